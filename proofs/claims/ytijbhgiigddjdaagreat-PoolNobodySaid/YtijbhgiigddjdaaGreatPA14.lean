/-
 The steps' functions; an empty log made. Conditions: each theorem's own.
-/
import Derived.Test.YtijbhgiigddjdaaGreatPA13
namespace Go.Proofs.YtijbhgiigddjdaaGreat.Wl
open Go Go.K Go.Proofs Go.Proofs.YtijbhgiigddjdaaGreat Go.Proofs.YtijbhgiigddjdaaGreat.Ca
set_option linter.unusedVariables false
set_option linter.unusedSimpArgs false
set_option maxRecDepth 10000

abbrev pv (b : Nat) : Value := .pointer (some ⟨b, 0, none⟩)
set_option maxHeartbeats 1000000 in
theorem WriteC (h : Base) (b3 b2 d : Nat) (m : Mas) (hm : MasOk m) (c3 : Cels h [] b3 0 [dv d]) (c2 : Cels h [] b2 0 (masV m)) (M : DM) (D : Dk) (hk : DkOk D) :
  Tr Tryz.prog 93 [pv b3, pv b2] h (dkA d M D) (fun u h' H' => u = .int .i64 (writeQ D 0 (masterB m)).1 ∧ ∃ M', H' = dkA d M' (writeQ D 0 (masterB m)).2) := by
 refine K.enter Tryz.func93 rfl (Nat.le_of_ble_eq_true rfl) (fun F => ?_)
 (repeat' first | refine X.rq ?_ | refine X.rc ?_ ?_ <;> intro hc <;> try omega)
 refine X.draw ([]) [] (.st 0 (.st 1 (.on 2 (.on 3 (.pu 4 .nil))))) ?_ (hQ := by repeat (first | with_reducible refine K.NoPanic.then ?_ | with_reducible refine K.NoPanic.inBlock ?_ | with_reducible exact K.post_noPanic _ _ | exact K.post_noPanic _ _ | exact K.QN_noPanic | exact K.postS_noPanic | exact K.postX_noPanic | exact K.RPX_noPanic))
 refine K.d_st rfl (K.p_load (Fx.agg rfl) rfl (Cels.up c3).1) rfl ?_
 refine K.d_st rfl (K.p_loadM (Fx.agg rfl) rfl (Cels.up c2) (Fx.sz rfl) rfl) rfl ?_
 refine K.d_on rfl (fun KK hKK => ?_)
 refine K.l_call (Fx.cal rfl) rfl (MBytes h m hm) (K.pp [] rfl) rfl ?_
 rintro u h2 H' le2 ⟨rfl, ao, ca, rfl, hb⟩
 simp only [List.nil_append]
 refine K.l_nil ?_
 refine X.onE hKK ?_
 refine K.d_on rfl (fun KK hKK => ?_)
 refine K.l_call (Fx.cal rfl) rfl (Write h2 d M D 0 _ (masterB m) hk (by omega) (by omega) hb (by rw [master_len]; omega)) (K.pp [0, 0, 0] rfl) rfl ?_
 rintro u h3 H' le3 ⟨rfl, ac, cap, c, rfl⟩
 have le9 := le2.trans le3
 refine K.l_nil ?_
 refine X.onE hKK ?_
 refine K.d_pu rfl (fun _ _ => X.sg) rfl ?_
 refine K.d_nil ?_
 (repeat' first | refine X.rq ?_ | refine X.rc ?_ ?_ <;> intro hc <;> try omega)
 exact K.done (vs := [.int .i64 (writeQ D 0 (masterB m)).1]) (by first | exact Or.inl rfl | exact Or.inr rfl) rfl (le2.trans le3) (H' := dkA d { M with ac := ac, cap := cap, c2 := c } (writeQ D 0 (masterB m)).2) rfl ⟨rfl, _, rfl⟩
theorem WriteV (h : Base) (d : Nat) (m : Mas) (hm : MasOk m) : Tr Tryz.prog 55 [.agg (masV m).toArray, dv d] h [] (fun v h' H' => H' = [] ∧ StepV h' d v (writeS m) ∧ ∃ f fst caps, v = .func f fst caps) := by
 refine K.enter Tryz.func55 rfl (Nat.le_of_ble_eq_true rfl) (fun F => ?_)
 (repeat' first | refine X.rq ?_ | refine X.rc ?_ ?_ <;> intro hc <;> try omega)
 refine K.l_box rfl rfl rfl (fun B2 => ?_)
 refine K.l_box rfl rfl rfl (fun B3 => ?_)
 refine K.WL.freezeBlk (fun h1 le1 c3 => ?_)
 refine K.WL.freezeBlk (fun h2 le2 c2 => ?_)
 (repeat' first | refine X.rq ?_ | refine X.rc ?_ ?_ <;> intro hc <;> try omega)
 refine K.s_pure (K.p_makeFunc rfl) rfl ?_
 (repeat' first | refine X.rq ?_ | refine X.rc ?_ ?_ <;> intro hc <;> try omega)
 exact K.done (vs := [.func (.func 93) #[] [pv B3, pv B2].toArray]) (by first | exact Or.inl rfl | exact Or.inr rfl) rfl (le1.trans le2) (H' := []) rfl ⟨rfl, ⟨writeS_good m, _, [], [pv B3, pv B2], rfl, (Fx.cal rfl), fun h' le M D hk _ => WriteC h' B3 B2 d m hm (Cels.le (le2.trans le) c3) (Cels.le le c2) M D hk⟩, _, _, _, rfl⟩
theorem made_nul : (madeCells (Value.int .u8 0).cells (512 * 1)).toList.take (512 * 1) = zs.map u8 := by
 have := made_rows [Value.int .u8 0] 512 512 (Nat.le_refl _) (by decide)
 have e : (List.replicate 512 [Value.int .u8 0]).flatten = zs.map u8 := by
  unfold zs
  rw [List.map_replicate]
  generalize 512 = k
  induction k with
  | zero => rfl
  | succ k ih => rw [List.replicate_succ, List.flatten_cons, ih, List.replicate_succ]; rfl
 rw [← e, ← this]
 rfl
set_option maxHeartbeats 1000000 in
theorem WipeC (h : Base) (b3 b2 d n : Nat) (hn : n ≤ 8192) (c3 : Cels h [] b3 0 [.int .i64 n]) (c2 : Cels h [] b2 0 [dv d]) (M : DM) (D : Dk) (hk : DkOk D) (hr : D.cache.length + n ≤ roomMax) :
  Tr Tryz.prog 92 [pv b3, pv b2] h (dkA d M D) (fun u h' H' => u = .int .i64 (wipeQ n 0 D).1 ∧ ∃ M', H' = dkA d M' (wipeQ n 0 D).2) := by
 refine K.enter Tryz.func92 rfl (Nat.le_of_ble_eq_true rfl) (fun F => ?_)
 (repeat' first | refine X.rq ?_ | refine X.rc ?_ ?_ <;> intro hc <;> try omega)
 refine K.s_pure (K.p_load (Fx.agg rfl) rfl (Cels.up c3).1) rfl ?_
 (repeat' first | refine X.rq ?_ | refine X.rc ?_ ?_ <;> intro hc <;> try omega)
 refine K.c_loop (σ := SpS) (fun q => [(1, pv b2), (5, .int .i64 n), (6, .int .i64 q.j)]) (fun q => q.hb) (fun q => dkA d q.M q.D ++ F)
  (fun q => q.j ≤ n ∧ h.le q.hb ∧ DkOk q.D ∧ q.D.cache.length + (n - q.j) ≤ roomMax ∧ wipeQ n 0 D = wipeQ (n - q.j) q.j q.D) (fun q => n - q.j) ⟨0, h, M, D⟩ ⟨Nat.zero_le _, K.Base.le.refl _, hk, hr, rfl⟩ (by repeat (first | exact K.Sub.nil _ | refine K.Sub.cons rfl ?_)) rfl rfl ?_
 rintro ⟨j, hb, M1, D1⟩ ⟨hj, hle, hk1, hr1, hq⟩ KL hKL
 dsimp only at hj hle hk1 hr1 hq ⊢
 by_cases hjl : j < n
 ·obtain ⟨r, hre⟩ : ∃ r, n - j = r + 1 := ⟨n - j - 1, by omega⟩
  rw [hre] at hr1 hq
  rw [wipeQ] at hq
  obtain ⟨a1, a2, a3⟩ := write_ok hk1 (by omega) (1 + j : Nat) zs
  (repeat' first | refine X.rq ?_ | refine X.rc ?_ ?_ <;> intro hc <;> try omega)
  refine X.draw ([]) [] (.pu 1 (.pu 2 (.st 0 (.on 3 (.on 4 (.pu 5 .nil)))))) ?_ (hQ := by repeat (first | with_reducible refine K.NoPanic.then ?_ | with_reducible refine K.NoPanic.inBlock ?_ | with_reducible exact K.post_noPanic _ _ | exact K.post_noPanic _ _ | exact K.QN_noPanic | exact K.postS_noPanic | exact K.postX_noPanic | exact K.RPX_noPanic))
  refine K.d_pu rfl (fun _ _ => X.mv) rfl ?_
  refine K.d_pu rfl (fun _ _ => X.badd) rfl ?_
  refine K.d_st rfl (K.p_load (Fx.agg rfl) rfl (Cels.up (Cels.le hle c2)).1) rfl ?_
  refine K.d_on rfl (fun KK hKK => ?_)
  refine K.l_makeSlice (m := 512) (c := 512) (Fx.und rfl) (Fx.sz rfl) (Fx.zr rfl) rfl (Fx.byt rfl) rfl rfl (by omega) (by omega) (by unfold maxLen; omega) rfl (fun B7 => ?_)
  rw [made_nul]
  refine K.WL.freezeBufN (l := zs) zs_len.symm (fun h2 le2 hb2 => ?_)
  refine K.l_nil ?_
  refine X.onE hKK ?_
  refine K.d_on rfl (fun KK hKK => ?_)
  rw [show (1 : Int) + (j : Int) = ((1 + j : Nat) : Int) by omega]
  refine K.l_call (Fx.cal rfl) rfl (Write h2 d M1 D1 ((1 + j : Nat) : Int) _ zs hk1 (by omega) (by omega) hb2 (by rw [zs_len]; omega)) (K.pp [0, 0, 0] rfl) rfl ?_
  rintro u h3 H' le3 ⟨rfl, ac, cap, c, rfl⟩
  have le9 := le2.trans le3
  refine K.l_nil ?_
  refine X.onE hKK ?_
  refine K.d_pu rfl (fun _ _ => X.sg) rfl ?_
  refine K.d_nil ?_
  have hle3 := hle.trans (le2.trans le3)
  by_cases he : (writeQ D1 ((1 + j : Nat) : Int) zs).1 = 0
  ·rw [if_neg (by omega)] at hq
   rw [he]
   (repeat' first | refine X.rq ?_ | refine X.rc ?_ ?_ <;> intro hc <;> try omega)
   all_goals try (exfalso; omega)
   refine K.a_round hKL ⟨j + 1, h3, { M1 with ac := ac, cap := cap, c2 := c }, (writeQ D1 ((1 + j : Nat) : Int) zs).2⟩ ⟨by dsimp only; omega, hle3, a1, by dsimp only; omega, by dsimp only; rw [hq, show n - (j + 1) = r by omega]⟩ (by repeat (first | exact K.Sub.nil _ | refine K.Sub.cons rfl ?_)) rfl rfl (by dsimp only; omega)
  ·rw [if_pos he] at hq
   (repeat' first | refine X.rq ?_ | refine X.rc ?_ ?_ <;> intro hc <;> try omega)
   all_goals try (exfalso; omega)
   exact K.done (vs := [.int .i64 _]) (by first | exact Or.inl rfl | exact Or.inr rfl) rfl hle3 (H' := dkA d _ _) rfl ⟨by rw [hq]; rfl, _, by rw [hq]⟩
 ·obtain rfl : j = n := by omega
  rw [Nat.sub_self] at hq
  rw [wipeQ] at hq
  (repeat' first | refine X.rq ?_ | refine X.rc ?_ ?_ <;> intro hc <;> try omega)
  exact K.done (vs := [.int .i64 0]) (by first | exact Or.inl rfl | exact Or.inr rfl) rfl hle (H' := dkA d M1 D1) rfl ⟨by rw [hq]; rfl, M1, by rw [hq]⟩
theorem WipeV (h : Base) (d n : Nat) (hn : n ≤ 8192) : Tr Tryz.prog 54 [dv d, .int .i64 n] h [] (fun v h' H' => H' = [] ∧ StepV h' d v (wipeS n) ∧ ∃ f fst caps, v = .func f fst caps) := by
 refine K.enter Tryz.func54 rfl (Nat.le_of_ble_eq_true rfl) (fun F => ?_)
 (repeat' first | refine X.rq ?_ | refine X.rc ?_ ?_ <;> intro hc <;> try omega)
 refine K.l_box rfl rfl rfl (fun B2 => ?_)
 refine K.l_box rfl rfl rfl (fun B3 => ?_)
 refine K.WL.freezeBlk (fun h1 le1 c3 => ?_)
 refine K.WL.freezeBlk (fun h2 le2 c2 => ?_)
 (repeat' first | refine X.rq ?_ | refine X.rc ?_ ?_ <;> intro hc <;> try omega)
 refine K.s_pure (K.p_makeFunc rfl) rfl ?_
 (repeat' first | refine X.rq ?_ | refine X.rc ?_ ?_ <;> intro hc <;> try omega)
 exact K.done (vs := [.func (.func 92) #[] [pv B3, pv B2].toArray]) (by first | exact Or.inl rfl | exact Or.inr rfl) rfl (le1.trans le2) (H' := []) rfl ⟨rfl, ⟨wipeS_good n, _, [], [pv B3, pv B2], rfl, (Fx.cal rfl), fun h' le M D hk hr => WipeC h' B3 B2 d n hn (Cels.le (le2.trans le) c3) (Cels.le le c2) M D hk hr⟩, _, _, _, rfl⟩
def master0 (n : Nat) : Mas := ⟨n, 1, 0, 0, false⟩
def formatQ (n : Int) (D : Dk) : Int × Dk := if n < 16 ∨ (D.kept.length : Int) ≤ n then (1, D) else stepsQ [wipeS n.toNat, writeS (master0 n.toNat), syncS] D
set_option maxHeartbeats 1000000 in
theorem Format (h : Base) (d : Nat) (M : DM) (D : Dk) (n : Int) (hk : DkOk D) (hr : D.cache.length + 10000 ≤ roomMax) :
  Tr Tryz.prog 20 [dv d, .int .i64 n] h (dkA d M D) (fun u h' H' => u = .int .i64 (formatQ n D).1 ∧ ∃ M', (n < 16 ∨ (D.kept.length : Int) ≤ n → M' = M) ∧ H' = dkA d M' (formatQ n D).2) := by
 have hse := Sectors h d M D
 have hf := hk.few
 refine K.enter Tryz.func20 rfl (Nat.le_of_ble_eq_true rfl) (fun F => ?_)
 by_cases hb : n < 16 ∨ (D.kept.length : Int) ≤ n
 ·have eq : formatQ n D = (1, D) := by unfold formatQ; rw [if_pos hb]
  rw [eq]
  by_cases h0 : n < 16
  ·(repeat' first | refine X.rq ?_ | refine X.rc ?_ ?_ <;> intro hc <;> try omega)
   all_goals try (exfalso; omega)
   exact K.done (vs := [.int .i64 1]) (by first | exact Or.inl rfl | exact Or.inr rfl) rfl (K.Base.le.refl _) (H' := dkA d M D) rfl ⟨rfl, M, fun _ => rfl, rfl⟩
  ·(repeat' first | refine X.rq ?_ | refine X.rc ?_ ?_ <;> intro hc <;> try omega)
   all_goals try (exfalso; omega)
   refine K.l_callV (Fx.cal rfl) rfl hse (K.pp [0, 0, 0] rfl) rfl rfl ?_
   (repeat' first | refine X.rq ?_ | refine X.rc ?_ ?_ <;> intro hc <;> try omega)
   all_goals try (exfalso; omega)
   exact K.done (vs := [.int .i64 1]) (by first | exact Or.inl rfl | exact Or.inr rfl) rfl (K.Base.le.refl _) (H' := dkA d M D) rfl ⟨rfl, M, fun _ => rfl, rfl⟩
 ·obtain ⟨k, rfl⟩ : ∃ k : Nat, n = (k : Int) := ⟨n.toNat, by omega⟩
  have hk8 : k ≤ 8192 := by omega
  have eq : formatQ (k : Int) D = stepsQ [wipeS k, writeS (master0 k), syncS] D := by unfold formatQ; rw [if_neg hb, Int.toNat_natCast]
  rw [eq]
  have hm : MasOk (master0 k) := ⟨hk8, by show (1 : Nat) < _; decide, by show (0 : Nat) < _; decide, by show (0 : Nat) < _; decide⟩
  (repeat' first | refine X.rq ?_ | refine X.rc ?_ ?_ <;> intro hc <;> try omega)
  all_goals try (exfalso; omega)
  refine K.l_callV (Fx.cal rfl) rfl hse (K.pp [0, 0, 0] rfl) rfl rfl ?_
  (repeat' first | refine X.rq ?_ | refine X.rc ?_ ?_ <;> intro hc <;> try omega)
  all_goals try (exfalso; omega)
  refine K.l_call (Fx.cal rfl) rfl (WipeV h d k hk8) (K.pp [] rfl) rfl ?_
  rintro u h1 H' le1 ⟨rfl, hs1, f1, g1, c1, rfl⟩
  simp only [List.nil_append]
  (repeat' first | refine X.rq ?_ | refine X.rc ?_ ?_ <;> intro hc <;> try omega)
  refine K.l_call (Fx.cal rfl) rfl (WriteV h1 d (master0 k) hm) (K.pp [] rfl) rfl ?_
  rintro u h2 H' le2 ⟨rfl, hs2, f2, g2, c2, rfl⟩
  simp only [List.nil_append]
  (repeat' first | refine X.rq ?_ | refine X.rc ?_ ?_ <;> intro hc <;> try omega)
  refine K.s_pure (K.p_makeFuncB rfl rfl) rfl ?_
  (repeat' first | refine X.rq ?_ | refine X.rc ?_ ?_ <;> intro hc <;> try omega)
  refine K.l_buildSlice (Fx.und rfl) (Fx.sz rfl) rfl (Fx.zr rfl) rfl rfl rfl rfl rfl (fun B9 => ?_)
  refine K.WL.bufOf (m := 3) (s := 1) rfl (by unfold maxLen; omega) ?_
  refine K.WL.freezeRowN (es := [.func f1 g1 c1, .func f2 g2 c2, .func (.func 52) #[dv d] #[]].map fun f => [f]) rfl (fun e he => by obtain ⟨n, _, rfl⟩ := List.mem_map.1 he; rfl) (fun h3 le3 hs3 => ?_)
  have hsv : ∀ (j : Nat) f s, [Value.func f1 g1 c1, .func f2 g2 c2, .func (.func 52) #[dv d] #[]][j]? = some f → [wipeS k, writeS (master0 k), syncS][j]? = some s → StepV h3 d f s := fun j f s hf hs => by
   match j with
   | 0 => cases hf; cases hs; exact hs1.le (le2.trans le3)
   | 1 => cases hf; cases hs; exact hs2.le le3
   | 2 => cases hf; cases hs; exact syncV h3 d
   | j + 3 => simp at hf
  (repeat' first | refine X.rq ?_ | refine X.rc ?_ ?_ <;> intro hc <;> try omega)
  refine K.l_call (Fx.cal rfl) rfl (Steps h3 d M D _ _ _ hs3 rfl (by show 3 ≤ 1000; decide) hsv hk (by simp only [sumK, wipeS, writeS, syncS]; omega)) (K.pp [0, 0, 0] rfl) rfl ?_
  rintro u h4 H' le4 ⟨rfl, M', rfl⟩
  (repeat' first | refine X.rq ?_ | refine X.rc ?_ ?_ <;> intro hc <;> try omega)
  exact K.done (vs := [.int .i64 _]) (by first | exact Or.inl rfl | exact Or.inr rfl) rfl (le1.trans (le2.trans (le3.trans le4))) (H' := dkA d M' _) rfl ⟨rfl, M', fun h => absurd h hb, rfl⟩
end Go.Proofs.YtijbhgiigddjdaaGreat.Wl
