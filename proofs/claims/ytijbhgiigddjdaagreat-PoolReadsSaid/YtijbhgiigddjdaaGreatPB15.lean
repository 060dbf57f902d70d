/-
  Texts joined: Sf MX Cc. Conditions: each theorem's own.
-/
import Derived.Test.YtijbhgiigddjdaaGreatPB14
import Derived.Test.YtijbhgiigddjdaaGreatPB0
import Derived.Test.YtijbhgiigddjdaaGreatPB3
set_option linter.unusedVariables false
set_option linter.unusedSimpArgs false
section
namespace Go.Proofs.YtijbhgiigddjdaaGreat.Wl
open Go Go.K Go.Proofs Go.Proofs.YtijbhgiigddjdaaGreat Go.Proofs.YtijbhgiigddjdaaGreat.Ca
set_option maxRecDepth 10000

abbrev pv (b : Nat) : Value := .pointer (some ⟨b, 0, none⟩)
set_option maxHeartbeats 1000000 in
theorem WriteC (h : Base) (b3 b2 d : Nat) (m : Mas) (hm : MasOk m) (c3 : Cels h [] b3 0 [dv d]) (c2 : Cels h [] b2 0 (masV m)) (M : DM) (D : Dk) (hk : DkOk D) :
  Tr Tryz.prog 93 [pv b3, pv b2] h (dkA d M D) (fun u h' H' => u = .int .i64 (writeQ D 0 (masterB m)).1 ∧ ∃ M', H' = dkA d M' (writeQ D 0 (masterB m)).2) := by
 refine K.enter Tryz.func93 rfl (Nat.le_of_ble_eq_true rfl) (fun F => ?_)
 (repeat' first | refine X.rq ?_ | refine X.rc ?_ ?_ <;> intro hc <;> try omega)
 refine X.draw ([]) [] (.st 0 (.st 1 (.on 2 (.on 3 (.pu 4 .nil))))) ?_ (hQ := by repeat (first | with_reducible refine K.NoPanic.then ?_ | with_reducible refine K.NoPanic.inBlock ?_ | with_reducible exact K.post_noPanic _ _ | exact K.post_noPanic _ _ | exact K.QN_noPanic | exact K.postS_noPanic | exact K.postX_noPanic | exact K.RPX_noPanic))
 refine K.d_st rfl (K.p_load (Fx.agg rfl) rfl (Cels.up c3).1) rfl ?_
 refine K.d_st rfl (K.p_loadM (Fx.agg rfl) rfl (Cels.up c2) (Fx.sz rfl) rfl) rfl ?_
 refine K.d_on rfl (fun KK hKK => ?_)
 refine K.l_call (Fx.cal rfl) rfl (MBytes h m hm) (K.pp [] rfl) rfl ?_
 rintro u h2 H' le2 ⟨rfl, ao, ca, rfl, hb⟩
 simp only [List.nil_append]
 refine K.l_nil ?_
 refine X.onE hKK ?_
 refine K.d_on rfl (fun KK hKK => ?_)
 refine K.l_call (Fx.cal rfl) rfl (Write h2 d M D 0 _ (masterB m) hk (by omega) (by omega) hb (by rw [master_len]; omega)) (K.pp [0, 0, 0] rfl) rfl ?_
 rintro u h3 H' le3 ⟨rfl, ac, cap, c, rfl⟩
 have le9 := le2.trans le3
 refine K.l_nil ?_
 refine X.onE hKK ?_
 refine K.d_pu rfl (fun _ _ => X.sg) rfl ?_
 refine K.d_nil ?_
 (repeat' first | refine X.rq ?_ | refine X.rc ?_ ?_ <;> intro hc <;> try omega)
 exact K.dn (vs := [.int .i64 (writeQ D 0 (masterB m)).1]) rfl (le2.trans le3) (H' := dkA d { M with ac := ac, cap := cap, c2 := c } (writeQ D 0 (masterB m)).2) rfl ⟨rfl, _, rfl⟩
theorem WriteV (h : Base) (d : Nat) (m : Mas) (hm : MasOk m) : Tr Tryz.prog 55 [.agg (masV m).toArray, dv d] h [] (fun v h' H' => H' = [] ∧ StepV h' d v (writeS m) ∧ ∃ f fst caps, v = .func f fst caps) := by
 refine K.enter Tryz.func55 rfl (Nat.le_of_ble_eq_true rfl) (fun F => ?_)
 (repeat' first | refine X.rq ?_ | refine X.rc ?_ ?_ <;> intro hc <;> try omega)
 refine K.l_box rfl rfl rfl (fun B2 => ?_)
 refine K.l_box rfl rfl rfl (fun B3 => ?_)
 refine K.WL.freezeBlk (fun h1 le1 c3 => ?_)
 refine K.WL.freezeBlk (fun h2 le2 c2 => ?_)
 (repeat' first | refine X.rq ?_ | refine X.rc ?_ ?_ <;> intro hc <;> try omega)
 refine K.s_pure (K.p_makeFunc rfl) rfl ?_
 (repeat' first | refine X.rq ?_ | refine X.rc ?_ ?_ <;> intro hc <;> try omega)
 exact K.dn (vs := [.func (.func 93) #[] [pv B3, pv B2].toArray]) rfl (le1.trans le2) (H' := []) rfl ⟨rfl, ⟨writeS_good m, _, [], [pv B3, pv B2], rfl, (Fx.cal rfl), fun h' le M D hk _ => WriteC h' B3 B2 d m hm (Cels.le (le2.trans le) c3) (Cels.le le c2) M D hk⟩, _, _, _, rfl⟩
theorem made_nul : (madeCells (Value.int .u8 0).cells (512 * 1)).toList.take (512 * 1) = zs.map u8 := by
 have := made_rows [Value.int .u8 0] 512 512 (Nat.le_refl _) (by decide)
 have e : (List.replicate 512 [Value.int .u8 0]).flatten = zs.map u8 := by
  unfold zs
  rw [List.map_replicate]
  generalize 512 = k
  induction k with
  | zero => rfl
  | succ k ih => rw [List.replicate_succ, List.flatten_cons, ih, List.replicate_succ]; rfl
 rw [← e, ← this]
 rfl
set_option maxHeartbeats 1000000 in
theorem WipeC (h : Base) (b3 b2 d n : Nat) (hn : n ≤ 8192) (c3 : Cels h [] b3 0 [.int .i64 n]) (c2 : Cels h [] b2 0 [dv d]) (M : DM) (D : Dk) (hk : DkOk D) (hr : D.cache.length + n ≤ roomMax) :
  Tr Tryz.prog 92 [pv b3, pv b2] h (dkA d M D) (fun u h' H' => u = .int .i64 (wipeQ n 0 D).1 ∧ ∃ M', H' = dkA d M' (wipeQ n 0 D).2) := by
 refine K.enter Tryz.func92 rfl (Nat.le_of_ble_eq_true rfl) (fun F => ?_)
 (repeat' first | refine X.rq ?_ | refine X.rc ?_ ?_ <;> intro hc <;> try omega)
 refine K.s_pure (K.p_load (Fx.agg rfl) rfl (Cels.up c3).1) rfl ?_
 (repeat' first | refine X.rq ?_ | refine X.rc ?_ ?_ <;> intro hc <;> try omega)
 refine K.c_loop (σ := SpS) (fun q => [(1, pv b2), (5, .int .i64 n), (6, .int .i64 q.j)]) (fun q => q.hb) (fun q => dkA d q.M q.D ++ F)
  (fun q => q.j ≤ n ∧ h.le q.hb ∧ DkOk q.D ∧ q.D.cache.length + (n - q.j) ≤ roomMax ∧ wipeQ n 0 D = wipeQ (n - q.j) q.j q.D) (fun q => n - q.j) ⟨0, h, M, D⟩ ⟨Nat.zero_le _, K.Base.le.refl _, hk, hr, rfl⟩ (by repeat (first | exact K.Sub.nil _ | refine K.Sub.cons rfl ?_)) rfl rfl ?_
 rintro ⟨j, hb, M1, D1⟩ ⟨hj, hle, hk1, hr1, hq⟩ KL hKL
 dsimp only at hj hle hk1 hr1 hq ⊢
 by_cases hjl : j < n
 ·obtain ⟨r, hre⟩ : ∃ r, n - j = r + 1 := ⟨n - j - 1, by omega⟩
  rw [hre] at hr1 hq
  rw [wipeQ] at hq
  obtain ⟨a1, a2, a3⟩ := write_ok hk1 (by omega) (1 + j : Nat) zs
  (repeat' first | refine X.rq ?_ | refine X.rc ?_ ?_ <;> intro hc <;> try omega)
  refine X.draw ([]) [] (.pu 1 (.pu 2 (.st 0 (.on 3 (.on 4 (.pu 5 .nil)))))) ?_ (hQ := by repeat (first | with_reducible refine K.NoPanic.then ?_ | with_reducible refine K.NoPanic.inBlock ?_ | with_reducible exact K.post_noPanic _ _ | exact K.post_noPanic _ _ | exact K.QN_noPanic | exact K.postS_noPanic | exact K.postX_noPanic | exact K.RPX_noPanic))
  refine K.d_pu rfl (fun _ _ => X.mv) rfl ?_
  refine K.d_pu rfl (fun _ _ => X.badd) rfl ?_
  refine K.d_st rfl (K.p_load (Fx.agg rfl) rfl (Cels.up (Cels.le hle c2)).1) rfl ?_
  refine K.d_on rfl (fun KK hKK => ?_)
  refine K.l_makeSlice (m := 512) (c := 512) (Fx.und rfl) (Fx.sz rfl) (Fx.zr rfl) rfl (Fx.byt rfl) rfl rfl (by omega) (by omega) (by unfold maxLen; omega) rfl (fun B7 => ?_)
  rw [made_nul]
  refine K.WL.freezeBufN (l := zs) zs_len.symm (fun h2 le2 hb2 => ?_)
  refine K.l_nil ?_
  refine X.onE hKK ?_
  refine K.d_on rfl (fun KK hKK => ?_)
  rw [show (1 : Int) + (j : Int) = ((1 + j : Nat) : Int) by omega]
  refine K.l_call (Fx.cal rfl) rfl (Write h2 d M1 D1 ((1 + j : Nat) : Int) _ zs hk1 (by omega) (by omega) hb2 (by rw [zs_len]; omega)) (K.pp [0, 0, 0] rfl) rfl ?_
  rintro u h3 H' le3 ⟨rfl, ac, cap, c, rfl⟩
  have le9 := le2.trans le3
  refine K.l_nil ?_
  refine X.onE hKK ?_
  refine K.d_pu rfl (fun _ _ => X.sg) rfl ?_
  refine K.d_nil ?_
  have hle3 := hle.trans (le2.trans le3)
  by_cases he : (writeQ D1 ((1 + j : Nat) : Int) zs).1 = 0
  ·rw [if_neg (by omega)] at hq
   rw [he]
   (repeat' first | refine X.rq ?_ | refine X.rc ?_ ?_ <;> intro hc <;> try omega)
   all_goals try (exfalso; omega)
   refine K.a_round hKL ⟨j + 1, h3, { M1 with ac := ac, cap := cap, c2 := c }, (writeQ D1 ((1 + j : Nat) : Int) zs).2⟩ ⟨by dsimp only; omega, hle3, a1, by dsimp only; omega, by dsimp only; rw [hq, show n - (j + 1) = r by omega]⟩ (by repeat (first | exact K.Sub.nil _ | refine K.Sub.cons rfl ?_)) rfl rfl (by dsimp only; omega)
  ·rw [if_pos he] at hq
   (repeat' first | refine X.rq ?_ | refine X.rc ?_ ?_ <;> intro hc <;> try omega)
   all_goals try (exfalso; omega)
   exact K.dn (vs := [.int .i64 _]) rfl hle3 (H' := dkA d _ _) rfl ⟨by rw [hq]; rfl, _, by rw [hq]⟩
 ·obtain rfl : j = n := by omega
  rw [Nat.sub_self] at hq
  rw [wipeQ] at hq
  (repeat' first | refine X.rq ?_ | refine X.rc ?_ ?_ <;> intro hc <;> try omega)
  exact K.dn (vs := [.int .i64 0]) rfl hle (H' := dkA d M1 D1) rfl ⟨by rw [hq]; rfl, M1, by rw [hq]⟩
theorem WipeV (h : Base) (d n : Nat) (hn : n ≤ 8192) : Tr Tryz.prog 54 [dv d, .int .i64 n] h [] (fun v h' H' => H' = [] ∧ StepV h' d v (wipeS n) ∧ ∃ f fst caps, v = .func f fst caps) := by
 refine K.enter Tryz.func54 rfl (Nat.le_of_ble_eq_true rfl) (fun F => ?_)
 (repeat' first | refine X.rq ?_ | refine X.rc ?_ ?_ <;> intro hc <;> try omega)
 refine K.l_box rfl rfl rfl (fun B2 => ?_)
 refine K.l_box rfl rfl rfl (fun B3 => ?_)
 refine K.WL.freezeBlk (fun h1 le1 c3 => ?_)
 refine K.WL.freezeBlk (fun h2 le2 c2 => ?_)
 (repeat' first | refine X.rq ?_ | refine X.rc ?_ ?_ <;> intro hc <;> try omega)
 refine K.s_pure (K.p_makeFunc rfl) rfl ?_
 (repeat' first | refine X.rq ?_ | refine X.rc ?_ ?_ <;> intro hc <;> try omega)
 exact K.dn (vs := [.func (.func 92) #[] [pv B3, pv B2].toArray]) rfl (le1.trans le2) (H' := []) rfl ⟨rfl, ⟨wipeS_good n, _, [], [pv B3, pv B2], rfl, (Fx.cal rfl), fun h' le M D hk hr => WipeC h' B3 B2 d n hn (Cels.le (le2.trans le) c3) (Cels.le le c2) M D hk hr⟩, _, _, _, rfl⟩
def master0 (n : Nat) : Mas := ⟨n, 1, 0, 0, false⟩
def formatQ (n : Int) (D : Dk) : Int × Dk := if n < 16 ∨ (D.kept.length : Int) ≤ n then (1, D) else stepsQ [wipeS n.toNat, writeS (master0 n.toNat), syncS] D
set_option maxHeartbeats 1000000 in
theorem Format (h : Base) (d : Nat) (M : DM) (D : Dk) (n : Int) (hk : DkOk D) (hr : D.cache.length + 10000 ≤ roomMax) :
  Tr Tryz.prog 20 [dv d, .int .i64 n] h (dkA d M D) (fun u h' H' => u = .int .i64 (formatQ n D).1 ∧ ∃ M', (n < 16 ∨ (D.kept.length : Int) ≤ n → M' = M) ∧ H' = dkA d M' (formatQ n D).2) := by
 have hse := Sectors h d M D
 have hf := hk.few
 refine K.enter Tryz.func20 rfl (Nat.le_of_ble_eq_true rfl) (fun F => ?_)
 by_cases hb : n < 16 ∨ (D.kept.length : Int) ≤ n
 ·have eq : formatQ n D = (1, D) := by unfold formatQ; rw [if_pos hb]
  rw [eq]
  by_cases h0 : n < 16
  ·(repeat' first | refine X.rq ?_ | refine X.rc ?_ ?_ <;> intro hc <;> try omega)
   all_goals try (exfalso; omega)
   exact K.dn (vs := [.int .i64 1]) rfl (K.Base.le.refl _) (H' := dkA d M D) rfl ⟨rfl, M, fun _ => rfl, rfl⟩
  ·(repeat' first | refine X.rq ?_ | refine X.rc ?_ ?_ <;> intro hc <;> try omega)
   all_goals try (exfalso; omega)
   refine K.l_callV (Fx.cal rfl) rfl hse (K.pp [0, 0, 0] rfl) rfl rfl ?_
   (repeat' first | refine X.rq ?_ | refine X.rc ?_ ?_ <;> intro hc <;> try omega)
   all_goals try (exfalso; omega)
   exact K.dn (vs := [.int .i64 1]) rfl (K.Base.le.refl _) (H' := dkA d M D) rfl ⟨rfl, M, fun _ => rfl, rfl⟩
 ·obtain ⟨k, rfl⟩ : ∃ k : Nat, n = (k : Int) := ⟨n.toNat, by omega⟩
  have hk8 : k ≤ 8192 := by omega
  have eq : formatQ (k : Int) D = stepsQ [wipeS k, writeS (master0 k), syncS] D := by unfold formatQ; rw [if_neg hb, Int.toNat_natCast]
  rw [eq]
  have hm : MasOk (master0 k) := ⟨hk8, by show (1 : Nat) < _; decide, by show (0 : Nat) < _; decide, by show (0 : Nat) < _; decide⟩
  (repeat' first | refine X.rq ?_ | refine X.rc ?_ ?_ <;> intro hc <;> try omega)
  all_goals try (exfalso; omega)
  refine K.l_callV (Fx.cal rfl) rfl hse (K.pp [0, 0, 0] rfl) rfl rfl ?_
  (repeat' first | refine X.rq ?_ | refine X.rc ?_ ?_ <;> intro hc <;> try omega)
  all_goals try (exfalso; omega)
  refine K.l_call (Fx.cal rfl) rfl (WipeV h d k hk8) (K.pp [] rfl) rfl ?_
  rintro u h1 H' le1 ⟨rfl, hs1, f1, g1, c1, rfl⟩
  simp only [List.nil_append]
  (repeat' first | refine X.rq ?_ | refine X.rc ?_ ?_ <;> intro hc <;> try omega)
  refine K.l_call (Fx.cal rfl) rfl (WriteV h1 d (master0 k) hm) (K.pp [] rfl) rfl ?_
  rintro u h2 H' le2 ⟨rfl, hs2, f2, g2, c2, rfl⟩
  simp only [List.nil_append]
  (repeat' first | refine X.rq ?_ | refine X.rc ?_ ?_ <;> intro hc <;> try omega)
  refine K.s_pure (K.p_makeFuncB rfl rfl) rfl ?_
  (repeat' first | refine X.rq ?_ | refine X.rc ?_ ?_ <;> intro hc <;> try omega)
  refine K.l_buildSlice (Fx.und rfl) (Fx.sz rfl) rfl (Fx.zr rfl) rfl rfl rfl rfl rfl (fun B9 => ?_)
  refine K.WL.bufOf (m := 3) (s := 1) rfl (by unfold maxLen; omega) ?_
  refine K.WL.freezeRowN (es := [.func f1 g1 c1, .func f2 g2 c2, .func (.func 52) #[dv d] #[]].map fun f => [f]) rfl (fun e he => by obtain ⟨n, _, rfl⟩ := List.mem_map.1 he; rfl) (fun h3 le3 hs3 => ?_)
  have hsv : ∀ (j : Nat) f s, [Value.func f1 g1 c1, .func f2 g2 c2, .func (.func 52) #[dv d] #[]][j]? = some f → [wipeS k, writeS (master0 k), syncS][j]? = some s → StepV h3 d f s := fun j f s hf hs => by
   match j with
   | 0 => cases hf; cases hs; exact hs1.le (le2.trans le3)
   | 1 => cases hf; cases hs; exact hs2.le le3
   | 2 => cases hf; cases hs; exact syncV h3 d
   | j + 3 => simp at hf
  (repeat' first | refine X.rq ?_ | refine X.rc ?_ ?_ <;> intro hc <;> try omega)
  refine K.l_call (Fx.cal rfl) rfl (Steps h3 d M D _ _ _ hs3 rfl (by show 3 ≤ 1000; decide) hsv hk (by simp only [sumK, wipeS, writeS, syncS]; omega)) (K.pp [0, 0, 0] rfl) rfl ?_
  rintro u h4 H' le4 ⟨rfl, M', rfl⟩
  (repeat' first | refine X.rq ?_ | refine X.rc ?_ ?_ <;> intro hc <;> try omega)
  exact K.dn (vs := [.int .i64 _]) rfl (le1.trans (le2.trans (le3.trans le4))) (H' := dkA d M' _) rfl ⟨rfl, M', fun h => absurd h hb, rfl⟩
end Go.Proofs.YtijbhgiigddjdaaGreat.Wl
end

section
/-! M1: plain laws of numbers in bytes, no program in sight. Conditions: each theorem's own. -/
namespace Go.K

def leNum : List UInt8 → Nat
 | [] => 0
 | c :: r => c.toNat + 256 * leNum r
theorem leNum_lt : ∀ l : List UInt8, leNum l < 256 ^ l.length
 | [] => by simp [leNum]
 | c :: r => by
  have := leNum_lt r
  have hc := c.toNat_lt
  rw [leNum, List.length_cons, Nat.pow_succ]
  omega
theorem leNum_snoc : ∀ (l : List UInt8) (c : UInt8), leNum (l ++ [c]) = leNum l + c.toNat * 256 ^ l.length
 | [], c => by simp [leNum]
 | x :: r, c => by
  rw [List.cons_append, leNum, leNum_snoc r c, leNum, List.length_cons, Nat.pow_succ, Nat.mul_add]
  have : 256 * (c.toNat * 256 ^ r.length) = c.toNat * (256 ^ r.length * 256) := by
   rw [Nat.mul_left_comm, Nat.mul_comm 256]
  omega
theorem leNum_lebs : ∀ (m x : Nat), x < 256 ^ m → leNum (lebs x m) = x
 | 0, x, h => by simp at h; simp [lebs, leNum, h]
 | m + 1, x, h => by
  rw [lebs, leNum, leNum_lebs m (x / 256) (by rw [Nat.pow_succ] at h; exact Nat.div_lt_of_lt_mul (by rw [Nat.mul_comm]; exact h))]
  simp
  omega
theorem lebs_leNum : ∀ l : List UInt8, lebs (leNum l) l.length = l
 | [] => rfl
 | c :: r => by
  have hc := c.toNat_lt
  rw [leNum, List.length_cons, lebs]
  rw [show (c.toNat + 256 * leNum r) / 256 = leNum r from by omega, lebs_leNum r]
  congr 1
  rw [show (c.toNat + 256 * leNum r) % 256 = c.toNat from by omega]
  simp

theorem or_shift (x c i : Nat) (w : Nat) (hx : x < 2 ^ i) (hw : c < 2 ^ w) (h64 : i + w ≤ 64) :
  bits .or .u64 (x : Int) (IntKind.u64.wrap ((c : Int) * 2 ^ (min ((i : Int)).toNat IntKind.u64.bits))) = ((x + c * 2 ^ i : Nat) : Int) := by
 have hm : min ((i : Int)).toNat IntKind.u64.bits = i := by simp [IntKind.bits]; omega
 have hpow : (2 : Nat) ^ i * 2 ^ w ≤ 2 ^ 64 := by rw [← Nat.pow_add]; exact Nat.pow_le_pow_right (by omega) h64
 have hc : c * 2 ^ i < 2 ^ 64 := by
  have : c * 2 ^ i < 2 ^ w * 2 ^ i := Nat.mul_lt_mul_of_pos_right hw (Nat.two_pow_pos i)
  rw [Nat.mul_comm (2 ^ w)] at this
  omega
 have e1 : IntKind.u64.wrap ((c : Int) * 2 ^ i) = ((c * 2 ^ i : Nat) : Int) := by
  rw [wu64]
  have : ((c : Int) * 2 ^ i) = ((c * 2 ^ i : Nat) : Int) := by simp
  rw [this]
  have h2 : (2 : Nat) ^ 64 = 18446744073709551616 := by decide
  omega
 rw [hm, e1, u64_or_nat _ _ (by
  have h2 : (2 : Nat) ^ 64 = 18446744073709551616 := by decide
  have : (2 : Nat) ^ i ≤ 2 ^ 64 := Nat.pow_le_pow_right (by omega) (by omega)
  omega) (by
  have h2 : (2 : Nat) ^ 64 = 18446744073709551616 := by decide
  omega)]
 congr 1
 have := nat_join i (c * 2 ^ i) x (Nat.mul_mod_left _ _) hx
 rw [Nat.or_comm, this, Nat.add_comm]
theorem and127 (c : UInt8) : bits .and .u8 (c.toNat : Int) 127 = ((c.toNat % 128 : Nat) : Int) := by
 rw [show (127 : Int) = ((127 : Nat) : Int) from rfl, u8_and_nat _ _ c.toNat_lt (by omega), nat_mask7]

def frontF : Nat → Nat → List UInt8 → Option (Nat × Nat)
 | _, _, [] => none
 | i, acc, c :: r =>
  if i = 10 ∨ (i = 9 ∧ 1 < c.toNat) then none
  else if c.toNat < 128 then (if 0 < c.toNat ∨ i = 0 then some (acc + c.toNat % 128 * 128 ^ i, i + 1) else none)
  else frontF (i + 1) (acc + c.toNat % 128 * 128 ^ i) r
def front (l : List UInt8) : Option (Nat × Nat) := frontF 0 0 l
theorem frontF_le : ∀ (l : List UInt8) (i acc x m : Nat), i ≤ 10 → frontF i acc l = some (x, m) → i < m ∧ m ≤ i + l.length ∧ m ≤ 10
 | [], i, acc, x, m, _, h => by simp [frontF] at h
 | c :: r, i, acc, x, m, hi, h => by
  rw [frontF] at h
  split at h
  ·cases h
  ·rename_i h1
   split at h
   ·split at h
    ·cases h
     simp; omega
    ·cases h
   ·have := frontF_le r (i + 1) _ x m (by omega) h
    simp; omega
theorem front_le {l : List UInt8} {x m : Nat} (h : front l = some (x, m)) : 1 ≤ m ∧ m ≤ l.length ∧ m ≤ 10 := by
 have := frontF_le l 0 0 x m (by omega) h
 omega
theorem frontF_lt : ∀ (l : List UInt8) (i acc x m : Nat), i ≤ 10 → acc < 128 ^ i → (i = 10 → acc < 18446744073709551616) → frontF i acc l = some (x, m) → x < 18446744073709551616
 | [], i, acc, x, m, _, _, _, h => by simp [frontF] at h
 | c :: r, i, acc, x, m, hi, ha, ha2, h => by
  rw [frontF] at h
  split at h
  ·cases h
  ·rename_i h1
   have hc : c.toNat % 128 < 128 := Nat.mod_lt _ (by omega)
   have hstep : acc + c.toNat % 128 * 128 ^ i < 128 ^ (i + 1) := by
    rw [Nat.pow_succ]
    have : c.toNat % 128 * 128 ^ i ≤ 127 * 128 ^ i := Nat.mul_le_mul_right _ (by omega)
    omega
   have h9 : i = 9 → acc + c.toNat % 128 * 128 ^ i < 18446744073709551616 := fun e => by
    subst e
    have hc1 : c.toNat ≤ 1 := by omega
    have : c.toNat % 128 ≤ 1 := by omega
    have : c.toNat % 128 * 128 ^ 9 ≤ 1 * 128 ^ 9 := Nat.mul_le_mul_right _ this
    have e9 : (128 : Nat) ^ 9 = 9223372036854775808 := by decide
    omega
   have hle : i ≤ 8 → acc + c.toNat % 128 * 128 ^ i < 18446744073709551616 := fun e => by
    have : (128 : Nat) ^ (i + 1) ≤ 128 ^ 9 := Nat.pow_le_pow_right (by omega) (by omega)
    have e9 : (128 : Nat) ^ 9 = 9223372036854775808 := by decide
    omega
   split at h
   ·split at h
    ·cases h
     rcases Nat.lt_or_ge i 9 with h' | h'
     ·exact hle (by omega)
     ·exact h9 (by omega)
    ·cases h
   ·refine frontF_lt r (i + 1) _ x m (by omega) hstep (fun e => h9 (by omega)) h
theorem front_lt {l : List UInt8} {x m : Nat} (h : front l = some (x, m)) : x < 18446744073709551616 := frontF_lt l 0 0 x m (by omega) (by simp) (by omega) h
theorem frontF_cu : ∀ (f i acc x : Nat) (r : List UInt8), f + i ≤ 9 → x < 128 ^ (f + 1) → (i + f = 9 → x / 128 ^ f ≤ 1) → (i = 0 ∨ 0 < x) → frontF i acc (cuF f x ++ r) = some (acc + x * 128 ^ i, i + (cuF f x).length)
 | 0, i, acc, x, r, hi, hx, h9, h0 => by
  simp at hx
  rw [cuF, List.singleton_append, frontF]
  have hc : (UInt8.ofNat x).toNat = x := by simp; omega
  rw [hc, if_neg (by intro h; rcases h with h | h; omega; have := h9 (by omega); simp at this; omega), if_pos hx, if_pos (by omega), Nat.mod_eq_of_lt hx]
  simp
 | f + 1, i, acc, x, r, hi, hx, h9, h0 => by
  rw [cuF]
  by_cases hlt : x < 128
  ·rw [if_pos hlt, List.singleton_append, frontF]
   have hc : (UInt8.ofNat x).toNat = x := by simp; omega
   rw [hc, if_neg (by omega), if_pos hlt, if_pos (by omega), Nat.mod_eq_of_lt hlt]
   simp
  ·rw [if_neg hlt, List.cons_append, frontF]
   have hc : (UInt8.ofNat (x % 128 + 128)).toNat = x % 128 + 128 := by simp; omega
   rw [hc, if_neg (by omega), if_neg (by omega)]
   rw [frontF_cu f (i + 1) _ (x / 128) r (by omega) (by rw [Nat.pow_succ] at hx; exact Nat.div_lt_of_lt_mul (by rw [Nat.mul_comm]; exact hx)) (fun e => by
    have := h9 (by omega)
    rwa [Nat.div_div_eq_div_mul, Nat.mul_comm, ← Nat.pow_succ]) (.inr (by omega))]
   congr 1
   rw [Prod.mk.injEq]
   constructor
   ·rw [Nat.add_mod_right, Nat.mod_mod, Nat.pow_succ, Nat.add_assoc, ← Nat.mul_assoc]
    congr 1
    rw [Nat.mul_right_comm, ← Nat.add_mul]
    congr 1
    omega
   ·simp; omega
theorem front_cu (x : Nat) (hx : x < 18446744073709551616) (r : List UInt8) : front (cu x ++ r) = some (x, (cu x).length) := by
 have := frontF_cu 9 0 0 x r (by omega) (Nat.lt_of_lt_of_le hx (by decide)) (fun _ => by
  have e9 : (128 : Nat) ^ 9 = 9223372036854775808 := by decide
  rw [e9]; omega) (.inl rfl)
 simpa [front, cu] using this
def unzig (x : Nat) : Int := if x % 2 = 0 then ((x / 2 : Nat) : Int) else -((x / 2 : Nat) : Int) - 1
end Go.K

/-! M2: a counted number has one form. Plain law, no program. Conditions: none. -/
namespace Go.K

end Go.K

/-! M3: the reference's way to a counted number: how many bytes go on, then the number from its end. Plain law, no program. Conditions: none. -/
namespace Go.K

def num7 : List UInt8 → Nat
 | [] => 0
 | c :: r => c.toNat % 128 + 128 * num7 r
def badEnd (i : Nat) (l : List UInt8) (n : Nat) : Prop := match l[n]? with
 | none => True
 | some c => 9 < i + n ∨ (i + n = 9 ∧ 1 < c.toNat) ∨ (0 < i + n ∧ c.toNat = 0)
theorem leNum_drop {l : List UInt8} {j : Nat} {c : UInt8} (hc : l[j]? = some c) : leNum (l.drop j) = c.toNat + 256 * leNum (l.drop (j + 1)) := by
 obtain ⟨hlt, he⟩ := List.getElem?_eq_some_iff.1 hc
 rw [List.drop_eq_getElem_cons hlt, he, leNum]
end Go.K
end

section
namespace Go.Proofs.YtijbhgiigddjdaaGreat.Cc
open Go Go.K Go.Proofs Go.Proofs.YtijbhgiigddjdaaGreat
set_option maxRecDepth 10000

abbrev unit : Value := .tuple #[]
def big : Nat := 140737488355328
structure RS where
 p : Nat
 made : Bool
 sv : Value
 bad : Bool
def rv : Option RS → Value
 | none => .pointer none
 | some r => .pointer (some ⟨r.p, 0, none⟩)
def rA : Option RS → Asrt
 | none => all []
 | some r => blk r.p 178 [.bool r.made, r.sv, .bool r.bad]
def Rd (h : Base) (s : Option RS) (ok : Bool) (rem : List UInt8) : Prop := match s with
 | none => ok = false ∧ rem = []
 | some r => ok = (r.made && !r.bad) ∧ BV h r.sv rem
def same : Option RS → Option RS → Prop
 | none, none => True
 | some r, some r' => r'.p = r.p
 | _, _ => False
theorem same_refl : ∀ s, same s s
 | none => trivial
 | some _ => rfl
theorem same_trans : ∀ {a b c : Option RS}, same a b → same b c → same a c
 | none, none, none, _, _ => trivial
 | some _, some _, some _, h1, h2 => Eq.trans h2 h1
 | none, some _, _, h1, _ => h1.elim
 | some _, none, _, h1, _ => h1.elim
 | none, none, some _, _, h2 => h2.elim
 | some _, some _, none, _, h2 => h2.elim
theorem same_val : ∀ {a b : Option RS}, same a b → rv b = rv a
 | none, none, _ => rfl
 | some r, some r', e => by show Value.pointer _ = Value.pointer _; rw [show r'.p = r.p from e]
 | none, some _, h1 => h1.elim
 | some _, none, h1 => h1.elim
theorem Rd.le {h h' : Base} {s : Option RS} {ok : Bool} {rem : List UInt8} (hr : Rd h s ok rem) (hle : h.le h') : Rd h' s ok rem := by
 cases s with
 | none => exact hr
 | some r => exact ⟨hr.1, hr.2.le hle⟩
def RPost (h : Base) (s : Option RS) (ok : Bool) (rem : List UInt8) (V : Value → Prop) (v : Value) (h' : Base) (H' : List Asrt) : Prop := h = h' ∧ V v ∧ ∃ s', same s s' ∧ Rd h s' ok rem ∧ H' = [rA s']

theorem NewReader (h : Base) (v : Value) (l : List UInt8) (Pre : List Asrt) (hs : Src Tryz.prog h Pre 1 v l.length (l.map u8)) (hl : l.length ≤ big) :
  Tr Tryz.prog 71 [v] h Pre (fun v' h' H' => ∃ p sv, v' = rv (some ⟨p, true, sv, false⟩) ∧ Rd h' (some ⟨p, true, sv, false⟩) true l ∧ H' = rA (some ⟨p, true, sv, false⟩) :: Pre) := by
 unfold big at hl
 refine K.enter Tryz.func71 rfl (Nat.le_of_ble_eq_true rfl) (fun F => ?_)
 (repeat' first | refine X.rq ?_ | refine X.rc ?_ ?_ <;> intro hc <;> try omega)
 refine K.WL.nilBuf 5 1 ?_
 refine K.l_append_at 0 rfl (Fx.und rfl) (Fx.und rfl) rfl (Fx.sz rfl) (Fx.zr rfl) rfl (Fx.byt rfl) rfl rfl (hs.sub (fun A hA => by simp [hA])) (by omega) (by omega) rfl (fun a' cap' => ?_)
 simp only [Go.K.nmz]
 (repeat' first | refine X.rq ?_ | refine X.rc ?_ ?_ <;> intro hc <;> try omega)
 refine K.l_box rfl rfl rfl (fun B => ?_)
 (repeat' first | refine X.rq ?_ | refine X.rc ?_ ?_ <;> intro hc <;> try omega)
 rw [Nat.zero_add]
 refine K.AT.perm (List.Perm.swap ..) (K.AT.freezeBuf (fun h1 hle hb => ?_))
 refine K.dl rfl (H' := rA (some ⟨B, true, bufV a' l.length cap', false⟩) :: Pre) rfl ⟨B, _, rfl, ⟨rfl, hb⟩, rfl⟩

theorem R_fault (h : Base) (s : Option RS) (ok : Bool) (rem : List UInt8) (hr : Rd h s ok rem) : Tr Tryz.prog 110 [rv s] h [rA s] (RPost h s false rem (· = unit)) := by
 match s, hr with
 | none, ⟨_, hb⟩ =>
  refine K.enter Tryz.func110 rfl (Nat.le_of_ble_eq_true rfl) (fun F => ?_)
  simp only [rv]
  (repeat' first | refine X.rq ?_ | refine X.rc ?_ ?_ <;> intro hc <;> try omega)
  refine K.dl rfl (H' := [rA none]) rfl ⟨rfl, rfl, none, trivial, ⟨rfl, hb⟩, rfl⟩
 | some ⟨p, made, sv, bad⟩, ⟨_, hb⟩ =>
  refine K.enter Tryz.func110 rfl (Nat.le_of_ble_eq_true rfl) (fun F => ?_)
  simp only [rv, rA, List.cons_append, List.nil_append]
  (repeat' first | refine X.rq ?_ | refine X.rc ?_ ?_ <;> intro hc <;> try omega)
  refine X.sto ?_
  (repeat' first | refine X.rq ?_ | refine X.rc ?_ ?_ <;> intro hc <;> try omega)
  refine K.dl rfl (H' := [rA (some ⟨p, made, sv, true⟩)]) rfl ⟨rfl, rfl, some ⟨p, made, sv, true⟩, rfl, ⟨by simp, hb⟩, rfl⟩

def errV (ok : Bool) : Value := .int .i64 (if ok then 0 else 5)
theorem R_Err (h : Base) (s : Option RS) (ok : Bool) (rem : List UInt8) (hr : Rd h s ok rem) : TrV Tryz.prog 75 [rv s] h [rA s] (errV ok) [rA s] := by
 match s, hr with
 | none, ⟨hb, _⟩ =>
  subst hb
  refine K.enter Tryz.func75 rfl (Nat.le_of_ble_eq_true rfl) (fun F => ?_)
  simp only [rv]
  (repeat' first | refine X.rq ?_ | refine X.rc ?_ ?_ <;> intro hc <;> try omega)
  refine K.dl rfl (H' := [rA none]) rfl ⟨rfl, rfl, rfl⟩
 | some ⟨p, made, sv, bad⟩, ⟨hb, _⟩ =>
  subst hb
  refine K.enter Tryz.func75 rfl (Nat.le_of_ble_eq_true rfl) (fun F => ?_)
  simp only [rv, rA, List.cons_append, List.nil_append]
  cases made <;> cases bad
  all_goals
   (repeat' first | refine X.rq ?_ | refine X.rc ?_ ?_ <;> intro hc <;> try omega)
   refine K.dl rfl (H' := [rA (some ⟨p, _, sv, _⟩)]) rfl ⟨rfl, rfl, rfl⟩

theorem R_Left (h : Base) (s : Option RS) (ok : Bool) (rem : List UInt8) (hr : Rd h s ok rem) : TrV Tryz.prog 78 [rv s] h [rA s] (.int .i64 rem.length) [rA s] := by
 match s, hr with
 | none, ⟨_, hb⟩ =>
  subst hb
  refine K.enter Tryz.func78 rfl (Nat.le_of_ble_eq_true rfl) (fun F => ?_)
  simp only [rv]
  (repeat' first | refine X.rq ?_ | refine X.rc ?_ ?_ <;> intro hc <;> try omega)
  refine K.dl rfl (H' := [rA none]) rfl ⟨rfl, rfl, rfl⟩
 | some ⟨p, made, sv, bad⟩, ⟨_, hb⟩ =>
  obtain ⟨ao, c, rfl⟩ := hb.len
  refine K.enter Tryz.func78 rfl (Nat.le_of_ble_eq_true rfl) (fun F => ?_)
  simp only [rv, rA, List.cons_append, List.nil_append]
  (repeat' first | refine X.rq ?_ | refine X.rc ?_ ?_ <;> intro hc <;> try omega)
  refine K.dl rfl (H' := [rA (some ⟨p, made, _, bad⟩)]) rfl ⟨rfl, rfl, rfl⟩

theorem R_End (h : Base) (s : Option RS) (ok : Bool) (rem : List UInt8) (hr : Rd h s ok rem) (hl : rem.length ≤ big) :
  Tr Tryz.prog 79 [rv s] h [rA s] (RPost h s (ok && decide (rem = [])) rem (· = errV (ok && decide (rem = [])))) := by
 unfold big at hl
 refine K.enter Tryz.func79 rfl (Nat.le_of_ble_eq_true rfl) (fun F => ?_)
 (repeat' first | refine X.rq ?_ | refine X.rc ?_ ?_ <;> intro hc <;> try omega)
 refine K.l_callV (Fx.cal rfl) rfl (R_Left h s ok rem hr) (K.pp [0] rfl) rfl rfl ?_
 (repeat' first | refine X.rq ?_ | refine X.rc ?_ ?_ <;> intro hc <;> try omega)
 ·have hne : rem ≠ [] := by intro e; subst e; simp at hc
  refine K.l_call (Fx.cal rfl) rfl (R_fault h s ok rem hr) (K.pp [0] rfl) rfl ?_
  rintro v h' H' - ⟨rfl, -, s', hs, hr', rfl⟩
  (repeat' first | refine X.rq ?_ | refine X.rc ?_ ?_ <;> intro hc <;> try omega)
  refine K.l_callV (vals := [rv s']) (Fx.cal rfl) (by rw [same_val hs]; rfl) (R_Err h s' false rem hr') (K.pp [0] rfl) rfl rfl ?_
  (repeat' first | refine X.rq ?_ | refine X.rc ?_ ?_ <;> intro hc <;> try omega)
  simp only [hne, decide_false, Bool.and_false]
  refine K.dl rfl (H' := [rA s']) rfl ⟨rfl, rfl, s', hs, hr', rfl⟩
 ·have hne : rem = [] := by
   cases rem with
   | nil => rfl
   | cons a b => simp at hc
  refine K.l_callV (Fx.cal rfl) rfl (R_Err h s ok rem hr) (K.pp [0] rfl) rfl rfl ?_
  (repeat' first | refine X.rq ?_ | refine X.rc ?_ ?_ <;> intro hc <;> try omega)
  simp only [hne, decide_true, Bool.and_true]
  rw [hne] at hr
  refine K.dl rfl (H' := [rA s]) rfl ⟨rfl, rfl, s, same_refl s, hr, rfl⟩

theorem R_take_no (h : Base) (s : Option RS) (ok : Bool) (rem : List UInt8) (m : Int) (hr : Rd h s ok rem) (hl : rem.length ≤ big) (hm1 : -9223372036854775808 ≤ m) (hm2 : m ≤ 9223372036854775807) (hno : ok = false ∨ m < 0 ∨ (rem.length : Int) < m) :
  Tr Tryz.prog 109 [rv s, .int .i64 m] h [rA s] (RPost h s false rem (· = .tuple #[.slice none 0 0, .bool false])) := by
 unfold big at hl
 cases ok with
 | false =>
  refine K.enter Tryz.func109 rfl (Nat.le_of_ble_eq_true rfl) (fun F => ?_)
  (repeat' first | refine X.rq ?_ | refine X.rc ?_ ?_ <;> intro hc <;> try omega)
  refine K.l_callV (Fx.cal rfl) rfl (R_Err h s false rem hr) (K.pp [0] rfl) rfl rfl ?_
  simp only [errV, Bool.false_eq_true, ↓reduceIte]
  (repeat' first | refine X.rq ?_ | refine X.rc ?_ ?_ <;> intro hc <;> try omega)
  refine K.l_call (Fx.cal rfl) rfl (R_fault h s false rem hr) (K.pp [0] rfl) rfl ?_
  rintro v h' H' - ⟨rfl, -, s', hs, hr', rfl⟩
  (repeat' first | refine X.rq ?_ | refine X.rc ?_ ?_ <;> intro hc <;> try omega)
  refine K.dl rfl (H' := [rA s']) rfl ⟨rfl, rfl, s', hs, hr', rfl⟩
 | true =>
  have hno' : m < 0 ∨ (rem.length : Int) < m := by simpa using hno
  clear hno
  match s, hr with
  | none, hr => exact absurd hr.1 (by simp)
  | some ⟨p, made, sv, bad⟩, hr =>
   obtain ⟨ao, c, hsv⟩ := hr.2.len
   simp only at hsv
   subst hsv
   refine K.enter Tryz.func109 rfl (Nat.le_of_ble_eq_true rfl) (fun F => ?_)
   (repeat' first | refine X.rq ?_ | refine X.rc ?_ ?_ <;> intro hc <;> try omega)
   refine K.l_callV (Fx.cal rfl) rfl (R_Err h (some ⟨p, made, .slice ao rem.length c, bad⟩) true rem hr) (K.pp [0] rfl) rfl rfl ?_
   simp only [errV, ↓reduceIte, rA, rv, List.cons_append, List.nil_append]
   (repeat' first | refine X.rq ?_ | refine X.rc ?_ ?_ <;> intro hc <;> try omega)
   all_goals
    refine K.l_call (Fx.cal rfl) rfl (R_fault h (some ⟨p, made, .slice ao rem.length c, bad⟩) true rem hr) (K.pp [0] rfl) rfl ?_
    rintro v h' H' - ⟨rfl, -, s', hs, hr', rfl⟩
    (repeat' first | refine X.rq ?_ | refine X.rc ?_ ?_ <;> intro hc <;> try omega)
    refine K.dl rfl (H' := [rA s']) rfl ⟨rfl, rfl, s', hs, hr', rfl⟩

theorem R_take (h : Base) (s : Option RS) (rem : List UInt8) (m : Nat) (hr : Rd h s true rem) (hl : rem.length ≤ big) (hm : m ≤ rem.length) :
  Tr Tryz.prog 109 [rv s, .int .i64 m] h [rA s] (RPost h s true (rem.drop m) (fun v => ∃ v1, v = .tuple #[v1, .bool true] ∧ BV h v1 (rem.take m))) := by
 unfold big at hl
 match s, hr with
 | none, hr => exact absurd hr.1 (by simp)
 | some ⟨p, made, sv, bad⟩, hr =>
  have hb := hr.2
  simp only at hb
  obtain ⟨ao, c, hsv⟩ := hb.len
  refine K.enter Tryz.func109 rfl (Nat.le_of_ble_eq_true rfl) (fun F => ?_)
  (repeat' first | refine X.rq ?_ | refine X.rc ?_ ?_ <;> intro hc <;> try omega)
  refine K.l_callV (Fx.cal rfl) rfl (R_Err h (some ⟨p, made, sv, bad⟩) true rem hr) (K.pp [0] rfl) rfl rfl ?_
  simp only [errV, ↓reduceIte, rA, rv, List.cons_append, List.nil_append]
  (repeat' first | refine X.rq ?_ | refine X.rc ?_ ?_ <;> intro hc <;> try omega)
  all_goals
   refine K.s_pure (K.p_lenB hb (Fx.und rfl) rfl) rfl ?_
   (repeat' first | refine X.rq ?_ | refine X.rc ?_ ?_ <;> intro hc <;> try omega)
   refine K.s_pureE (K.p_sliceB (k1 := .i64) (k2 := .i64) (p := 0) (q := m) hb (Fx.und rfl) (Fx.sz rfl) rfl rfl ⟨_, rfl, rfl⟩ (Nat.zero_le _) hm) rfl (fun v1 hv1 => ?_)
   (repeat' first | refine X.rq ?_ | refine X.rc ?_ ?_ <;> intro hc <;> try omega)
   refine K.s_pureE (K.p_sliceB (k1 := .i64) (k2 := .i64) (p := m) (q := rem.length) hb (Fx.und rfl) (Fx.sz rfl) rfl ⟨_, rfl, rfl⟩ rfl hm (Nat.le_refl _)) rfl (fun v2 hv2 => ?_)
   rw [List.take_of_length_le (Nat.le_refl _)] at hv2
   obtain ⟨ao2, c2, rfl⟩ := hv2.len
   (repeat' first | refine X.rq ?_ | refine X.rc ?_ ?_ <;> intro hc <;> try omega)
   refine X.sto ?_
   (repeat' first | refine X.rq ?_ | refine X.rc ?_ ?_ <;> intro hc <;> try omega)
   refine K.dl rfl (H' := [rA (some ⟨p, made, .slice ao2 (rem.drop m).length c2, bad⟩)]) rfl ⟨rfl, ⟨v1, rfl, hv1⟩, some ⟨p, made, .slice ao2 (rem.drop m).length c2, bad⟩, rfl, ⟨hr.1, hv2⟩, rfl⟩
end Go.Proofs.YtijbhgiigddjdaaGreat.Cc
end
