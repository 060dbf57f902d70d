/-
  Texts joined: Sq Sr. Conditions: each theorem's own.
-/
import Derived.Test.YtmcdaegaopfihaaGreatQ41
import Derived.Test.YtmcdaegaopfihaaGreatQ38
section
namespace Go.Proofs.YtmcdaegaopfihaaGreat.Wl
open Go Go.K Go.Proofs Go.Proofs.YtmcdaegaopfihaaGreat Go.Proofs.YtmcdaegaopfihaaGreat.Cc
set_option linter.unusedVariables false
set_option linter.unusedSimpArgs false
set_option maxRecDepth 10000

def secs (l : List UInt8) : Nat := (l.length + 509) / 510
def firstQ (L : Lg) : Nat := (L.durable - L.m.base) / 510
def flushQ (L : Lg) (D : Dk) : Int × Lg × Dk :=
  if L.durable = endQ L then (0, L, D) else
  if (flQ L.stream (secs L.stream - firstQ L) (firstQ L) D).1 ≠ 0 then ((flQ L.stream (secs L.stream - firstQ L) (firstQ L) D).1, L, (flQ L.stream (secs L.stream - firstQ L) (firstQ L) D).2) else
  if (syncQ (flQ L.stream (secs L.stream - firstQ L) (firstQ L) D).2).1 ≠ 0 then ((syncQ (flQ L.stream (secs L.stream - firstQ L) (firstQ L) D).2).1, L, (syncQ (flQ L.stream (secs L.stream - firstQ L) (firstQ L) D).2).2) else
  (0, { L with durable := endQ L }, (syncQ (flQ L.stream (secs L.stream - firstQ L) (firstQ L) D).2).2)
set_option maxHeartbeats 4000000 in
theorem Flush (h : Base) (p d : Nat) (W : LM) (L : Lg) (M : DM) (D : Dk) (ho : LgOk L) (hs : StrOk h W L.stream) (hk : DkOk D) (hr : D.cache.length + 20000 ≤ roomMax) :
    Tr Tryz.prog 9 [pv p] h (lgA p d W L ++ dkA d M D) (fun u h' H' => u = .int .i64 (flushQ L D).1 ∧ ∃ M', H' = lgA p d W (flushQ L D).2.1 ++ dkA d M' (flushQ L D).2.2) := by
  have hno := LNone h p d W L
  have hen := LEnd h p d W L ho hs
  have hmn := ho.mas.n
  have hdu := ho.dur
  have hba := ho.base
  have hsl := ho.str
  unfold lastLSN at hba
  obtain ⟨so, sc, hsv⟩ := hs.len
  obtain ⟨sv, sA, ar, kr⟩ := W
  dsimp only at hsv
  subst hsv
  obtain ⟨f0, hf0⟩ : ∃ f0, f0 = firstQ L := ⟨_, rfl⟩
  obtain ⟨en, hen2⟩ : ∃ en, en = endQ L := ⟨_, rfl⟩
  have hen3 : en = L.m.base + L.stream.length := hen2
  have hf1 : f0 = (L.durable - L.m.base) / 510 := hf0
  have hsec : secs L.stream = (L.stream.length + 509) / 510 := rfl
  refine K.enter Tryz.func9 rfl (Nat.le_of_ble_eq_true rfl) (fun F => ?_)
  (repeat' (first | refine X.rq ?_ | (refine X.rc ?_ ?_ <;> intro hc <;> first | (exfalso; omega) | skip)))
  refine K.l_callV (Fx.cal rfl) rfl hno (K.pp [0, 0, 0] rfl) rfl rfl ?_
  (repeat' (first | refine X.rq ?_ | (refine X.rc ?_ ?_ <;> intro hc <;> first | (exfalso; omega) | skip)))
  refine X.draw ([blk p 34 (lgV d ⟨.slice so L.stream.length sc, sA, ar, kr⟩ L)]) [] (.pu 0 (.pu 1 (.pu 2 (.pu 4 (.st 3 (.on 5 (.pu 6 .nil))))))) ?_ (hQ := by repeat (first | with_reducible refine K.NoPanic.then ?_ | with_reducible refine K.NoPanic.inBlock ?_ | with_reducible exact K.post_noPanic _ _ | exact K.post_noPanic _ _ | exact K.QN_noPanic | exact K.postS_noPanic | exact K.postX_noPanic | exact K.RPX_noPanic))
  refine K.d_pu rfl (fun _ _ => X.mv) rfl ?_
  refine K.d_pu rfl (fun _ _ => X.nc) rfl ?_
  refine K.d_pu rfl (fun _ _ => X.fa) rfl ?_
  refine K.d_pu rfl (fun _ _ => X.mv) rfl ?_
  refine K.d_st rfl X.ld rfl ?_
  refine K.d_on rfl (fun KK hKK => ?_)
  refine K.l_callV (Fx.cal rfl) rfl hen (K.pp [0, 0, 0] rfl) rfl rfl ?_
  rw [← hen2]
  refine K.l_nil ?_
  refine X.onE hKK ?_
  refine K.d_pu rfl (fun _ _ => X.beql) rfl ?_
  refine K.d_nil ?_
  unfold flushQ
  rw [← hen2, ← hf0]
  by_cases hd : L.durable = en
  · rw [if_pos hd]
    (repeat' (first | refine X.rq ?_ | (refine X.rc ?_ ?_ <;> intro hc <;> first | (exfalso; omega) | skip)))
    all_goals try (exfalso; omega)
    exact K.done (vs := [.int .i64 0]) (by first | exact Or.inl rfl | exact Or.inr rfl) rfl (K.Base.le.refl _) (H' := [_, _, _, _, _, _]) rfl ⟨rfl, M, rfl⟩
  · rw [if_neg hd]
    (repeat' (first | refine X.rq ?_ | (refine X.rc ?_ ?_ <;> intro hc <;> first | (exfalso; omega) | skip)))
    all_goals try (exfalso; omega)
    refine X.draw ([blk p 34 (lgV d ⟨.slice so L.stream.length sc, sA, ar, kr⟩ L)]) [] (.pu 0 (.pu 1 (.pu 2 (.pu 4 (.pu 5 (.pu 6 (.pu 7 (.st 3 (.st 8 (.pu 9 (.pu 10 (.pu 11 (.pu 12 .nil))))))))))))) ?_ (hQ := by repeat (first | with_reducible refine K.NoPanic.then ?_ | with_reducible refine K.NoPanic.inBlock ?_ | with_reducible exact K.post_noPanic _ _ | exact K.post_noPanic _ _ | exact K.QN_noPanic | exact K.postS_noPanic | exact K.postX_noPanic | exact K.RPX_noPanic))
    refine K.d_pu rfl (fun _ _ => X.mv) rfl ?_
    refine K.d_pu rfl (fun _ _ => X.nc) rfl ?_
    refine K.d_pu rfl (fun _ _ => X.fa) rfl ?_
    refine K.d_pu rfl (fun _ _ => X.mv) rfl ?_
    refine K.d_pu rfl (fun _ _ => X.nc) rfl ?_
    refine K.d_pu rfl (fun _ _ => X.fa) rfl ?_
    refine K.d_pu rfl (fun _ _ => X.fa) rfl ?_
    refine K.d_st rfl X.ld rfl ?_
    refine K.d_st rfl X.ld rfl ?_
    refine K.d_pu rfl (fun _ _ => X.bsub) rfl ?_
    refine K.d_pu rfl (fun _ _ => X.cv) rfl ?_
    refine K.d_pu rfl (fun _ _ => X.bquo) rfl ?_
    refine K.d_pu rfl (fun _ _ => X.sg) rfl ?_
    refine K.d_nil ?_
    rw [show ((L.durable : Int) - (L.m.base : Int)) / 510 = (f0 : Int) by omega]
    (repeat' (first | refine X.rq ?_ | (refine X.rc ?_ ?_ <;> intro hc <;> first | (exfalso; omega) | skip)))
    refine K.c_loop (σ := SpS) (fun q => [(0, pv p), (4, .int .i64 q.j)]) (fun q => q.hb) (fun q => (lgA p d ⟨.slice so L.stream.length sc, sA, ar, kr⟩ L ++ dkA d q.M q.D) ++ F)
      (fun q => q.j ≤ secs L.stream ∧ h.le q.hb ∧ DkOk q.D ∧ q.D.cache.length + (secs L.stream - q.j) + 1000 ≤ roomMax ∧ flQ L.stream (secs L.stream - f0) f0 D = flQ L.stream (secs L.stream - q.j) q.j q.D) (fun q => secs L.stream - q.j) ⟨f0, h, M, D⟩ ⟨by dsimp only; omega, K.Base.le.refl _, hk, by dsimp only; omega, rfl⟩ (by repeat (first | exact K.Sub.nil _ | refine K.Sub.cons rfl ?_)) rfl rfl ?_
    rintro ⟨j, hb, M1, D1⟩ ⟨hj, hle, hk1, hr1, hq⟩ KL hKL
    dsimp only at hj hle hk1 hr1 hq ⊢
    have hs1 := hs.le hle
    rw [hq]
    by_cases hjl : j < secs L.stream
    · obtain ⟨r, hre⟩ : ∃ r, secs L.stream - j = r + 1 := ⟨secs L.stream - j - 1, by omega⟩
      rw [hre, flQ] at hq ⊢
      obtain ⟨a1, a2, a3⟩ := write_ok hk1 (by omega) (1 + j : Nat) (secB L.stream j)
      unfold lgA lgV
      simp only [List.cons_append, List.nil_append]
      (repeat' (first | refine X.rq ?_ | (refine X.rc ?_ ?_ <;> intro hc <;> first | (exfalso; omega) | skip)))
      all_goals try (exfalso; omega)
      refine X.draw ([blk p 34 [dv d, .int .i64 L.m.n, n64 L.m.base, n64 L.m.check, .int .u32 L.m.kept, .bool L.m.wiped, .slice so L.stream.length sc, bufV ar L.starts.length kr, n64 L.durable]]) [] (.pu 0 (.pu 1 (.pu 2 (.pu 4 (.pu 5 (.pu 6 (.pu 7 (.st 3 (.on 8 (.on 9 (.pu 10 .nil))))))))))) ?_ (hQ := by repeat (first | with_reducible refine K.NoPanic.then ?_ | with_reducible refine K.NoPanic.inBlock ?_ | with_reducible exact K.post_noPanic _ _ | exact K.post_noPanic _ _ | exact K.QN_noPanic | exact K.postS_noPanic | exact K.postX_noPanic | exact K.RPX_noPanic))
      refine K.d_pu rfl (fun _ _ => X.mv) rfl ?_
      refine K.d_pu rfl (fun _ _ => X.nc) rfl ?_
      refine K.d_pu rfl (fun _ _ => X.fa) rfl ?_
      refine K.d_pu rfl (fun _ _ => X.mv) rfl ?_
      refine K.d_pu rfl (fun _ _ => X.badd) rfl ?_
      refine K.d_pu rfl (fun _ _ => X.mv) rfl ?_
      refine K.d_pu rfl (fun _ _ => X.mv) rfl ?_
      refine K.d_st rfl X.ld rfl ?_
      refine K.d_on rfl (fun KK hKK => ?_)
      refine K.l_call (Fx.cal rfl) rfl (Sector hb p d ⟨.slice so L.stream.length sc, sA, ar, kr⟩ L j (by omega) (by omega) hs1) (K.pp [0, 0, 0] rfl) rfl ?_
      rintro u h2 H' le2 ⟨rfl, asx, csx, rfl, hbs⟩
      refine K.l_nil ?_
      refine X.onE hKK ?_
      refine K.d_on rfl (fun KK hKK => ?_)
      rw [show (1 : Int) + (j : Int) = ((1 + j : Nat) : Int) by omega]
      refine K.l_call (Fx.cal rfl) rfl (Write h2 d M1 D1 ((1 + j : Nat) : Int) _ (secB L.stream j) hk1 (by omega) (by omega) hbs (by rw [sec_len]; omega)) (K.pp [3, 3, 3] rfl) rfl ?_
      rintro u h3 H' le3 ⟨rfl, ac, cap, c, rfl⟩
      have le9 := le2.trans le3
      refine K.l_nil ?_
      refine X.onE hKK ?_
      refine K.d_pu rfl (fun _ _ => X.sg) rfl ?_
      refine K.d_nil ?_
      have hle3 := hle.trans (le2.trans le3)
      by_cases hw : (writeQ D1 ((1 + j : Nat) : Int) (secB L.stream j)).1 = 0
      · rw [if_neg (by omega)] at hq
        rw [hw]
        (repeat' (first | refine X.rq ?_ | (refine X.rc ?_ ?_ <;> intro hc <;> first | (exfalso; omega) | skip)))
        all_goals try (exfalso; omega)
        refine K.AT.perm (K.pp [3, 3, 3] rfl) ?_
        refine K.a_round hKL ⟨j + 1, h3, { M1 with ac := ac, cap := cap, c2 := c }, (writeQ D1 ((1 + j : Nat) : Int) (secB L.stream j)).2⟩ ⟨by dsimp only; omega, hle3, a1, by dsimp only; omega, by dsimp only; rw [show secs L.stream - (j + 1) = r by omega]; exact hq⟩ (by repeat (first | exact K.Sub.nil _ | refine K.Sub.cons rfl ?_)) rfl rfl (by dsimp only; omega)
      · rw [if_pos hw, if_pos hw]
        (repeat' (first | refine X.rq ?_ | (refine X.rc ?_ ?_ <;> intro hc <;> first | (exfalso; omega) | skip)))
        all_goals try (exfalso; omega)
        refine K.AT.perm (K.pp [3, 3, 3] rfl) ?_
        exact K.done (vs := [.int .i64 _]) (by first | exact Or.inl rfl | exact Or.inr rfl) rfl hle3 (H' := [_, _, _, _, _, _]) rfl ⟨rfl, { M1 with ac := ac, cap := cap, c2 := c }, rfl⟩
    · obtain rfl : j = secs L.stream := by omega
      rw [Nat.sub_self, flQ, if_neg (fun h => h rfl)]
      unfold lgA lgV
      simp only [List.cons_append, List.nil_append]
      (repeat' (first | refine X.rq ?_ | (refine X.rc ?_ ?_ <;> intro hc <;> first | (exfalso; omega) | skip)))
      all_goals try (exfalso; omega)
      refine K.l_call (Fx.cal rfl) rfl (Sync hb d M1 D1 hk1) (K.pp [3, 3, 3] rfl) rfl ?_
      rintro u h3 H' le3 ⟨rfl, c, rfl⟩
      have hle3 := hle.trans le3
      by_cases hy : (syncQ D1).1 = 0
      · rw [if_neg (by omega), hy]
        (repeat' (first | refine X.rq ?_ | (refine X.rc ?_ ?_ <;> intro hc <;> first | (exfalso; omega) | skip)))
        all_goals try (exfalso; omega)
        refine K.l_callV (Fx.cal rfl) rfl (LEnd h3 p d ⟨.slice so L.stream.length sc, sA, ar, kr⟩ L ho (hs.le hle3)) (K.pp [3, 3, 3] rfl) rfl rfl ?_
        rw [← hen2]
        unfold lgA lgV
        simp only [List.cons_append, List.nil_append]
        (repeat' (first | refine X.rq ?_ | (refine X.rc ?_ ?_ <;> intro hc <;> first | (exfalso; omega) | skip)))
        refine X.sto ?_
        simp only [List.set_cons_zero, List.set_cons_succ, List.eraseIdx_cons_zero, List.eraseIdx_cons_succ, List.cons_append, List.nil_append]
        (repeat' (first | refine X.rq ?_ | (refine X.rc ?_ ?_ <;> intro hc <;> first | (exfalso; omega) | skip)))
        exact K.done (vs := [.int .i64 0]) (by first | exact Or.inl rfl | exact Or.inr rfl) rfl hle3 (H' := [_, _, _, _, _, _]) rfl ⟨rfl, { M1 with c3 := c }, rfl⟩
      · rw [if_pos hy]
        (repeat' (first | refine X.rq ?_ | (refine X.rc ?_ ?_ <;> intro hc <;> first | (exfalso; omega) | skip)))
        all_goals try (exfalso; omega)
        refine K.AT.perm (K.pp [3, 3, 3] rfl) ?_
        exact K.done (vs := [.int .i64 _]) (by first | exact Or.inl rfl | exact Or.inr rfl) rfl hle3 (H' := [_, _, _, _, _, _]) rfl ⟨rfl, { M1 with c3 := c }, rfl⟩
end Go.Proofs.YtmcdaegaopfihaaGreat.Wl
end

section
namespace Go.K
open Go
theorem AT.allNil {P : Program} {n : NN} {Q : Exit → Act → World → Prop} {E : Env} {h : Base} {H : List Asrt} {q : Exit} (hk : AT P n Q q E h (all [] :: H)) : AT P n Q q E h H := ⟨fun a w fa ok => hk.run a w fa (Ok.all_iff.2 ok)⟩
end Go.K
namespace Go.Proofs.YtmcdaegaopfihaaGreat.Wl
open Go Go.K Go.Proofs Go.Proofs.YtmcdaegaopfihaaGreat Go.Proofs.YtmcdaegaopfihaaGreat.Cc
set_option linter.unusedVariables false
set_option linter.unusedSimpArgs false
set_option maxRecDepth 10000

theorem sv2 {h : Base} {d : Nat} {f0 f1 : Value} {s0 s1 : Stp} (h0 : StepV h d f0 s0) (h1 : StepV h d f1 s1) : ∀ (j : Nat) f s, [f0, f1][j]? = some f → [s0, s1][j]? = some s → StepV h d f s := fun j f s hf hs => by
  match j with
  | 0 => cases hf; cases hs; exact h0
  | 1 => cases hf; cases hs; exact h1
  | j + 2 => simp at hf
def markS (m : Mas) (c : Nat) : List Stp := [writeS { m with check := c }, syncS]
def markQ (L : Lg) (c : Nat) (D : Dk) : Int × Lg × Dk :=
  if c ≠ 0 ∧ (c ∉ L.starts ∨ L.durable ≤ c) then (1, L, D) else
  if (stepsQ (markS L.m c) D).1 ≠ 0 then ((stepsQ (markS L.m c) D).1, L, (stepsQ (markS L.m c) D).2) else
  (0, { L with m := { L.m with check := c } }, (stepsQ (markS L.m c) D).2)
theorem BSearchA (h : Base) (a : Option Nat) (k : Nat) (l : List Nat) (x : Nat) (hl : l.length ≤ 1000000000) (hs : l.Pairwise (· < ·)) : TrV Tryz.prog 37 [bufV a l.length k, n64 x] h ([bufA 27 1 a l.length k (l.map n64)] ++ []) (.tuple #[.int .i64 (lbQ l x), .bool (decide (x ∈ l))]) ([bufA 27 1 a l.length k (l.map n64)] ++ []) :=
  K.TrV.borrow fun h' _ hs' => by
    have e1 : (l.map fun x => [n64 x]).flatten = l.map n64 := by
      clear hs hl hs'
      induction l with
      | nil => rfl
      | cons x l ih => rw [List.map_cons, List.flatten_cons, ih]; rfl
    have e2 : (l.map fun x => [n64 x]).length = l.length := List.length_map ..
    rw [← e1, ← e2] at hs'
    have hsl := K.says_sl (fun e he => by obtain ⟨x, _, rfl⟩ := List.mem_map.1 he; rfl) hs'
    rw [e2] at hsl
    exact BSearch h' _ l x hsl hl hs
set_option maxHeartbeats 4000000 in
theorem Mark (h : Base) (p d : Nat) (W : LM) (L : Lg) (c : Nat) (M : DM) (D : Dk) (ho : LgOk L) (hp : L.starts.Pairwise (· < ·)) (hc : c < 18446744073709551616) (hk : DkOk D) (hr : D.cache.length + 20000 ≤ roomMax) :
    Tr Tryz.prog 10 [pv p, n64 c] h (lgA p d W L ++ dkA d M D) (fun u h' H' => u = .int .i64 (markQ L c D).1 ∧ ∃ M', H' = lgA p d W (markQ L c D).2.1 ++ dkA d M' (markQ L c D).2.2) := by
  have hno := LNone h p d W L
  have hmo := ho.mas
  have hbs := BSearchA h W.ar W.kr L.starts c (by have := ho.str; have := ho.sts; have := hmo.n; omega) hp
  have hdu := ho.dur
  have hba := ho.base
  unfold lastLSN at hba
  have hst := ho.str
  have hmn := hmo.n
  have hm2 : MasOk { L.m with check := c } := ⟨hmo.n, hmo.base, hc, hmo.kept⟩
  refine K.enter Tryz.func10 rfl (Nat.le_of_ble_eq_true rfl) (fun F => ?_)
  unfold lgA lgV startsA at hno ⊢
  simp only [List.cons_append, List.nil_append] at hno ⊢
  (repeat' (first | refine X.rq ?_ | (refine X.rc ?_ ?_ <;> intro hc <;> first | (exfalso; omega) | skip)))
  refine K.l_callV (Fx.cal rfl) rfl hno (K.pp [0, 0, 0] rfl) rfl rfl ?_
  (repeat' (first | refine X.rs ?_ | (refine X.rd ?_ ?_ <;> intro hc <;> first | (exfalso; omega) | skip)))
  apply K.c_seq
  refine K.c_join (β := Unit) (fun _ => [(0, pv p), (1, n64 c)]) (fun _ => h)
    (fun _ => blk p 34 [dv d, .int .i64 L.m.n, n64 L.m.base, n64 L.m.check, .int .u32 L.m.kept, .bool L.m.wiped, W.sv, bufV W.ar L.starts.length W.kr, n64 L.durable] :: W.sA :: bufA 27 1 W.ar L.starts.length W.kr (L.starts.map n64) :: (dkA d M D ++ F))
    (fun _ => ¬ (c ≠ 0 ∧ (c ∉ L.starts ∨ L.durable ≤ c))) (fun KJ hJ => ?_) ?_
  · (repeat' (first | refine X.rq ?_ | (refine X.rc ?_ ?_ <;> intro hc <;> first | (exfalso; omega) | skip)))
    refine K.l_callV (Fx.cal rfl) rfl hbs (K.pp [2] rfl) rfl rfl ?_
    simp only [List.set_cons_zero, List.set_cons_succ, List.eraseIdx_cons_zero, List.eraseIdx_cons_succ, List.cons_append, List.nil_append]
    by_cases h0 : c = 0
    · by_cases hf : c ∈ L.starts
      · rw [decide_eq_true hf]
        unfold n64
        (repeat' (first | refine X.rq ?_ | (refine X.rc ?_ ?_ <;> intro hc <;> first | (exfalso; omega) | skip)))
        all_goals try (exfalso; omega)
        skip
        refine K.AT.perm (K.pp [1, 1] rfl) ?_
        refine K.a_join hJ () (fun hb => hb.1 h0) (by repeat (first | exact K.Sub.nil _ | refine K.Sub.cons rfl ?_)) rfl rfl
      · rw [decide_eq_false hf]
        unfold n64
        (repeat' (first | refine X.rq ?_ | (refine X.rc ?_ ?_ <;> intro hc <;> first | (exfalso; omega) | skip)))
        all_goals try (exfalso; omega)
        refine K.AT.perm (K.pp [1, 1] rfl) ?_
        refine K.a_join hJ () (fun hb => hb.1 h0) (by repeat (first | exact K.Sub.nil _ | refine K.Sub.cons rfl ?_)) rfl rfl
    · by_cases hf : c ∈ L.starts
      · rw [decide_eq_true hf]
        unfold n64
        by_cases hd : L.durable ≤ c
        · have hm : markQ L c D = (1, L, D) := by unfold markQ; rw [if_pos ⟨h0, .inr hd⟩]
          rw [hm]
          (repeat' (first | refine X.rq ?_ | (refine X.rc ?_ ?_ <;> intro hc <;> first | (exfalso; omega) | skip)))
          all_goals try (exfalso; omega)
          refine K.AT.perm (K.pp [1, 1] rfl) ?_
          exact K.done (vs := [.int .i64 1]) (by first | exact Or.inl rfl | exact Or.inr rfl) rfl (K.Base.le.refl _) (H' := [_, _, _, _, _, _]) rfl ⟨rfl, M, rfl⟩
        · (repeat' (first | refine X.rq ?_ | (refine X.rc ?_ ?_ <;> intro hc <;> first | (exfalso; omega) | skip)))
          all_goals try (exfalso; omega)
          refine K.AT.perm (K.pp [1, 1] rfl) ?_
          refine K.a_join hJ () (fun hb => hb.2.elim (fun x => x hf) hd) (by repeat (first | exact K.Sub.nil _ | refine K.Sub.cons rfl ?_)) rfl rfl
      · rw [decide_eq_false hf]
        unfold n64
        have hm : markQ L c D = (1, L, D) := by unfold markQ; rw [if_pos ⟨h0, .inl hf⟩]
        rw [hm]
        (repeat' (first | refine X.rq ?_ | (refine X.rc ?_ ?_ <;> intro hc <;> first | (exfalso; omega) | skip)))
        all_goals try (exfalso; omega)
        refine K.AT.perm (K.pp [1, 1] rfl) ?_
        exact K.done (vs := [.int .i64 1]) (by first | exact Or.inl rfl | exact Or.inr rfl) rfl (K.Base.le.refl _) (H' := [_, _, _, _, _, _]) rfl ⟨rfl, M, rfl⟩
  · intro _ hgood
    unfold markQ
    rw [if_neg hgood]
    (repeat' (first | refine X.rq ?_ | (refine X.rc ?_ ?_ <;> intro hc <;> first | (exfalso; omega) | skip)))
    refine K.s_pure (K.p_loadM (vs := masV L.m) (Fx.agg rfl) rfl (K.cels_own (pre := [dv d]) (cs := masV L.m) (post := [W.sv, bufV W.ar L.starts.length W.kr, n64 L.durable]) 0 rfl rfl) (Fx.sz rfl) rfl) rfl ?_
    refine K.l_alloc (Fx.zr rfl) rfl rfl (fun B7 => ?_)
    refine K.l_storeW_at (us := masV L.m) 0 rfl (Fx.sz rfl) rfl rfl rfl rfl rfl ?_
    simp only [List.set_cons_zero, List.set_cons_succ, List.eraseIdx_cons_zero, List.eraseIdx_cons_succ, List.cons_append, List.nil_append]
    unfold masV
    (repeat' (first | refine X.rq ?_ | (refine X.rc ?_ ?_ <;> intro hc <;> first | (exfalso; omega) | skip)))
    refine X.sto ?_
    simp only [List.set_cons_zero, List.set_cons_succ, List.eraseIdx_cons_zero, List.eraseIdx_cons_succ, List.cons_append, List.nil_append]
    (repeat' (first | refine X.rq ?_ | (refine X.rc ?_ ?_ <;> intro hc <;> first | (exfalso; omega) | skip)))
    refine X.draw ([blk B7 30 [.int .i64 L.m.n, .int .u64 L.m.base, n64 c, .int .u32 L.m.kept, .bool L.m.wiped], blk p 34 [dv d, .int .i64 L.m.n, n64 L.m.base, n64 L.m.check, .int .u32 L.m.kept, .bool L.m.wiped, W.sv, bufV W.ar L.starts.length W.kr, n64 L.durable]]) [] (.pu 1 (.pu 2 (.pu 3 (.pu 6 (.pu 7 (.pu 8 (.st 0 (.st 4 (.st 9 (.pu 10 (.on 5 (.on 11 (.on 12 (.pu 13 .nil)))))))))))))) ?_ (hQ := by repeat (first | with_reducible refine K.NoPanic.then ?_ | with_reducible refine K.NoPanic.inBlock ?_ | with_reducible exact K.post_noPanic _ _ | exact K.post_noPanic _ _ | exact K.QN_noPanic | exact K.postS_noPanic | exact K.postX_noPanic | exact K.RPX_noPanic))
    refine K.d_pu rfl (fun _ _ => X.mv) rfl ?_
    refine K.d_pu rfl (fun _ _ => X.nc) rfl ?_
    refine K.d_pu rfl (fun _ _ => X.fa) rfl ?_
    refine K.d_pu rfl (fun _ _ => X.mv) rfl ?_
    refine K.d_pu rfl (fun _ _ => X.nc) rfl ?_
    refine K.d_pu rfl (fun _ _ => X.fa) rfl ?_
    refine K.d_st rfl (K.p_loadM (vs := masV { L.m with check := c }) (Fx.agg rfl) rfl (K.cels_own (pre := []) (cs := masV { L.m with check := c }) (post := []) 0 rfl rfl) (Fx.sz rfl) rfl) rfl ?_
    refine K.d_st rfl X.ld rfl ?_
    refine K.d_st rfl X.ld rfl ?_
    refine K.d_pu rfl (fun _ _ => K.p_makeFuncB rfl rfl) rfl ?_
    refine K.d_on rfl (fun KK hKK => ?_)
    refine K.l_call (Fx.cal rfl) rfl (WriteV h d _ hm2) (K.pp [] rfl) rfl ?_
    rintro u h3 H' le3 ⟨rfl, hs2, f2, g2, c2, rfl⟩
    simp only [List.nil_append]
    refine K.l_nil ?_
    refine X.onE hKK ?_
    refine K.d_on rfl (fun KK hKK => ?_)
    refine K.l_buildSlice (Fx.und rfl) (Fx.sz rfl) rfl (Fx.zr rfl) rfl rfl rfl rfl rfl (fun B9 => ?_)
    refine K.WL.bufOf (m := 2) (s := 1) rfl (by unfold maxLen; omega) ?_
    refine K.WL.freezeRowN (es := [.func f2 g2 c2, .func (.func 36) #[dv d] #[]].map fun f => [f]) rfl (fun e he => by obtain ⟨n, _, rfl⟩ := List.mem_map.1 he; rfl) (fun h4 le4 hs4 => ?_)
    have le14 := le3.trans le4
    have hsv := sv2 (hs2.le le4) (syncV h4 d)
    refine K.l_nil ?_
    refine X.onE hKK ?_
    refine K.d_on rfl (fun KK hKK => ?_)
    refine K.l_call (Fx.cal rfl) rfl (Steps h4 d M D _ _ _ hs4 rfl (by show 2 ≤ 1000; decide) hsv hk (by simp only [sumK, writeS, syncS]; omega)) (K.pp [4, 4, 4] rfl) rfl ?_
    rintro u h5 H' le5 ⟨rfl, M2, rfl⟩
    have le15 := le14.trans le5
    refine K.l_nil ?_
    refine X.onE hKK ?_
    refine K.d_pu rfl (fun _ _ => X.sg) rfl ?_
    refine K.d_nil ?_
    have le9 := le3.trans (le4.trans le5)
    by_cases h0 : (stepsQ (markS L.m c) D).1 = 0
    · rw [if_neg (by omega)]
      have h0' : (stepsQ [writeS { L.m with check := c }, syncS] D).1 = 0 := h0
      rw [h0']
      (repeat' (first | refine X.rq ?_ | (refine X.rc ?_ ?_ <;> intro hc <;> first | (exfalso; omega) | skip)))
      all_goals try (exfalso; omega)
      refine K.WL.perm (K.pp [4, 4, 4] rfl) ?_
      refine K.l_storeN (pre := [dv d]) (cs := masV L.m) (us := masV { L.m with check := c }) (post := [W.sv, bufV W.ar L.starts.length W.kr, n64 L.durable]) (Fx.sz rfl) rfl rfl rfl rfl rfl (K.Free.zero _) ?_
      (repeat' (first | refine X.rq ?_ | (refine X.rc ?_ ?_ <;> intro hc <;> first | (exfalso; omega) | skip)))
      refine K.AT.perm (K.pp [6] rfl) ?_
      exact K.doneC (vs := [.int .i64 0]) (by first | exact Or.inl rfl | exact Or.inr rfl) (.tmp rfl .nil) le9 (D := [_]) (H' := [_, _, _, _, _, _]) rfl ⟨rfl, M2, rfl⟩
    · rw [if_pos h0]
      have h0' : ¬ (stepsQ [writeS { L.m with check := c }, syncS] D).1 = 0 := h0
      (repeat' (first | refine X.rq ?_ | (refine X.rc ?_ ?_ <;> intro hc <;> first | (exfalso; omega) | skip)))
      all_goals try (exfalso; omega)
      refine K.AT.perm (K.pp [3, 3, 3, 3] rfl) ?_
      exact K.doneC (vs := [.int .i64 _]) (by first | exact Or.inl rfl | exact Or.inr rfl) (.tmp rfl .nil) le9 (D := [_]) (H' := [_, _, _, _, _, _]) rfl ⟨rfl, M2, rfl⟩
def resetM (L : Lg) (kept : Nat) (w : Bool) : Mas := ⟨L.m.n, endQ L, 0, kept, w⟩
def resetS (L : Lg) (kept : Nat) : List Stp := [writeS (resetM L kept true), syncS, wipeS (secs L.stream), syncS, writeS (resetM L kept false), syncS]
def resetQ (L : Lg) (kept : Nat) (D : Dk) : Int × Lg × Dk :=
  if (stepsQ (resetS L kept) D).1 ≠ 0 then ((stepsQ (resetS L kept) D).1, L, (stepsQ (resetS L kept) D).2) else
  (0, ⟨resetM L kept false, [], [], endQ L⟩, (stepsQ (resetS L kept) D).2)
end Go.Proofs.YtmcdaegaopfihaaGreat.Wl
end
