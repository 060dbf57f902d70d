/-
 N2: the texts Ni Nj in one. Conditions: each theorem's own.
-/
import Derived.Test.YtkdngpiiecmpgaaGreatQ12
import Derived.Test.YtkdngpiiecmpgaaGreatQ23
/-! From which record on, and who is next: the code and the document. Conditions: each theorem's own. -/
namespace Go.Proofs.YtkdngpiiecmpgaaGreat.Ch
open Go Go.K Go.Proofs Go.Proofs.YtkdngpiiecmpgaaGreat Go.Proofs.YtkdngpiiecmpgaaGreat.Pg Go.Proofs.YtkdngpiiecmpgaaGreat.Rc
set_option linter.unusedVariables false
set_option linter.unusedSimpArgs false
set_option maxRecDepth 10000

def cmpQ (x y : Nat) : Int := if x < y then -1 else if y < x then 1 else 0
theorem KNaN32 (h : Base) (x : Nat) : TrV Tryz.prog 59 [.int .u32 x] h [] (.bool false) [] := by
 refine K.enter Tryz.func59 rfl (Nat.le_of_ble_eq_true rfl) (fun F => ?_)
 simp only [List.nil_append]
 (repeat' (first | refine X.rq ?_ | (refine X.rc ?_ ?_ <;> intro hc <;> first | (exfalso; omega) | skip)))
 refine K.done (by first | exact Or.inl rfl | exact Or.inr rfl) rfl (by first | exact K.Base.le.refl _ | assumption) (H' := []) rfl ⟨by simp [packV], rfl, rfl⟩
set_option maxHeartbeats 4000000 in
theorem KCmp32 (h : Base) (x y : Nat) : TrV Tryz.prog 33 [.int .u32 x, .int .u32 y] h [] (.int .i64 (cmpQ x y)) [] := by
 refine K.enter Tryz.func33 rfl (Nat.le_of_ble_eq_true rfl) (fun F => ?_)
 simp only [List.nil_append]
 (repeat' (first | refine X.rq ?_ | (refine X.rc ?_ ?_ <;> intro hc <;> first | (exfalso; omega) | skip)))
 refine K.l_callV (Fx.cal rfl) rfl (KNaN32 h x) (K.pp [] rfl) rfl rfl ?_
 simp only [List.nil_append]
 (repeat' (first | refine X.rq ?_ | (refine X.rc ?_ ?_ <;> intro hc <;> first | (exfalso; omega) | skip)))
 refine K.l_callV (Fx.cal rfl) rfl (KNaN32 h y) (K.pp [] rfl) rfl rfl ?_
 simp only [List.nil_append]
 unfold cmpQ
 by_cases h1 : x < y
 ·rw [if_pos h1]
  (repeat' (first | refine X.rq ?_ | (refine X.rc ?_ ?_ <;> intro hc <;> first | (exfalso; omega) | skip)))
  refine K.done (by first | exact Or.inl rfl | exact Or.inr rfl) rfl (by first | exact K.Base.le.refl _ | assumption) (H' := []) rfl ⟨rfl, rfl, rfl⟩
 ·rw [if_neg h1]
  by_cases h2 : y < x
  ·rw [if_pos h2]
   (repeat' (first | refine X.rq ?_ | (refine X.rc ?_ ?_ <;> intro hc <;> first | (exfalso; omega) | skip)))
   refine K.done (by first | exact Or.inl rfl | exact Or.inr rfl) rfl (by first | exact K.Base.le.refl _ | assumption) (H' := []) rfl ⟨rfl, rfl, rfl⟩
  ·rw [if_neg h2]
   (repeat' (first | refine X.rq ?_ | (refine X.rc ?_ ?_ <;> intro hc <;> first | (exfalso; omega) | skip)))
   refine K.done (by first | exact Or.inl rfl | exact Or.inr rfl) rfl (by first | exact K.Base.le.refl _ | assumption) (H' := []) rfl ⟨rfl, rfl, rfl⟩
theorem KNaN64 (h : Base) (x : Nat) : TrV Tryz.prog 76 [.int .u64 x] h [] (.bool false) [] := by
 refine K.enter Tryz.func76 rfl (Nat.le_of_ble_eq_true rfl) (fun F => ?_)
 simp only [List.nil_append]
 (repeat' (first | refine X.rq ?_ | (refine X.rc ?_ ?_ <;> intro hc <;> first | (exfalso; omega) | skip)))
 refine K.done (by first | exact Or.inl rfl | exact Or.inr rfl) rfl (by first | exact K.Base.le.refl _ | assumption) (H' := []) rfl ⟨by simp [packV], rfl, rfl⟩
set_option maxHeartbeats 4000000 in
theorem KCmp64 (h : Base) (x y : Nat) : TrV Tryz.prog 50 [.int .u64 x, .int .u64 y] h [] (.int .i64 (cmpQ x y)) [] := by
 refine K.enter Tryz.func50 rfl (Nat.le_of_ble_eq_true rfl) (fun F => ?_)
 simp only [List.nil_append]
 (repeat' (first | refine X.rq ?_ | (refine X.rc ?_ ?_ <;> intro hc <;> first | (exfalso; omega) | skip)))
 refine K.l_callV (Fx.cal rfl) rfl (KNaN64 h x) (K.pp [] rfl) rfl rfl ?_
 simp only [List.nil_append]
 (repeat' (first | refine X.rq ?_ | (refine X.rc ?_ ?_ <;> intro hc <;> first | (exfalso; omega) | skip)))
 refine K.l_callV (Fx.cal rfl) rfl (KNaN64 h y) (K.pp [] rfl) rfl rfl ?_
 simp only [List.nil_append]
 unfold cmpQ
 by_cases h1 : x < y
 ·rw [if_pos h1]
  (repeat' (first | refine X.rq ?_ | (refine X.rc ?_ ?_ <;> intro hc <;> first | (exfalso; omega) | skip)))
  refine K.done (by first | exact Or.inl rfl | exact Or.inr rfl) rfl (by first | exact K.Base.le.refl _ | assumption) (H' := []) rfl ⟨rfl, rfl, rfl⟩
 ·rw [if_neg h1]
  by_cases h2 : y < x
  ·rw [if_pos h2]
   (repeat' (first | refine X.rq ?_ | (refine X.rc ?_ ?_ <;> intro hc <;> first | (exfalso; omega) | skip)))
   refine K.done (by first | exact Or.inl rfl | exact Or.inr rfl) rfl (by first | exact K.Base.le.refl _ | assumption) (H' := []) rfl ⟨rfl, rfl, rfl⟩
  ·rw [if_neg h2]
   (repeat' (first | refine X.rq ?_ | (refine X.rc ?_ ?_ <;> intro hc <;> first | (exfalso; omega) | skip)))
   refine K.done (by first | exact Or.inl rfl | exact Or.inr rfl) rfl (by first | exact K.Base.le.refl _ | assumption) (H' := []) rfl ⟨rfl, rfl, rfl⟩
theorem CloFrom (h : Base) (x y : PDirty) : TrV Tryz.prog 49 [.agg (cD x).toArray, .agg (cD y).toArray] h [] (.int .i64 (cmpQ x.frm y.frm)) [] := by
 refine K.enter Tryz.func49 rfl (Nat.le_of_ble_eq_true rfl) (fun F => ?_)
 simp only [List.nil_append]
 (repeat' (first | refine X.rq ?_ | (refine X.rc ?_ ?_ <;> intro hc <;> first | (exfalso; omega) | skip)))
 refine K.l_box rfl rfl rfl (fun B2 => ?_)
 refine K.l_box rfl rfl rfl (fun B3 => ?_)
 (repeat' (first | refine X.rq ?_ | (refine X.rc ?_ ?_ <;> intro hc <;> first | (exfalso; omega) | skip)))
 refine K.l_callV (Fx.cal rfl) rfl (KCmp64 h x.frm y.frm) (K.pp [] rfl) rfl rfl ?_
 simp only [List.nil_append]
 (repeat' (first | refine X.rq ?_ | (refine X.rc ?_ ?_ <;> intro hc <;> first | (exfalso; omega) | skip)))
 refine K.AT.drop (K.AT.drop ?_)
 refine K.done (by first | exact Or.inl rfl | exact Or.inr rfl) rfl (by first | exact K.Base.le.refl _ | assumption) (H' := []) rfl ⟨rfl, rfl, rfl⟩
def IsLeast (l : List PDirty) (n : Nat) : Prop := (l = [] ∧ n = 0) ∨ ((∃ m ∈ l, m.frm = n) ∧ ∀ y ∈ l, n ≤ y.frm)
theorem IsLeast.eq {l : List PDirty} {n m : Nat} (h : IsLeast l n) (k : IsLeast l m) : n = m := by
 rcases h with ⟨rfl, rfl⟩ | ⟨⟨x, hx, rfl⟩, h2⟩
 ·rcases k with ⟨_, rfl⟩ | ⟨⟨x, hx, _⟩, _⟩
  ·rfl
  ·cases hx
 ·rcases k with ⟨rfl, _⟩ | ⟨⟨y, hy, rfl⟩, k2⟩
  ·cases hx
  ·have := h2 y hy
   have := k2 x hx
   omega
structure MinS where
 j : Nat
 m : PDirty
theorem mem_take_succ {α : Type} {l : List α} {j : Nat} {x y : α} (hx : l[j]? = some x) : y ∈ l.take (j + 1) ↔ y ∈ l.take j ∨ y = x := by
 rw [List.take_add_one, hx, List.mem_append]
 simp
set_option maxHeartbeats 4000000 in
theorem CMin (h : Base) (v : Value) (l : List PDirty) (hv : SL h 2 v (l.map cD)) (hl : l.length ≤ 9223372036854775807) (h0 : l ≠ []) :
  Tr Tryz.prog 48 [v, .func (.func 49) #[] #[]] h [] (fun u h' H' => h = h' ∧ H' = [] ∧ ∃ m, u = .agg (cD m).toArray ∧ m ∈ l ∧ ∀ y ∈ l, m.frm ≤ y.frm) := by
 obtain ⟨ao, ca, rfl⟩ := hv.len
 rw [List.length_map] at hv ⊢
 have hlp : 0 < l.length := List.length_pos_iff.2 h0
 have hx0 : l[0]? = some (l[0]'hlp) := List.getElem?_eq_getElem hlp
 have hc0 : (l.map cD)[((0 : Int)).toNat]? = some (cD (l[0]'hlp)) := by rw [List.getElem?_map, show ((0 : Int)).toNat = 0 from rfl, hx0]; rfl
 generalize l[0]'hlp = x0 at hx0 hc0
 refine K.enter Tryz.func48 rfl (Nat.le_of_ble_eq_true rfl) (fun F => ?_)
 simp only [List.nil_append]
 (repeat' (first | refine X.rq ?_ | (refine X.rc ?_ ?_ <;> intro hc <;> first | (exfalso; omega) | skip)))
 refine K.l_alloc (Fx.zr rfl) rfl rfl (fun B4 => ?_)
 (repeat' (first | refine X.rq ?_ | (refine X.rc ?_ ?_ <;> intro hc <;> first | (exfalso; omega) | skip)))
 refine K.s_pureE (K.p_indexL hv (Fx.und rfl) (Fx.sz rfl) rfl rfl (by omega) hc0) rfl ?_
 rintro v2 ⟨b2, o2, rfl, hcel⟩
 refine K.s_pure (K.p_loadM (Fx.agg rfl) rfl (Cels.up hcel) (Fx.sz rfl) rfl) rfl ?_
 refine K.l_alloc (Fx.zr rfl) rfl rfl (fun B5 => ?_)
 refine X.stw ?_
 simp only [List.set_cons_zero, List.set_cons_succ, List.eraseIdx_cons_zero, List.eraseIdx_cons_succ, List.cons_append, List.nil_append]
 (repeat' (first | refine X.rq ?_ | (refine X.rc ?_ ?_ <;> intro hc <;> first | (exfalso; omega) | skip)))
 have hin1 : x0 ∈ l.take 1 := (mem_take_succ hx0).2 (.inr rfl)
 have hin2 : ∀ y ∈ l.take 1, x0.frm ≤ y.frm := fun y hy => by
  rcases (mem_take_succ hx0).1 hy with hy | hy
  ·simp at hy
  ·rw [hy]; exact Nat.le_refl _
 refine K.c_loop (σ := MinS) (fun q => [(0, .slice ao l.length ca), (1, .func (.func 49) #[] #[]), (4, .pointer (some ⟨B4, 0, none⟩)), (5, .pointer (some ⟨B5, 0, none⟩)), (6, .int .i64 q.j)]) (fun _ => h)
  (fun q => blk B5 40 (cD q.m) :: blk B4 40 (cD ⟨0, 0⟩) :: F)
  (fun q => 1 ≤ q.j ∧ q.j ≤ l.length ∧ q.m ∈ l.take q.j ∧ ∀ y ∈ l.take q.j, q.m.frm ≤ y.frm) (fun q => l.length - q.j) ⟨1, x0⟩ ⟨Nat.le_refl _, hlp, hin1, hin2⟩ (by repeat (first | exact K.Sub.nil _ | refine K.Sub.cons rfl ?_)) rfl rfl ?_
 rintro ⟨j, m⟩ ⟨h1, hj, hm, hle⟩ KL hKL
 dsimp only at h1 hj hm hle ⊢
 have hle := fun (_ : Unit) => hle
 by_cases hjl : j < l.length
 ·have hx1 : l[j]? = some (l[j]'hjl) := List.getElem?_eq_getElem hjl
  have hc1 : (l.map cD)[((j : Nat) : Int).toNat]? = some (cD (l[j]'hjl)) := by rw [Int.toNat_natCast, List.getElem?_map, hx1]; rfl
  have hc2 : (l.map cD)[j]? = some (cD (l[j]'hjl)) := by rw [List.getElem?_map, hx1]; rfl
  generalize l[j]'hjl = x at hx1 hc1 hc2
  obtain ⟨bb, oo, rfl, hcx⟩ := hv.at hc2
  (repeat' (first | refine X.rq ?_ | (refine X.rc ?_ ?_ <;> intro hc <;> first | (exfalso; omega) | skip)))
  refine X.draw ([blk B5 40 (cD m)]) [6] (.pu 0 (.pu 1 (.pu 2 (.pu 3 (.st 4 (.st 5 (.cl 6 (.pu 7 .nil)))))))) ?_
  refine K.d_pu rfl (fun _ _ => X.mv) rfl ?_
  refine K.d_pu rfl (fun _ _ => X.mv) rfl ?_
  refine K.d_pu rfl (fun _ _ => X.mv) rfl ?_
  refine K.d_pu rfl (fun _ _ => K.p_indexAddr (Fx.und rfl) (Fx.sz rfl) rfl rfl (by omega) (by omega) rfl) rfl ?_
  refine K.d_st rfl (K.p_loadM (Fx.agg rfl) rfl (Cels.up hcx) (Fx.sz rfl) rfl) rfl ?_
  refine K.d_st rfl X.ld rfl ?_
  refine K.d_cl rfl (fun KK hKK => ?_)
  refine K.l_callF (vals := [.agg (cD x).toArray, .agg (cD m).toArray]) (caps := []) (Fx.cal rfl) rfl rfl (CloFrom h x m) (K.pp [] rfl) rfl ?_
  rintro w h' H' - ⟨rfl, e, rfl⟩
  obtain rfl := e.symm
  simp only [List.nil_append]
  refine K.l_nil ?_
  refine K.d_clE hKK ?_
  refine K.d_pu rfl (fun _ _ => X.blss) rfl ?_
  refine K.d_nil ?_
  rw [show ((cmpQ x.frm m.frm) : Int) = if x.frm < m.frm then -1 else if m.frm < x.frm then 1 else 0 from rfl]
  by_cases hlt : x.frm < m.frm
  ·rw [if_pos hlt]
   (repeat' (first | refine X.rq ?_ | (refine X.rc ?_ ?_ <;> intro hc <;> first | (exfalso; omega) | skip)))
   refine K.s_pure (K.p_loadM (Fx.agg rfl) rfl (Cels.up hcx) (Fx.sz rfl) rfl) rfl ?_
   refine X.stw ?_
   simp only [List.set_cons_zero, List.set_cons_succ, List.eraseIdx_cons_zero, List.eraseIdx_cons_succ, List.cons_append, List.nil_append]
   (repeat' (first | refine X.rq ?_ | (refine X.rc ?_ ?_ <;> intro hc <;> first | (exfalso; omega) | skip)))
   refine K.a_round hKL ⟨j + 1, x⟩ ⟨by dsimp only; omega, by dsimp only; omega, (mem_take_succ hx1).2 (.inr rfl), fun y hy => ?_⟩ (by repeat (first | exact K.Sub.nil _ | refine K.Sub.cons rfl ?_)) rfl rfl (by dsimp only; omega)
   dsimp only
   rcases (mem_take_succ hx1).1 hy with hy | rfl
   ·have := hle () y hy; omega
   ·exact Nat.le_refl _
  ·rw [if_neg hlt]
   have hge : 0 ≤ (if m.frm < x.frm then 1 else 0 : Int) := by split <;> decide
   generalize (if m.frm < x.frm then 1 else 0 : Int) = q at hge
   (repeat' (first | refine X.rq ?_ | (refine X.rc ?_ ?_ <;> intro hc <;> first | (exfalso; omega) | skip)))
   refine K.a_round hKL ⟨j + 1, m⟩ ⟨by dsimp only; omega, by dsimp only; omega, (mem_take_succ hx1).2 (.inl hm), fun y hy => ?_⟩ (by repeat (first | exact K.Sub.nil _ | refine K.Sub.cons rfl ?_)) rfl rfl (by dsimp only; omega)
   dsimp only
   rcases (mem_take_succ hx1).1 hy with hy | rfl
   ·exact hle () y hy
   ·omega
 ·obtain rfl : j = l.length := by omega
  rw [List.take_length] at hm hle
  (repeat' (first | refine X.rq ?_ | (refine X.rc ?_ ?_ <;> intro hc <;> first | (exfalso; omega) | skip)))
  refine X.stw ?_
  simp only [List.set_cons_zero, List.set_cons_succ, List.eraseIdx_cons_zero, List.eraseIdx_cons_succ, List.cons_append, List.nil_append]
  (repeat' (first | refine X.rq ?_ | (refine X.rc ?_ ?_ <;> intro hc <;> first | (exfalso; omega) | skip)))
  refine K.doneC (by first | exact Or.inl rfl | exact Or.inr rfl) (.cell rfl (Fx.agg rfl) (Fx.sz rfl) (by first | exact K.cels_own (pre := []) (post := []) 0 rfl rfl | exact K.cels_own (pre := []) (post := []) 1 rfl rfl | exact K.cels_own (pre := []) (post := []) 2 rfl rfl | exact K.cels_own (pre := []) (post := []) 3 rfl rfl | exact K.cels_own (pre := []) (post := []) 4 rfl rfl | exact K.cels_own (pre := []) (post := []) 5 rfl rfl) .nil) (by first | exact K.Base.le.refl _ | assumption) (vs := [.agg (cD m).toArray]) (D := [_, _]) (H' := []) rfl ⟨rfl, rfl, m, rfl, hm, hle ()⟩
set_option maxHeartbeats 4000000 in
theorem CFrom (h : Base) (v : Value) (l : List PDirty) (hv : SL h 2 v (l.map cD)) (hl : l.length ≤ 9223372036854775807) :
  Tr Tryz.prog 19 [v] h [] (fun u h' H' => h = h' ∧ H' = [] ∧ ∃ n : Nat, u = .int .u64 n ∧ IsLeast l n) := by
 have hmi := CMin h v l hv hl
 obtain ⟨ao, ca, rfl⟩ := hv.len
 rw [List.length_map] at hv hmi ⊢
 refine K.enter Tryz.func19 rfl (Nat.le_of_ble_eq_true rfl) (fun F => ?_)
 simp only [List.nil_append]
 by_cases h0 : l = []
 ·subst h0
  simp only [List.length_nil]
  (repeat' (first | refine X.rq ?_ | (refine X.rc ?_ ?_ <;> intro hc <;> first | (exfalso; omega) | skip)))
  refine K.done (by first | exact Or.inl rfl | exact Or.inr rfl) rfl (by first | exact K.Base.le.refl _ | assumption) (H' := []) rfl ⟨rfl, rfl, 0, rfl, .inl ⟨rfl, rfl⟩⟩
 ·have hlp : 0 < l.length := List.length_pos_iff.2 h0
  (repeat' (first | refine X.rq ?_ | (refine X.rc ?_ ?_ <;> intro hc <;> first | (exfalso; omega) | skip)))
  refine K.l_call (Fx.cal rfl) rfl (hmi h0) (K.pp [] rfl) rfl ?_
  rintro u h' H' - ⟨e, rfl, m, rfl, hm, hle⟩
  obtain rfl := e.symm
  simp only [List.nil_append]
  (repeat' (first | refine X.rq ?_ | (refine X.rc ?_ ?_ <;> intro hc <;> first | (exfalso; omega) | skip)))
  refine K.done (by first | exact Or.inl rfl | exact Or.inr rfl) rfl (by first | exact K.Base.le.refl _ | assumption) (H' := []) rfl ⟨rfl, rfl, m.frm, rfl, .inr ⟨⟨m, hm, rfl⟩, hle⟩⟩
structure LeaS where
 j : Nat
 n : Nat
def NextIn (l : List PLive) (lo hi : Nat) (k : Int) : Prop := (k = -1 ∧ ∀ i x, lo ≤ i → i < hi → l[i]? = some x → x.lost = false) ∨
 ∃ (i : Nat) (x : PLive), k = (i : Int) ∧ lo ≤ i ∧ i < hi ∧ l[i]? = some x ∧ x.lost = true ∧ ∀ j y, lo ≤ j → j < hi → l[j]? = some y → y.lost = true → y.undo ≤ x.undo ∧ (j < i → y.undo < x.undo)
theorem NextIn.eq {l : List PLive} {lo hi : Nat} {k m : Int} (h : NextIn l lo hi k) (q : NextIn l lo hi m) : k = m := by
 rcases h with ⟨rfl, h1⟩ | ⟨i, x, rfl, h1, h2, h3, h4, h5⟩
 ·rcases q with ⟨rfl, _⟩ | ⟨i, x, rfl, q1, q2, q3, q4, _⟩
  ·rfl
  ·have := h1 i x q1 q2 q3
   rw [q4] at this; cases this
 ·rcases q with ⟨rfl, q1⟩ | ⟨j, y, rfl, q1, q2, q3, q4, q5⟩
  ·have := q1 i x h1 h2 h3
   rw [h4] at this; cases this
  ·have a1 := h5 j y q1 q2 q3 q4
   have a2 := q5 i x h1 h2 h3 h4
   rcases Nat.lt_trichotomy i j with hij | rfl | hij
   ·have := a2.2 hij; omega
   ·rfl
   ·have := a1.2 hij; omega
theorem NextIn.nil {l : List PLive} {lo : Nat} : NextIn l lo lo (-1) := .inl ⟨rfl, fun i x h1 h2 => by omega⟩
theorem NextIn.up {l : List PLive} {j : Nat} {k : Int} {x : PLive} (hx : l[j]? = some x) (h : NextIn l 0 j k) {k' : Int}
  (hk : (x.lost = false ∧ k' = k) ∨ (x.lost = true ∧ k = -1 ∧ k' = j) ∨ (x.lost = true ∧ ∃ (i : Nat) (y : PLive), k = (i : Int) ∧ l[i]? = some y ∧ ((y.undo < x.undo ∧ k' = j) ∨ (x.undo ≤ y.undo ∧ k' = k)))) : NextIn l 0 (j + 1) k' := by
 have hlast : ∀ i z, i < j + 1 → l[i]? = some z → (i < j ∧ l[i]? = some z) ∨ (i = j ∧ z = x) := fun i z h1 h2 => by
  by_cases e : i = j
  ·subst e; rw [hx] at h2; exact .inr ⟨rfl, (Option.some.inj h2).symm⟩
  ·exact .inl ⟨by omega, h2⟩
 rcases h with ⟨rfl, h1⟩ | ⟨i, y, rfl, h1, h2, h3, h4, h5⟩
 ·rcases hk with ⟨e1, rfl⟩ | ⟨e1, _, rfl⟩ | ⟨e1, i, y, e, _⟩
  ·refine .inl ⟨rfl, fun i z a b c => ?_⟩
   rcases hlast i z b c with ⟨d, _⟩ | ⟨_, rfl⟩
   ·exact h1 i z a d c
   ·exact e1
  ·refine .inr ⟨j, x, rfl, Nat.zero_le _, Nat.lt_succ_self _, hx, e1, fun i z a b c d => ?_⟩
   rcases hlast i z b c with ⟨d', _⟩ | ⟨rfl, rfl⟩
   ·have := h1 i z a d' c
    rw [d] at this; cases this
   ·exact ⟨Nat.le_refl _, fun h => absurd h (Nat.lt_irrefl _)⟩
  ·omega
 ·rcases hk with ⟨e1, rfl⟩ | ⟨e1, e, rfl⟩ | ⟨e1, i', y', e, e2, hor⟩
  ·refine .inr ⟨i, y, rfl, h1, by omega, h3, h4, fun q z a b c d => ?_⟩
   rcases hlast q z b c with ⟨d', _⟩ | ⟨_, rfl⟩
   ·exact h5 q z a d' c d
   ·rw [e1] at d; cases d
  ·omega
  ·obtain rfl : i = i' := by omega
   rw [h3] at e2
   obtain rfl := Option.some.inj e2
   rcases hor with ⟨hlt, rfl⟩ | ⟨hge, rfl⟩
   ·refine .inr ⟨j, x, rfl, Nat.zero_le _, Nat.lt_succ_self _, hx, e1, fun q z a b c d => ?_⟩
    rcases hlast q z b c with ⟨d', _⟩ | ⟨rfl, rfl⟩
    ·have := (h5 q z a d' c d).1
     exact ⟨by omega, fun _ => by omega⟩
    ·exact ⟨Nat.le_refl _, fun h => absurd h (Nat.lt_irrefl _)⟩
   ·refine .inr ⟨i, y, rfl, h1, by omega, h3, h4, fun q z a b c d => ?_⟩
    rcases hlast q z b c with ⟨d', _⟩ | ⟨rfl, rfl⟩
    ·exact h5 q z a d' c d
    ·exact ⟨hge, fun h => by omega⟩
theorem NextIn.down {l : List PLive} {j n : Nat} {k : Int} {x : PLive} (hj : j < n) (hx : l[j]? = some x) (h : NextIn l (j + 1) n k) {k' : Int}
  (hk : (x.lost = false ∧ k' = k) ∨ (x.lost = true ∧ k = -1 ∧ k' = j) ∨ (x.lost = true ∧ ∃ (i : Nat) (y : PLive), k = (i : Int) ∧ l[i]? = some y ∧ ((y.undo ≤ x.undo ∧ k' = j) ∨ (x.undo < y.undo ∧ k' = k)))) : NextIn l j n k' := by
 have hlast : ∀ i z, j ≤ i → l[i]? = some z → (j + 1 ≤ i ∧ l[i]? = some z) ∨ (i = j ∧ z = x) := fun i z h1 h2 => by
  by_cases e : i = j
  ·subst e; rw [hx] at h2; exact .inr ⟨rfl, (Option.some.inj h2).symm⟩
  ·exact .inl ⟨by omega, h2⟩
 rcases h with ⟨rfl, h1⟩ | ⟨i, y, rfl, h1, h2, h3, h4, h5⟩
 ·rcases hk with ⟨e1, rfl⟩ | ⟨e1, _, rfl⟩ | ⟨e1, i, y, e, _⟩
  ·refine .inl ⟨rfl, fun i z a b c => ?_⟩
   rcases hlast i z a c with ⟨d, _⟩ | ⟨_, rfl⟩
   ·exact h1 i z d b c
   ·exact e1
  ·refine .inr ⟨j, x, rfl, Nat.le_refl _, hj, hx, e1, fun i z a b c d => ?_⟩
   rcases hlast i z a c with ⟨d', _⟩ | ⟨rfl, rfl⟩
   ·have := h1 i z d' b c
    rw [d] at this; cases this
   ·exact ⟨Nat.le_refl _, fun h => absurd h (Nat.lt_irrefl _)⟩
  ·omega
 ·rcases hk with ⟨e1, rfl⟩ | ⟨e1, e, rfl⟩ | ⟨e1, i', y', e, e2, hor⟩
  ·refine .inr ⟨i, y, rfl, by omega, h2, h3, h4, fun q z a b c d => ?_⟩
   rcases hlast q z a c with ⟨d', _⟩ | ⟨_, rfl⟩
   ·exact h5 q z d' b c d
   ·rw [e1] at d; cases d
  ·omega
  ·obtain rfl : i = i' := by omega
   rw [h3] at e2
   obtain rfl := Option.some.inj e2
   rcases hor with ⟨hle, rfl⟩ | ⟨hgt, rfl⟩
   ·refine .inr ⟨j, x, rfl, Nat.le_refl _, hj, hx, e1, fun q z a b c d => ?_⟩
    rcases hlast q z a c with ⟨d', _⟩ | ⟨rfl, rfl⟩
    ·have := (h5 q z d' b c d).1
     exact ⟨by omega, fun _ => by omega⟩
    ·exact ⟨Nat.le_refl _, fun h => absurd h (Nat.lt_irrefl _)⟩
   ·refine .inr ⟨i, y, rfl, by omega, h2, h3, h4, fun q z a b c d => ?_⟩
    rcases hlast q z a c with ⟨d', _⟩ | ⟨rfl, rfl⟩
    ·exact h5 q z d' b c d
    ·exact ⟨by omega, fun _ => hgt⟩
end Go.Proofs.YtkdngpiiecmpgaaGreat.Ch

/-! Who is next: the code and the document. Conditions: each theorem's own. -/
namespace Go.Proofs.YtkdngpiiecmpgaaGreat.Ch
open Go Go.K Go.Proofs Go.Proofs.YtkdngpiiecmpgaaGreat Go.Proofs.YtkdngpiiecmpgaaGreat.Pg Go.Proofs.YtkdngpiiecmpgaaGreat.Rc
set_option linter.unusedVariables false
set_option linter.unusedSimpArgs false
set_option maxRecDepth 10000

structure NexS where
 j : Nat
 k : Int
structure LivAt (h : Base) (b o : Nat) (x : PLive) : Prop where
 undo : Cel h [] b (o + 2) (.int .u64 x.undo)
 lost : Cel h [] b (o + 3) (.bool x.lost)
theorem liv_at {h : Base} {b o ca la : Nat} {l : List PLive} (hv : SL h 4 (.slice (some ⟨b, o, none⟩) la ca) (l.map cL)) {j : Nat} {x : PLive} (hx : l[j]? = some x) : Cels h [] b (o + j * 4) (cL x) := by
 obtain ⟨b', o', e, hc⟩ := hv.at (show (l.map cL)[j]? = some (cL x) by rw [List.getElem?_map, hx]; rfl)
 injection e with e
 injection e with e1 e2
 subst e1; subst e2
 exact hc
set_option maxHeartbeats 8000000 in
theorem CNext (h : Base) (v : Value) (l : List PLive) (hv : SL h 4 v (l.map cL)) (hl : l.length ≤ 9223372036854775807) :
  Tr Tryz.prog 21 [v] h [] (fun u h' H' => h = h' ∧ H' = [] ∧ ∃ k, u = .int .i64 k ∧ NextIn l 0 l.length k) := by
 obtain ⟨ao, ca, rfl⟩ := hv.len
 rw [List.length_map] at hv ⊢
 refine K.enter Tryz.func21 rfl (Nat.le_of_ble_eq_true rfl) (fun F => ?_)
 simp only [List.nil_append]
 (repeat' (first | refine X.rq ?_ | (refine X.rc ?_ ?_ <;> intro hc <;> first | (exfalso; omega) | skip)))
 refine K.c_loop (σ := NexS) (fun q => [(0, .slice ao l.length ca), (3, .int .i64 q.k), (6, .slice ao l.length ca), (7, .int .i64 l.length), (8, .int .i64 q.j)]) (fun _ => h) (fun _ => F)
  (fun q => q.j ≤ l.length ∧ NextIn l 0 q.j q.k) (fun q => l.length - q.j) ⟨0, -1⟩ ⟨Nat.zero_le _, NextIn.nil⟩ (by repeat (first | exact K.Sub.nil _ | refine K.Sub.cons rfl ?_)) rfl rfl ?_
 rintro ⟨j, k⟩ ⟨hj, hnx⟩ KL hKL
 dsimp only at hj hnx ⊢
 by_cases hjl : j < l.length
 ·have hx1 : l[j]? = some (l[j]'hjl) := List.getElem?_eq_getElem hjl
  generalize l[j]'hjl = x at hx1
  obtain ⟨bb, oo, rfl, _⟩ := hv.at (show (l.map cL)[j]? = some (cL x) by rw [List.getElem?_map, hx1]; rfl)
  have hcx := liv_at hv hx1
  obtain ⟨xt, xl, xu, xo⟩ := x
  (repeat' (first | refine X.rq ?_ | (refine X.rc ?_ ?_ <;> intro hc <;> first | (exfalso; omega) | skip)))
  refine K.s_pure (K.p_loadM (Fx.agg rfl) rfl (Cels.up hcx) (Fx.sz rfl) rfl) rfl ?_
  refine K.l_alloc (Fx.zr rfl) rfl rfl (fun B5 => ?_)
  (repeat' (first | refine X.rq ?_ | (refine X.rc ?_ ?_ <;> intro hc <;> first | (exfalso; omega) | skip)))
  refine X.stw ?_
  simp only [List.set_cons_zero, List.set_cons_succ, List.eraseIdx_cons_zero, List.eraseIdx_cons_succ, List.cons_append, List.nil_append]
  (repeat' (first | refine X.rq ?_ | (refine X.rc ?_ ?_ <;> intro hc <;> first | (exfalso; omega) | skip)))
  have hk : k = -1 ∨ ∃ (i : Nat) (y : PLive), k = (i : Int) ∧ i < j ∧ l[i]? = some y := by
   rcases hnx with ⟨e, _⟩ | ⟨i, y, e, _, h2, h3, _⟩
   ·exact .inl e
   ·exact .inr ⟨i, y, e, h2, h3⟩
  cases xo with
  | false =>
   refine X.draw ([blk B5 38 [.int .u32 xt, .int .u64 xl, .int .u64 xu, .bool false]]) [] (.pu 0 (.st 1 (.pu 2 (.pu 3 (.pu 4 (.pu 5 (.pu 6 (.pu 8 (.pu 9 (.pu 10 (.pu 11 (.st 7 (.st 12 (.pu 13 (.pu 14 (.pu 15 .nil)))))))))))))))) ?_
   refine K.d_pu rfl (fun _ _ => X.fa) rfl ?_
   refine K.d_st rfl X.ld rfl ?_
   refine K.d_pu rfl (fun _ _ => X.mv) rfl ?_
   first | refine K.d_skip rfl rfl rfl rfl ?_ | refine K.d_skipU rfl rfl rfl rfl rfl ?_ | refine K.d_puG rfl rfl rfl (fun _ _ => X.mv) rfl ?_
   first | refine K.d_skip rfl rfl rfl rfl ?_ | refine K.d_skipU rfl rfl rfl rfl rfl ?_ | refine K.d_puG rfl rfl rfl (fun _ _ => X.blss) rfl ?_
   first | refine K.d_skip rfl rfl rfl rfl ?_ | refine K.d_skipU rfl rfl rfl rfl rfl ?_ | refine K.d_puG rfl rfl rfl (fun _ _ => X.mv) rfl ?_
   first | refine K.d_skip rfl rfl rfl rfl ?_ | refine K.d_skipU rfl rfl rfl rfl rfl ?_ | refine K.d_puG rfl rfl rfl (fun _ _ => X.fa) rfl ?_
   first | refine K.d_skip rfl rfl rfl rfl ?_ | refine K.d_skipU rfl rfl rfl rfl rfl ?_ | refine K.d_puG rfl rfl rfl (fun _ _ => X.mv) rfl ?_
   first | refine K.d_skip rfl rfl rfl rfl ?_ | refine K.d_skipU rfl rfl rfl rfl rfl ?_ | refine K.d_puG rfl rfl rfl (fun _ _ => X.mv) rfl ?_
   first | refine K.d_skip rfl rfl rfl rfl ?_ | refine K.d_skipU rfl rfl rfl rfl rfl ?_ | refine K.d_puG rfl rfl rfl (fun _ _ => X.ia) rfl ?_
   first | refine K.d_skip rfl rfl rfl rfl ?_ | refine K.d_skipU rfl rfl rfl rfl rfl ?_ | refine K.d_puG rfl rfl rfl (fun _ _ => X.fa) rfl ?_
   first | refine K.d_skipS rfl rfl rfl rfl ?_ | refine K.d_skipUS rfl rfl rfl rfl rfl ?_ | refine K.d_stG rfl rfl rfl X.ld rfl ?_
   first | refine K.d_skipS rfl rfl rfl rfl ?_ | refine K.d_skipUS rfl rfl rfl rfl rfl ?_ | refine K.d_stG rfl rfl rfl X.ld rfl ?_
   first | refine K.d_skip rfl rfl rfl rfl ?_ | refine K.d_skipU rfl rfl rfl rfl rfl ?_ | refine K.d_puG rfl rfl rfl (fun _ _ => X.bgtr) rfl ?_
   first | refine K.d_skip rfl rfl rfl rfl ?_ | refine K.d_skipU rfl rfl rfl rfl rfl ?_ | refine K.d_puG rfl rfl rfl (fun _ _ => X.pk) rfl ?_
   refine K.d_pu rfl (fun _ _ => X.pk) rfl ?_
   refine K.d_nil ?_
   (repeat' (first | refine X.rq ?_ | (refine X.rc ?_ ?_ <;> intro hc <;> first | (exfalso; omega) | skip)))
   refine K.AT.drop ?_
   refine K.a_round hKL ⟨j + 1, k⟩ ⟨by dsimp only; omega, hnx.up hx1 (.inl ⟨rfl, rfl⟩)⟩ (by repeat (first | exact K.Sub.nil _ | refine K.Sub.cons rfl ?_)) rfl rfl (by dsimp only; omega)
  | true =>
   rcases hk with rfl | ⟨i, y, rfl, hij, hy⟩
   ·refine X.draw ([blk B5 38 [.int .u32 xt, .int .u64 xl, .int .u64 xu, .bool true]]) [] (.pu 0 (.st 1 (.pu 2 (.pu 3 (.pu 4 (.pu 5 (.pu 6 (.pu 8 (.pu 9 (.pu 10 (.pu 11 (.st 7 (.st 12 (.pu 13 (.pu 14 (.pu 15 .nil)))))))))))))))) ?_
    refine K.d_pu rfl (fun _ _ => X.fa) rfl ?_
    refine K.d_st rfl X.ld rfl ?_
    refine K.d_pu rfl (fun _ _ => X.mv) rfl ?_
    first | refine K.d_skip rfl rfl rfl rfl ?_ | refine K.d_skipU rfl rfl rfl rfl rfl ?_ | refine K.d_puG rfl rfl rfl (fun _ _ => X.mv) rfl ?_
    first | refine K.d_skip rfl rfl rfl rfl ?_ | refine K.d_skipU rfl rfl rfl rfl rfl ?_ | refine K.d_puG rfl rfl rfl (fun _ _ => X.blss) rfl ?_
    first | refine K.d_skip rfl rfl rfl rfl ?_ | refine K.d_skipU rfl rfl rfl rfl rfl ?_ | refine K.d_puG rfl rfl rfl (fun _ _ => X.mv) rfl ?_
    first | refine K.d_skip rfl rfl rfl rfl ?_ | refine K.d_skipU rfl rfl rfl rfl rfl ?_ | refine K.d_puG rfl rfl rfl (fun _ _ => X.fa) rfl ?_
    first | refine K.d_skip rfl rfl rfl rfl ?_ | refine K.d_skipU rfl rfl rfl rfl rfl ?_ | refine K.d_puG rfl rfl rfl (fun _ _ => X.mv) rfl ?_
    first | refine K.d_skip rfl rfl rfl rfl ?_ | refine K.d_skipU rfl rfl rfl rfl rfl ?_ | refine K.d_puG rfl rfl rfl (fun _ _ => X.mv) rfl ?_
    first | refine K.d_skip rfl rfl rfl rfl ?_ | refine K.d_skipU rfl rfl rfl rfl rfl ?_ | refine K.d_puG rfl rfl rfl (fun _ _ => X.ia) rfl ?_
    first | refine K.d_skip rfl rfl rfl rfl ?_ | refine K.d_skipU rfl rfl rfl rfl rfl ?_ | refine K.d_puG rfl rfl rfl (fun _ _ => X.fa) rfl ?_
    first | refine K.d_skipS rfl rfl rfl rfl ?_ | refine K.d_skipUS rfl rfl rfl rfl rfl ?_ | refine K.d_stG rfl rfl rfl X.ld rfl ?_
    first | refine K.d_skipS rfl rfl rfl rfl ?_ | refine K.d_skipUS rfl rfl rfl rfl rfl ?_ | refine K.d_stG rfl rfl rfl X.ld rfl ?_
    first | refine K.d_skip rfl rfl rfl rfl ?_ | refine K.d_skipU rfl rfl rfl rfl rfl ?_ | refine K.d_puG rfl rfl rfl (fun _ _ => X.bgtr) rfl ?_
    first | refine K.d_skip rfl rfl rfl rfl ?_ | refine K.d_skipU rfl rfl rfl rfl rfl ?_ | refine K.d_puG rfl rfl rfl (fun _ _ => X.pk) rfl ?_
    refine K.d_pu rfl (fun _ _ => X.pk) rfl ?_
    refine K.d_nil ?_
    (repeat' (first | refine X.rq ?_ | (refine X.rc ?_ ?_ <;> intro hc <;> first | (exfalso; omega) | skip)))
    refine K.AT.drop ?_
    refine K.a_round hKL ⟨j + 1, (j : Int)⟩ ⟨by dsimp only; omega, hnx.up hx1 (.inr (.inl ⟨rfl, rfl, rfl⟩))⟩ (by repeat (first | exact K.Sub.nil _ | refine K.Sub.cons rfl ?_)) rfl rfl (by dsimp only; omega)
   ·have hcy := liv_at hv hy
    refine X.draw ([blk B5 38 [.int .u32 xt, .int .u64 xl, .int .u64 xu, .bool true]]) [] (.pu 0 (.st 1 (.pu 2 (.pu 3 (.pu 4 (.pu 5 (.pu 6 (.pu 8 (.pu 9 (.pu 10 (.pu 11 (.st 7 (.st 12 (.pu 13 (.pu 14 (.pu 15 .nil)))))))))))))))) ?_
    refine K.d_pu rfl (fun _ _ => X.fa) rfl ?_
    refine K.d_st rfl X.ld rfl ?_
    refine K.d_pu rfl (fun _ _ => X.mv) rfl ?_
    first | refine K.d_skip rfl rfl rfl rfl ?_ | refine K.d_skipU rfl rfl rfl rfl rfl ?_ | refine K.d_puG rfl rfl rfl (fun _ _ => X.mv) rfl ?_
    first | refine K.d_skip rfl rfl rfl rfl ?_ | refine K.d_skipU rfl rfl rfl rfl rfl ?_ | refine K.d_puG rfl rfl rfl (fun _ _ => X.blss) rfl ?_
    first | refine K.d_skip rfl rfl rfl rfl ?_ | refine K.d_skipU rfl rfl rfl rfl rfl ?_ | refine K.d_puG rfl rfl rfl (fun _ _ => X.mv) rfl ?_
    first | refine K.d_skip rfl rfl rfl rfl ?_ | refine K.d_skipU rfl rfl rfl rfl rfl ?_ | refine K.d_puG rfl rfl rfl (fun _ _ => X.fa) rfl ?_
    first | refine K.d_skip rfl rfl rfl rfl ?_ | refine K.d_skipU rfl rfl rfl rfl rfl ?_ | refine K.d_puG rfl rfl rfl (fun _ _ => X.mv) rfl ?_
    first | refine K.d_skip rfl rfl rfl rfl ?_ | refine K.d_skipU rfl rfl rfl rfl rfl ?_ | refine K.d_puG rfl rfl rfl (fun _ _ => X.mv) rfl ?_
    first | refine K.d_skip rfl rfl rfl rfl ?_ | refine K.d_skipU rfl rfl rfl rfl rfl ?_ | refine K.d_puG rfl rfl rfl (fun _ _ => X.ia) rfl ?_
    first | refine K.d_skip rfl rfl rfl rfl ?_ | refine K.d_skipU rfl rfl rfl rfl rfl ?_ | refine K.d_puG rfl rfl rfl (fun _ _ => X.fa) rfl ?_
    first | refine K.d_skipS rfl rfl rfl rfl ?_ | refine K.d_skipUS rfl rfl rfl rfl rfl ?_ | refine K.d_stG rfl rfl rfl X.ld rfl ?_
    refine K.d_stG rfl rfl rfl (K.p_load (Fx.agg rfl) rfl (Cels.get (Cels.up hcy) 2 (.int .u64 y.undo) rfl)) rfl ?_
    first | refine K.d_skip rfl rfl rfl rfl ?_ | refine K.d_skipU rfl rfl rfl rfl rfl ?_ | refine K.d_puG rfl rfl rfl (fun _ _ => X.bgtr) rfl ?_
    first | refine K.d_skip rfl rfl rfl rfl ?_ | refine K.d_skipU rfl rfl rfl rfl rfl ?_ | refine K.d_puG rfl rfl rfl (fun _ _ => X.pk) rfl ?_
    refine K.d_pu rfl (fun _ _ => X.pk) rfl ?_
    refine K.d_nil ?_
    by_cases hlt : y.undo < xu
    ·(repeat' (first | refine X.rq ?_ | (refine X.rc ?_ ?_ <;> intro hc <;> first | (exfalso; omega) | skip)))
     refine K.AT.drop ?_
     refine K.a_round hKL ⟨j + 1, (j : Int)⟩ ⟨by dsimp only; omega, hnx.up hx1 (.inr (.inr ⟨rfl, i, y, rfl, hy, .inl ⟨hlt, rfl⟩⟩))⟩ (by repeat (first | exact K.Sub.nil _ | refine K.Sub.cons rfl ?_)) rfl rfl (by dsimp only; omega)
    ·(repeat' (first | refine X.rq ?_ | (refine X.rc ?_ ?_ <;> intro hc <;> first | (exfalso; omega) | skip)))
     refine K.AT.drop ?_
     refine K.a_round hKL ⟨j + 1, (i : Int)⟩ ⟨by dsimp only; omega, hnx.up hx1 (.inr (.inr ⟨rfl, i, y, rfl, hy, .inr ⟨by dsimp only; omega, rfl⟩⟩))⟩ (by repeat (first | exact K.Sub.nil _ | refine K.Sub.cons rfl ?_)) rfl rfl (by dsimp only; omega)
 ·obtain rfl : j = l.length := by omega
  (repeat' (first | refine X.rq ?_ | (refine X.rc ?_ ?_ <;> intro hc <;> first | (exfalso; omega) | skip)))
  refine K.done (by first | exact Or.inl rfl | exact Or.inr rfl) rfl (by first | exact K.Base.le.refl _ | assumption) (H' := []) rfl ⟨rfl, rfl, k, rfl, hnx⟩
end Go.Proofs.YtkdngpiiecmpgaaGreat.Ch
