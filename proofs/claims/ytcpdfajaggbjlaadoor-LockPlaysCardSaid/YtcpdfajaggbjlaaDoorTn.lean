/-
  All the locks of a table, in a row of the caller's own: the code's. Conditions: each theorem's own.
-/
import Derived.Test.YtcpdfajaggbjlaaDoorTm

namespace Go.Proofs.YtcpdfajaggbjlaaDoor.Lk
open Go Go.K Go.Proofs Go.Proofs.YtcpdfajaggbjlaaDoor
set_option linter.unusedVariables false
set_option linter.unusedSimpArgs false
set_option maxRecDepth 10000

def RowsP (h : Base) (l : List PLock) (u : Value) (h' : Base) (H' : List Asrt) : Prop := h' = h ∧ ∃ a k, u = bufV a l.length k ∧ H' = [rowsA a k l]
theorem CloneL (h : Base) (v : Value) (l : List PLock) (hv : SL h 7 v (l.map cK)) (hl : l.length ≤ 1000000) :
    Tr Tryd.prog 30 [v] h [] (RowsP h l) := by
  have hlen : (l.map cK).length = l.length := List.length_map ..
  obtain ⟨ao, ca, rfl⟩ := hv.len
  rw [hlen] at hv ⊢
  refine K.enter Tryd.func30 rfl (Nat.le_of_ble_eq_true rfl) (fun F => ?_)
  simp only [List.nil_append]
  cases ao with
  | none =>
    have hl0 : l = [] := by
      rcases hv with ⟨_, _, e, e2⟩ | ⟨_, _, _, e, _⟩
      · exact List.map_eq_nil_iff.1 e2
      · cases e
    subst hl0
    (repeat' (first | refine X.rq ?_ | (refine X.rc ?_ ?_ <;> intro hc <;> first | (exfalso; omega) | skip)))
    refine K.AT.nilBuf 46 7 ?_
    refine K.done (by first | exact Or.inl rfl | exact Or.inr rfl) rfl (by first | exact K.Base.le.refl _ | assumption) (H' := [rowsA none 0 []]) rfl ⟨rfl, none, 0, rfl, rfl⟩
  | some ad =>
    have hsrc : ∀ KK, Src Tryd.prog h KK 7 (.slice (some ad) l.length ca) l.length (l.map cK).flatten := fun KK => by
      have := K.SL.src (P := Tryd.prog) (K := KK) hv (fun e he => by
        obtain ⟨x, _, rfl⟩ := List.mem_map.1 he
        rfl)
      rwa [hlen] at this
    (repeat' (first | refine X.rq ?_ | (refine X.rc ?_ ?_ <;> intro hc <;> first | (exfalso; omega) | skip)))
    refine K.l_buildSlice (Fx.und rfl) (Fx.sz rfl) rfl (Fx.zr rfl) rfl rfl rfl rfl rfl (fun B => ?_)
    refine K.WL.bufOf (m := 0) (s := 7) rfl (by unfold maxLen; omega) ?_
    (repeat' (first | refine X.rq ?_ | (refine X.rc ?_ ?_ <;> intro hc <;> first | (exfalso; omega) | skip)))
    refine K.l_append_at 0 rfl (Fx.und rfl) (Fx.und rfl) rfl (Fx.sz rfl) (Fx.zr rfl) rfl (Fx.byt rfl) rfl rfl (hsrc _) (by omega) (by omega) rfl (fun a1 cap1 => ?_)
    simp only [List.set_cons_zero, List.set_cons_succ, List.eraseIdx_cons_zero, List.eraseIdx_cons_succ, List.cons_append, List.nil_append]
    rw [Nat.zero_add]
    (repeat' (first | refine X.rq ?_ | (refine X.rc ?_ ?_ <;> intro hc <;> first | (exfalso; omega) | skip)))
    refine K.done (by first | exact Or.inl rfl | exact Or.inr rfl) rfl (by first | exact K.Base.le.refl _ | assumption) (H' := [rowsA a1 cap1 l]) rfl ⟨rfl, a1, cap1, rfl, rfl⟩
theorem All (h : Base) (BT : Nat) (v : Value) (l : List PLock) (hv : SL h 7 v (l.map cK)) (hl : l.length ≤ 1000000) :
    Tr Tryd.prog 12 [.pointer (some ⟨BT, 0, none⟩)] h [blk BT 29 [v]] (fun u h' H' => h' = h ∧ ∃ a k, u = bufV a l.length k ∧ H' = [blk BT 29 [v], rowsA a k l]) := by
  refine K.enter Tryd.func12 rfl (Nat.le_of_ble_eq_true rfl) (fun F => ?_)
  simp only [List.nil_append, List.cons_append]
  (repeat' (first | refine X.rq ?_ | (refine X.rc ?_ ?_ <;> intro hc <;> first | (exfalso; omega) | skip)))
  refine K.l_call (Fx.cal rfl) rfl (CloneL h v l hv hl) (K.pp [] rfl) rfl ?_
  rintro u h' H' - ⟨e, a, k, rfl, rfl⟩
  obtain rfl := e.symm
  simp only [List.nil_append, List.cons_append]
  (repeat' (first | refine X.rq ?_ | (refine X.rc ?_ ?_ <;> intro hc <;> first | (exfalso; omega) | skip)))
  refine K.AT.perm (K.pp [1, 0] rfl) ?_
  refine K.done (by first | exact Or.inl rfl | exact Or.inr rfl) rfl (by first | exact K.Base.le.refl _ | assumption) (H' := [_, _]) rfl ⟨rfl, a, k, rfl, rfl⟩
theorem AllA (h : Base) (BT : Nat) (a : Option Nat) (k : Nat) (l : List PLock) (hl : l.length ≤ 1000000) :
    Tr Tryd.prog 12 [.pointer (some ⟨BT, 0, none⟩)] h [rowsA a k l, tabB BT a k l]
      (fun u h' H' => h' = h ∧ ∃ a2 k2, u = bufV a2 l.length k2 ∧ H' = [rowsA a k l, tabB BT a k l, rowsA a2 k2 l]) := by
  have := K.Tr.borrow (P := Tryd.prog) (h := h) (f := 12) (args := [.pointer (some ⟨BT, 0, none⟩)]) (A := [rowsA a k l]) (R := [tabB BT a k l])
    (Q := fun u H1 => ∃ a2 k2, u = bufV a2 l.length k2 ∧ H1 = [tabB BT a k l, rowsA a2 k2 l]) fun h' hle hs F w ok => All h' BT _ l (rows_sl hs) hl F w ok
  exact fun F w ok => Calls.mono (this F w ok) fun e w' ⟨u, he, h1, H1, hle1, ⟨q1, H2, q2, a2, k2, q3, q4⟩, ok1⟩ => ⟨u, he, h1, H1, hle1, ⟨q1, a2, k2, q3, by rw [q2, q4]; rfl⟩, ok1⟩
def cmpU (x y : Nat) : Int := if x < y then -1 else if y < x then 1 else 0
theorem NaNU (h : Base) (x : Nat) : TrV Tryd.prog 58 [.int .u32 x] h [] (.bool false) [] := by
  refine K.enter Tryd.func58 rfl (Nat.le_of_ble_eq_true rfl) (fun F => ?_)
  simp only [List.nil_append]
  (repeat' (first | refine X.rq ?_ | (refine X.rc ?_ ?_ <;> intro hc <;> first | (exfalso; omega) | skip)))
  refine K.done (by first | exact Or.inl rfl | exact Or.inr rfl) rfl (by first | exact K.Base.le.refl _ | assumption) (H' := []) rfl ⟨by show Value.bool _ = _; simp, rfl, rfl⟩
theorem CmpU (h : Base) (x y : Nat) : TrV Tryd.prog 35 [.int .u32 x, .int .u32 y] h [] (.int .i64 (cmpU x y)) [] := by
  have h1 := NaNU h x
  have h2 := NaNU h y
  refine K.enter Tryd.func35 rfl (Nat.le_of_ble_eq_true rfl) (fun F => ?_)
  simp only [List.nil_append]
  unfold cmpU
  (repeat' (first | refine X.rq ?_ | (refine X.rc ?_ ?_ <;> intro hc <;> first | (exfalso; omega) | skip)))
  refine K.l_callV (Fx.cal rfl) rfl h1 (K.pp [] rfl) rfl rfl ?_
  simp only [List.nil_append]
  (repeat' (first | refine X.rq ?_ | (refine X.rc ?_ ?_ <;> intro hc <;> first | (exfalso; omega) | skip)))
  refine K.l_callV (Fx.cal rfl) rfl h2 (K.pp [] rfl) rfl rfl ?_
  simp only [List.nil_append]
  by_cases h3 : x < y
  · rw [if_pos h3]
    (repeat' (first | refine X.rq ?_ | (refine X.rc ?_ ?_ <;> intro hc <;> first | (exfalso; omega) | skip)))
    all_goals first | (exfalso; omega; done) | skip
    refine K.done (by first | exact Or.inl rfl | exact Or.inr rfl) rfl (by first | exact K.Base.le.refl _ | assumption) (H' := []) rfl ⟨rfl, rfl, rfl⟩
  · rw [if_neg h3]
    by_cases h4 : y < x
    · rw [if_pos h4]
      (repeat' (first | refine X.rq ?_ | (refine X.rc ?_ ?_ <;> intro hc <;> first | (exfalso; omega) | skip)))
      all_goals first | (exfalso; omega; done) | skip
      refine K.done (by first | exact Or.inl rfl | exact Or.inr rfl) rfl (by first | exact K.Base.le.refl _ | assumption) (H' := []) rfl ⟨rfl, rfl, rfl⟩
    · rw [if_neg h4]
      (repeat' (first | refine X.rq ?_ | (refine X.rc ?_ ?_ <;> intro hc <;> first | (exfalso; omega) | skip)))
      all_goals first | (exfalso; omega; done) | skip
      refine K.done (by first | exact Or.inl rfl | exact Or.inr rfl) rfl (by first | exact K.Base.le.refl _ | assumption) (H' := []) rfl ⟨rfl, rfl, rfl⟩
end Go.Proofs.YtcpdfajaggbjlaaDoor.Lk
