/-
  A page's bytes. Conditions: each theorem's own.
-/
import Derived.Test.YtkdngpiiecmpgaaGreatFi
import Derived.Test.YtkdngpiiecmpgaaGreatCb

namespace Go.Proofs.YtkdngpiiecmpgaaGreat.Pg
open Go Go.K Go.Proofs Go.Proofs.YtkdngpiiecmpgaaGreat Go.Proofs.YtkdngpiiecmpgaaGreat.Ca
set_option linter.unusedVariables false
set_option linter.unusedSimpArgs false
set_option maxRecDepth 10000

/-- Bytes of the base, written. -/
theorem W_RawB (h : Base) (s : WSt) (v : Value) (b : List UInt8) (hv : BV h v b) (hl : (wb s).length + b.length ≤ big) :
    Tr Tryz.prog 137 [wv s, v] h [wA s] (Wrote h s b) := by
  unfold big at hl
  obtain ⟨ao, ca, rfl⟩ := hv.len
  match s with
  | none =>
    refine K.enter Tryz.func137 rfl (Nat.le_of_ble_eq_true rfl) (fun F => ?_)
    simp only [wv]
    (repeat' (first | refine X.rq ?_ | (refine X.rc ?_ ?_ <;> intro hc <;> first | (exfalso; omega) | skip)))
    refine K.done (by first | exact Or.inl rfl | exact Or.inr rfl) rfl (by first | exact K.Base.le.refl _ | assumption) (H' := [wA none]) rfl ⟨rfl, rfl, none, trivial, rfl⟩
  | some (p, none) =>
    refine K.enter Tryz.func137 rfl (Nat.le_of_ble_eq_true rfl) (fun F => ?_)
    refine K.WC.open ?_
    simp only [wH, wv, List.cons_append, List.nil_append]
    (repeat' (first | refine X.rq ?_ | (refine X.rc ?_ ?_ <;> intro hc <;> first | (exfalso; omega) | skip)))
    refine K.AT.close (wH (some (p, none))) ?_
    refine K.done (by first | exact Or.inl rfl | exact Or.inr rfl) rfl (by first | exact K.Base.le.refl _ | assumption) (H' := [wA (some (p, none))]) rfl ⟨rfl, rfl, some (p, none), rfl, rfl⟩
  | some (p, some (a0, cap0, l)) =>
    simp only [wb] at hl
    refine K.enter Tryz.func137 rfl (Nat.le_of_ble_eq_true rfl) (fun F => ?_)
    refine K.WC.open ?_
    simp only [wH, wv, List.cons_append, List.nil_append]
    (repeat' (first | refine X.rq ?_ | (refine X.rc ?_ ?_ <;> intro hc <;> first | (exfalso; omega) | skip)))
    refine K.l_append_at 1 rfl (Fx.und rfl) (Fx.und rfl) rfl (Fx.sz rfl) (Fx.zr rfl) rfl (Fx.byt rfl) rfl rfl (hv.src) (by omega) (by omega) rfl (fun a' cap' => ?_)
    simp only [List.set_cons_zero, List.set_cons_succ, List.eraseIdx_cons_zero, List.eraseIdx_cons_succ, List.cons_append, List.nil_append]
    (repeat' (first | refine X.rq ?_ | (refine X.rc ?_ ?_ <;> intro hc <;> first | (exfalso; omega) | skip)))
    refine X.sto ?_
    (repeat' (first | refine X.rq ?_ | (refine X.rc ?_ ?_ <;> intro hc <;> first | (exfalso; omega) | skip)))
    rw [← List.map_append, ← List.length_append]
    refine K.AT.close (wH (some (p, some (a', cap', l ++ b)))) ?_
    refine K.done (by first | exact Or.inl rfl | exact Or.inr rfl) rfl (by first | exact K.Base.le.refl _ | assumption) (H' := [wA (some (p, some (a', cap', l ++ b)))]) rfl ⟨rfl, rfl, some (p, some (a', cap', l ++ b)), ⟨rfl, rfl⟩, rfl⟩
def byC (x : PCell) : List UInt8 := lebs x.data.length 2 ++ if x.used = true then lebs x.killer 4 ++ x.data else []
def cellsB (l : List PCell) : List UInt8 := l.flatMap byC
def bodyB (p : Pag) : List UInt8 := lebs p.kind.toNat 1 ++ lebs p.cells.length 1 ++ lebs p.lsn 8 ++ lebs p.next 4 ++ cellsB p.cells
def padB (p : Pag) : List UInt8 := bodyB p ++ List.replicate (508 - (bodyB p).length) 0
def encB (p : Pag) : List UInt8 := lebs (sumQ 0 (padB p)) 4 ++ padB p
/-- A page's bytes, none; an error's number. -/
def encQ (p : Pag) : List UInt8 × Int := if mayQ p = true then (encB p, 0) else ([], 5)
theorem byC_len (x : PCell) (ho : okCell x) : (byC x).length = sizeC x := by
  unfold byC sizeC
  rw [List.length_append, lebs_length]
  cases hu : x.used with
  | true => simp [lebs_length]; omega
  | false => simp
theorem cellsB_len : ∀ {l : List PCell}, (∀ x ∈ l, okCell x) → (cellsB l).length = sizeS l
  | [], _ => rfl
  | x :: r, h => by
    unfold cellsB
    rw [List.flatMap_cons, List.length_append, byC_len x (h x (List.mem_cons_self ..)), sizeS]
    have := cellsB_len (l := r) fun y hy => h y (List.mem_cons_of_mem _ hy)
    unfold cellsB at this
    rw [this]
theorem may_ok {p : Pag} (hm : mayQ p = true) : ∀ x ∈ p.cells, okCell x := fun x hx => by
  obtain ⟨i, hi, e⟩ := List.getElem_of_mem hx
  exact (((mayQ_iff p).1 hm).2.2.1 i x (by rw [List.getElem?_eq_getElem hi, e])).1
theorem bodyB_len {p : Pag} (hm : mayQ p = true) : (bodyB p).length + 4 = sizeQ p.cells := by
  unfold bodyB sizeQ
  simp only [List.length_append, lebs_length, cellsB_len (may_ok hm)]
  omega
theorem bodyB_le {p : Pag} (hm : mayQ p = true) : (bodyB p).length ≤ 508 := by
  have h1 := bodyB_len hm
  have h2 := ((mayQ_iff p).1 hm).2.2.2
  omega
theorem padB_len {p : Pag} (hm : mayQ p = true) : (padB p).length = 508 := by
  have := bodyB_le hm
  unfold padB
  rw [List.length_append, List.length_replicate]; omega
theorem encB_len {p : Pag} (hm : mayQ p = true) : (encB p).length = 512 := by
  unfold encB
  rw [List.length_append, lebs_length, padB_len hm]
theorem cellsB_at {l : List PCell} {j : Nat} {x : PCell} (h : l[j]? = some x) : cellsB (l.take (j + 1)) = cellsB (l.take j) ++ byC x := by
  unfold cellsB
  rw [List.take_add_one, h, List.flatMap_append]; simp
theorem zeros_made (m : Nat) : (madeCells #[Value.int .u8 0] (m * 1)).toList.take (m * 1) = (List.replicate m (0 : UInt8)).map u8 := by
  rw [List.map_replicate]
  refine List.ext_getElem? fun i => ?_
  by_cases hi : i < m
  · rw [List.getElem?_take, if_pos (by omega)]
    simp only [madeCells, List.size_toArray, Array.toList_map, Array.toList_range, List.getElem?_map]
    rw [List.getElem?_range (by omega), List.getElem?_replicate, if_pos hi]
    simp [Nat.mod_one]
    rfl
  · have hml : (madeCells #[Value.int .u8 0] (m * 1)).toList.length = m * 1 := (Array.length_toList ..).trans (size_madeCells _ _)
    rw [List.getElem?_eq_none (by rw [List.length_take, hml]; omega), List.getElem?_eq_none (by simp; omega)]
theorem wadd_some {bs : List UInt8} {p : Nat} {a : Option Nat} {cap : Nat} {l : List UInt8} : ∀ {s : WSt}, wadd bs (some (p, some (a, cap, l))) s → ∃ a' cap', s = some (p, some (a', cap', l ++ bs))
  | some (_, some (a', cap', _)), h => ⟨a', cap', by rw [h.1, h.2]⟩
  | none, h => h.elim
  | some (_, none), h => h.elim
end Go.Proofs.YtkdngpiiecmpgaaGreat.Pg
