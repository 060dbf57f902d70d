/-
  Pages: the room that is left. Conditions: each theorem's own.
-/
import Derived.Test.YtkdngpiiecmpgaaGreatFg

namespace Go.Proofs.YtkdngpiiecmpgaaGreat.Pg
open Go Go.K Go.Proofs Go.Proofs.YtkdngpiiecmpgaaGreat
set_option linter.unusedVariables false
set_option linter.unusedSimpArgs false
set_option maxRecDepth 10000

theorem SL.lens {h : Base} {sz : Nat} {v : Value} {es : List (List Value)} (hv : SL h sz v es) : ∀ c ∈ es, c.length = sz := fun c hc => by
  rcases hv with ⟨_, _, _, rfl⟩ | ⟨b, o, ca, _, _, hcs⟩
  · cases hc
  · obtain ⟨j, hj, e⟩ := List.getElem_of_mem hc
    rw [← e]; exact (hcs j hj).1
def freeQ (l : List PCell) : Bool := l.any (fun x => !x.used)
def freeAt (l : List PCell) (j : Nat) : Bool := match l[j]? with
  | some x => !x.used
  | none => false
theorem any_free (l : List PCell) : (List.range l.length).any (freeAt l) = freeQ l := by
  rw [Bool.eq_iff_iff, List.any_eq_true, freeQ, List.any_eq_true]
  constructor
  · rintro ⟨i, hi, h⟩
    have hlt := List.mem_range.1 hi
    rw [freeAt, List.getElem?_eq_getElem hlt] at h
    exact ⟨_, List.getElem_mem hlt, h⟩
  · rintro ⟨x, hx, h⟩
    obtain ⟨i, hi, e⟩ := List.getElem_of_mem hx
    exact ⟨i, List.mem_range.2 hi, by rw [freeAt, List.getElem?_eq_getElem hi, e]; exact h⟩
/-- The room that is left. -/
def roomN (l : List PCell) : Int := if freeQ l = true then 508 - sizeQ l else if l.length = 60 then 0 else 506 - sizeQ l
def roomQ (p : Pag) : Int := if mayQ p = true ∧ p.kind ≠ 3 then max 0 (min (roomN p.cells) 180) else 0
end Go.Proofs.YtkdngpiiecmpgaaGreat.Pg
