/-
  Trees of pages: a cell among others, the document's; half of a row; cells that come up. Conditions: each theorem's own.
-/
import Derived.Test.YtahdbncfegedjaaGreatXj

namespace Go.Proofs.YtahdbncfegedjaaGreat.Nd
open Go Go.K Go.Proofs Go.Proofs.YtahdbncfegedjaaGreat Go.Proofs.YtahdbncfegedjaaGreat.Pg
set_option linter.unusedVariables false
set_option linter.unusedSimpArgs false
set_option maxRecDepth 10000

def Ord (kind : Int) (l : List PCell) (c : PCell) : Prop := ∀ (i : Nat) y, l[i]? = some y → (lt8 (keyQ kind y) (keyQ kind c) = true ↔ i < atQ kind l c)
theorem ord_of {kind : Int} {l : List PCell} (c : PCell) (h : l.Pairwise fun a b => lt8 (keyQ kind a) (keyQ kind b) = true) : Ord kind l c := by
  intro i y hy
  unfold atQ
  constructor
  · intro hl
    rcases Nat.lt_or_ge i (l.takeWhile fun y => lt8 (keyQ kind y) (keyQ kind c)).length with h1 | h1
    · exact h1
    · exfalso
      have hsp := List.takeWhile_append_dropWhile (p := fun y => lt8 (keyQ kind y) (keyQ kind c)) (l := l)
      obtain ⟨A, hA⟩ : ∃ A, A = l.takeWhile fun y => lt8 (keyQ kind y) (keyQ kind c) := ⟨_, rfl⟩
      obtain ⟨D, hD⟩ : ∃ D, D = l.dropWhile fun y => lt8 (keyQ kind y) (keyQ kind c) := ⟨_, rfl⟩
      rw [← hA, ← hD] at hsp
      rw [← hA] at h1
      rw [← hsp, List.getElem?_append_right h1] at hy
      cases hd : D with
      | nil => rw [hd] at hy; simp at hy
      | cons z D' =>
        have hz : lt8 (keyQ kind z) (keyQ kind c) = false := by
          have := List.head?_dropWhile_not (fun y => lt8 (keyQ kind y) (keyQ kind c)) l
          rw [← hD, hd] at this
          simpa using this
        have hpw : (z :: D').Pairwise fun a b => lt8 (keyQ kind a) (keyQ kind b) = true := by
          rw [← hsp, hd] at h
          exact (List.pairwise_append.1 h).2.1
        rw [hd] at hy
        rcases List.mem_cons.1 (List.mem_of_getElem? hy) with rfl | hm
        · rw [hz] at hl; cases hl
        · have := lt8_trans ((List.pairwise_cons.1 hpw).1 y hm) hl
          rw [hz] at this; cases this
  · intro hl
    have h2 : (l.takeWhile fun y => lt8 (keyQ kind y) (keyQ kind c))[i]? = some y := by
      have h3 := List.getElem?_eq_getElem hl
      have hsp := List.takeWhile_append_dropWhile (p := fun y => lt8 (keyQ kind y) (keyQ kind c)) (l := l)
      rw [← hsp, List.getElem?_append_left hl] at hy
      exact hy
    have := List.mem_of_getElem? h2
    have h3 := List.all_takeWhile (p := fun y => lt8 (keyQ kind y) (keyQ kind c)) (l := l)
    exact List.all_eq_true.1 h3 y this
end Go.Proofs.YtahdbncfegedjaaGreat.Nd
