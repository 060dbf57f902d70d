/-
  Pages: where an operation's cell is. Conditions: each theorem's own.
-/
import Derived.Test.YtahdbncfegedjaaFi

namespace Go.Proofs.Ytahdbncfegedjaa.Pg
open Go Go.K Go.Proofs Go.Proofs.Ytahdbncfegedjaa
set_option linter.unusedVariables false
set_option linter.unusedSimpArgs false
set_option maxRecDepth 10000

def usedAt (l : List PCell) (i : Int) : Bool := if 0 ≤ i then (match l[i.toNat]? with | some x => x.used | none => false) else false
def dataAt (l : List PCell) (k : Nat) (d : List UInt8) : Bool := match l[k]? with | some x => decide (x.data = d) | none => false
/-- Where it is, or would be; whether it is there. -/
def FindP (p : Pag) (o : POp) (i : Int) (b : Bool) : Prop := (p.kind = 1 → i = o.slot ∧ b = usedAt p.cells o.slot) ∧
  (p.kind ≠ 1 → ∃ k : Nat, i = k ∧ k ≤ p.cells.length ∧ (∀ (j : Nat) x, j < k → p.cells[j]? = some x → Lib.compareBytes x.data o.data < 0) ∧ (∀ (j : Nat) x, k ≤ j → p.cells[j]? = some x → 0 ≤ Lib.compareBytes x.data o.data) ∧ b = dataAt p.cells k o.data)
def sortedD (l : List PCell) : Prop := ∀ (i j : Nat) x y, i < j → l[i]? = some x → l[j]? = some y → Lib.compareBytes x.data y.data < 0
theorem sorted_of {p : Pag} (hm : mayQ p = true) (hk : p.kind = 2) : sortedD p.cells := by
  obtain ⟨_, _, hc, _⟩ := (mayQ_iff p).1 hm
  have step : ∀ (d i : Nat) x y, p.cells[i]? = some x → p.cells[i + (d + 1)]? = some y → Lib.compareBytes x.data y.data < 0 := by
    intro d
    induction d with
    | zero =>
      intro i x y hx hy
      have := ((hc (i + 1) y hy).2.2 (by omega)).2.2 (by omega)
      rw [ltPrev, Nat.add_sub_cancel, hx] at this
      have := of_decide_eq_true this
      rwa [keyQ, keyQ, if_neg (by omega), if_neg (by omega)] at this
    | succ d ih =>
      intro i x y hx hy
      have hlt := (List.getElem?_eq_some_iff.1 hy).1
      have hz : p.cells[i + (d + 1)]? = some (p.cells[i + (d + 1)]'(by omega)) := List.getElem?_eq_getElem (by omega)
      have h1 := ih i x _ hx hz
      have h2 := ((hc (i + (d + 1) + 1) y hy).2.2 (by omega)).2.2 (by omega)
      rw [ltPrev, Nat.add_sub_cancel, hz] at h2
      have h2 := of_decide_eq_true h2
      rw [keyQ, keyQ, if_neg (by omega), if_neg (by omega)] at h2
      exact K.cmp_trans h1 h2
  intro i j x y hij hx hy
  exact step (j - i - 1) i x y hx (by rw [show i + (j - i - 1 + 1) = j by omega]; exact hy)
end Go.Proofs.Ytahdbncfegedjaa.Pg
