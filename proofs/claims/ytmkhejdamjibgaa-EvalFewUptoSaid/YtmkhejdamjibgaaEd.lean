/-
  The document's operations on values. Conditions: each theorem's own.
-/
import Derived.Test.YtmkhejdamjibgaaEc

namespace Go.Proofs.Ytmkhejdamjibgaa.Rw
open Go Go.K Go.Proofs Go.Proofs.Ytmkhejdamjibgaa
set_option linter.unusedVariables false
set_option linter.unusedSimpArgs false
set_option maxRecDepth 10000

theorem fit_n {k : Int} {a b : Val} (hk : k = 3) (h : fitQ k [a, b] = 0) : (0 ≤ a.n ∧ a.n ≤ 1) ∧ (0 ≤ b.n ∧ b.n ≤ 1) := by
  subst hk
  have h2 := (fitQ_ok h).1 a (List.mem_cons_self ..)
  have h3 := (fitQ_ok h).2 a (List.mem_cons_self ..)
  have h4 := (fitQ_ok h).1 b (List.mem_cons_of_mem _ (List.mem_cons_self ..))
  have h5 := (fitQ_ok h).2 b (List.mem_cons_of_mem _ (List.mem_cons_self ..))
  constructor
  · rcases three h2 h3 with rfl | rfl | rfl <;> decide
  · rcases three h4 h5 with rfl | rfl | rfl <;> decide
theorem part_b {v : Val} (h : 0 ≤ v.n ∧ v.n ≤ 1) : 0 ≤ partQ v ∧ partQ v ≤ 2 := by unfold partQ; split <;> omega
theorem fit_twice (k : Int) (a : Val) : fitQ k [a, a] = fitQ k [a] := by
  unfold fitQ
  simp only [List.all_cons, List.all_nil, Bool.and_true, Bool.and_self]
/-- A kind's place. -/
def placeQ (k : Int) : Int := if k = 0 then 0 else if k = 3 then 1 else if k = 1 then 2 else 3
end Go.Proofs.Ytmkhejdamjibgaa.Rw
