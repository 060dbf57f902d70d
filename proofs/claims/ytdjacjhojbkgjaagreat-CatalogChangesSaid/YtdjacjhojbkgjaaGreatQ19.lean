/-
  Rows: are two rows the same, is what was lent kept. Conditions: each theorem's own.
-/
import Derived.Test.YtdjacjhojbkgjaaGreatQ9
namespace Go.Proofs.YtdjacjhojbkgjaaGreat.Rw
open Go Go.K Go.Proofs Go.Proofs.YtdjacjhojbkgjaaGreat
set_option linter.unusedVariables false
set_option linter.unusedSimpArgs false
set_option maxRecDepth 10000

theorem eqV (a b : Val) : (decide (a.kind = b.kind) && (decide (a.n = b.n) && (decide (a.s = b.s) && true))) = decide (a = b) := by
  rw [Bool.eq_iff_iff]
  simp only [Bool.and_eq_true, decide_eq_true_eq, and_true]
  cases a; cases b
  simp
theorem eqC (a b : Col) : (decide (a.name = b.name) && (decide (a.kind = b.kind) && (decide (a.need = b.need) && true))) = decide (a.name = b.name ∧ a.kind = b.kind ∧ a.need = b.need) := by
  rw [Bool.eq_iff_iff]
  simp only [Bool.and_eq_true, decide_eq_true_eq, and_true]

end Go.Proofs.YtdjacjhojbkgjaaGreat.Rw
