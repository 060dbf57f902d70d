/-
  A record's size, its bytes: the code. Conditions: each theorem's own.
-/
import Derived.Test.YtkdngpiiecmpgaaGreatHh

namespace Go.Proofs.YtkdngpiiecmpgaaGreat.Rc
open Go Go.K Go.Proofs Go.Proofs.YtkdngpiiecmpgaaGreat Go.Proofs.YtkdngpiiecmpgaaGreat.Pg Go.Proofs.YtkdngpiiecmpgaaGreat.Ca
set_option linter.unusedVariables false
set_option linter.unusedSimpArgs false
set_option maxRecDepth 10000

theorem may_okR {r : Recd} (h : mayR r = true) : okR r ∧ (bodyN r).length + 2 ≤ 16384 := by
  unfold mayR at h
  rw [Bool.and_eq_true, decide_eq_true_eq, decide_eq_true_eq] at h
  exact h
end Go.Proofs.YtkdngpiiecmpgaaGreat.Rc
