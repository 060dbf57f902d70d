/-
  Trees of pages: the way down; the document's. Conditions: each theorem's own.
-/
import Derived.Test.YtahdbncfegedjaaGreatXd

namespace Go.Proofs.YtahdbncfegedjaaGreat.Nd
open Go Go.K Go.Proofs Go.Proofs.YtahdbncfegedjaaGreat Go.Proofs.YtahdbncfegedjaaGreat.Pg
set_option linter.unusedVariables false
set_option linter.unusedSimpArgs false
set_option maxRecDepth 10000

/-- Numbers, or why there are none. -/
def WayR (h : Base) (r : Except Int (List Nat)) (v : Value) : Prop := ∃ sv l e, v = .tuple #[sv, .int .i64 e] ∧ U32s h sv l ∧ ((e = 0 ∧ r = .ok l) ∨ (r = .error e ∧ l = []))
structure WaS where
  pre : List Nat
  n : Nat
  a : Option Nat
  cap : Nat
theorem step_cells {s : List UInt8} {p : Pag} {j : Nat} {c : PCell} (hc : p.cells[j]? = some c) : ((kidsQ p).take (j + 2)).foldl (stepF s) p.next = if lt8 s (keyOf c) then ((kidsQ p).take (j + 1)).foldl (stepF s) p.next else childOf c := by
  rw [(kids_pre hc).2, List.foldl_append, List.foldl_cons, List.foldl_nil, stepF]
theorem pre_lt {s : List UInt8} {p : Pag} (hw : wfP p) (hb : big4 p) (k : Nat) : ((kidsQ p).take k).foldl (stepF s) p.next < 4294967296 :=
  step_lt hw.next fun x hx => kids_lt hw hb x (List.mem_of_mem_take hx)
end Go.Proofs.YtahdbncfegedjaaGreat.Nd
