/-
  Trees of pages: half of a row, the document's; cells that come up. Conditions: each theorem's own.
-/
import Derived.Test.YtahdbncfegedjaaGreatXl

namespace Go.Proofs.YtahdbncfegedjaaGreat.Nd
open Go Go.K Go.Proofs Go.Proofs.YtahdbncfegedjaaGreat Go.Proofs.YtahdbncfegedjaaGreat.Pg
set_option linter.unusedVariables false
set_option linter.unusedSimpArgs false
set_option maxRecDepth 10000

theorem sumW_pos {l : List PCell} (h : 0 < l.length) : 0 < sumW l := by
  cases l with
  | nil => cases h
  | cons a l => simp only [sumW, List.map_cons, List.sum_cons, szW]; omega
end Go.Proofs.YtahdbncfegedjaaGreat.Nd
