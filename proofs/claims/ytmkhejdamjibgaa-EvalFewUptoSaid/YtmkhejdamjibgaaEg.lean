/-
  Expressions: what they are of a row (the document's); lists of conditions. Conditions: each theorem's own.
-/
import Derived.Test.YtmkhejdamjibgaaEf

namespace Go.Proofs.Ytmkhejdamjibgaa.Rw
open Go Go.K Go.Proofs Go.Proofs.Ytmkhejdamjibgaa
set_option linter.unusedVariables false
set_option linter.unusedSimpArgs false
set_option maxRecDepth 10000

end Go.Proofs.Ytmkhejdamjibgaa.Rw
