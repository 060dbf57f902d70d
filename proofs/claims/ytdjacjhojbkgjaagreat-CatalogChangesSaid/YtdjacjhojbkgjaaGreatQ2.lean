/-
  KZ: what is owned, handed to a function that only reads it, and given up; what a call froze is forgotten. Generic over the program. Conditions: none.
-/
import Derived.Test.YtdjacjhojbkgjaaGreatQ1
namespace Go.K
set_option linter.unusedVariables false
set_option linter.unusedSimpArgs false

section
variable {P : Program} {n : NN} {Q : Exit → Act → World → Prop} {E : Env} {h h1 : Base} {A R F : List Asrt} {ops : Array Oper}
theorem AT.dropsA {q : Exit} (hx : AT P n Q q E h F) : AT P n Q q E h (A ++ F) := ⟨fun a w fa ok => hx.run a w fa ok.drops⟩
theorem WL.dropsA {L : List Oper} (hx : WL P n ops Q L E h F) : WL P n ops Q L E h (A ++ F) := ⟨fun a w fa ok => hx.run a w fa ok.drops⟩
end
abbrev n64 (x : Nat) : Value := .int .u64 (x : Int)
def U64s (h : Base) (v : Value) (xs : List Nat) : Prop := SL h 1 v (xs.map fun x => [n64 x])
end Go.K
