/-
  No cell of these rows narrows 'for every input' (looked for: loops, veiled, ifaces, maps, wideKeys, modest, calm, conditions, laid).
  DERIVED. THE GIVEN ROWS OF THIS SEAT. 3 by the template 'for every input the law returns true; each argument reads behind the call as it read before'; 0 by the template 'total and deterministic' (their statements: YtahdbncfegedjaaTotals.lean).
  GIVEN WITH THE SEED: the statements are not yours to turn. If you find one false, say at which input.
  Laid BY PROGRAM, IN A SANDBOX (cutbox-rows.mjs): the forced cells as the released guide's own fill.sh prints them over the translation 34c3e4bf1c6010d9… (all of the seat's roots in one cut). By AI agents, Wed Nov 11 2026. No macro, syntax, notation, axiom, sorry.
-/
import Derived.Test.YtahdbncfegedjaaChecked
import GoSem.Claim
import GoSem.ClaimJoined
import GoSem.ClaimMapViews
import Derived.JoinedTies
import Derived.KernelRfl
namespace Go.Proofs.Ytahdbncfegedjaa
/- THE CELL 'sum', in the pinned program and in every row, IS THE sha256 OF THE DUMP (.gsa) THAT YtahdbncfegedjaaProg.lean LOADS. Nothing in Lean hashes anything: it is a label: what it is worth is what the hold of that sum in a sandbox is worth. -/
noncomputable def Try.pinned : Pinned := { name := "ytahdbncfegedjaa", sum := "34c3e4bf1c6010d9bc409c0cfe44a05e85900153c689e85ac90c0cd67f668498", checked := Try.checked }
namespace Rows
def none {H : Type} : Left H := { results := [], args := [] }

/-- 'cadastrelaw08.NodePaths': WHATEVER THE INPUT: true; the input reads as it did. -/
def nodePathsSpec : ChangeSpec := { name := "nodePaths", fn := fun _ => fun
  | [d1, d2, d3] => { results := [.lit (.bool true)], args := [d1, d2, d3] }
  | _ => none }
def nodePathsRow : OpenClaim := { program := "ytahdbncfegedjaa", sum := "34c3e4bf1c6010d9bc409c0cfe44a05e85900153c689e85ac90c0cd67f668498", func := "cadastre/cadastrelaw08.NodePaths", spec := "nodePaths", inPlace := ["internal/bytealg.Compare", "slices.overlaps[cadastre/api.Cell]"], unfollowed := true, recurses := true, apart := false }
def NodePathsSaid : Prop := nodePathsRow.holds Try.pinned (OpenSpec.ofChange nodePathsSpec)

/-- ITS FALSE NEIGHBOUR: 'it returns false'. Refute it at one input. -/
def nodePathsWrong : ChangeSpec := { name := "nodePaths", fn := fun _ => fun
  | [d1, d2, d3] => { results := [.lit (.bool false)], args := [d1, d2, d3] }
  | _ => none }
def NodePathsWrongFalsely : Prop := nodePathsRow.holds Try.pinned (OpenSpec.ofChange nodePathsWrong)

/-- 'cadastrelaw08.NodeNeeds': WHATEVER THE INPUT: true; the input reads as it did. -/
def nodeNeedsSpec : ChangeSpec := { name := "nodeNeeds", fn := fun _ => fun
  | [d1, d2, d3] => { results := [.lit (.bool true)], args := [d1, d2, d3] }
  | _ => none }
def nodeNeedsRow : OpenClaim := { program := "ytahdbncfegedjaa", sum := "34c3e4bf1c6010d9bc409c0cfe44a05e85900153c689e85ac90c0cd67f668498", func := "cadastre/cadastrelaw08.NodeNeeds", spec := "nodeNeeds", inPlace := ["internal/bytealg.Compare", "slices.overlaps[cadastre/api.Cell]"], unfollowed := true, recurses := true, apart := false }
def NodeNeedsSaid : Prop := nodeNeedsRow.holds Try.pinned (OpenSpec.ofChange nodeNeedsSpec)

/-- ITS FALSE NEIGHBOUR: 'it returns false'. Refute it at one input. -/
def nodeNeedsWrong : ChangeSpec := { name := "nodeNeeds", fn := fun _ => fun
  | [d1, d2, d3] => { results := [.lit (.bool false)], args := [d1, d2, d3] }
  | _ => none }
def NodeNeedsWrongFalsely : Prop := nodeNeedsRow.holds Try.pinned (OpenSpec.ofChange nodeNeedsWrong)

/-- 'cadastrelaw08.NodeSeeks': WHATEVER THE INPUT: true; the input reads as it did. -/
def nodeSeeksSpec : ChangeSpec := { name := "nodeSeeks", fn := fun _ => fun
  | [d1, d2, d3] => { results := [.lit (.bool true)], args := [d1, d2, d3] }
  | _ => none }
def nodeSeeksRow : OpenClaim := { program := "ytahdbncfegedjaa", sum := "34c3e4bf1c6010d9bc409c0cfe44a05e85900153c689e85ac90c0cd67f668498", func := "cadastre/cadastrelaw08.NodeSeeks", spec := "nodeSeeks", inPlace := ["internal/bytealg.Compare", "slices.overlaps[cadastre/api.Cell]"], unfollowed := true, recurses := true, apart := false }
def NodeSeeksSaid : Prop := nodeSeeksRow.holds Try.pinned (OpenSpec.ofChange nodeSeeksSpec)

/-- ITS FALSE NEIGHBOUR: 'it returns false'. Refute it at one input. -/
def nodeSeeksWrong : ChangeSpec := { name := "nodeSeeks", fn := fun _ => fun
  | [d1, d2, d3] => { results := [.lit (.bool false)], args := [d1, d2, d3] }
  | _ => none }
def NodeSeeksWrongFalsely : Prop := nodeSeeksRow.holds Try.pinned (OpenSpec.ofChange nodeSeeksWrong)

/- THE SECOND FORM. 'bulk': how many values and letters a reading holds, each counted each time it is reached (what is shared counts as often as it is met; a slice's spare places count too). A statement '..UptoSaid' is the law's where the arguments, and the package variables that the reading takes, are together of bulk at most 1048576: NARROWER than '..Said'. Prove '..Said' where nothing that the law and all that it calls make is longer than what came in: it says more and counts as full. Else prove '..UptoSaid'. A law counts once. -/
mutual
def uptoBulk {H : Type} : DataW H → Nat
  | .lit (.string bytes) => bytes.length + 1
  | .lit _ => 1
  | .nil => 1
  | .ptr d => uptoBulk d + 1
  | .slice elems spare => uptoBulkAll elems + uptoBulkAll spare + 1
  | .agg parts => uptoBulkAll parts + 1
  | .iface _ d => uptoBulk d + 1
  | .map entries => uptoBulkEntries entries + 1
  | .held _ => 1
def uptoBulkAll {H : Type} : List (DataW H) → Nat
  | [] => 0
  | d :: r => uptoBulk d + uptoBulkAll r
def uptoBulkEntries {H : Type} : List (Lit × DataW H) → Nat
  | [] => 0
  | x :: r => uptoBulkEntry x + uptoBulkEntries r
def uptoBulkEntry {H : Type} : Lit × DataW H → Nat
  | (.string bytes, d) => bytes.length + uptoBulk d + 1
  | (_, d) => uptoBulk d + 1
 end
def uptoSmall : (H : Type) → List (DataW H) → Bool := fun _ ds => decide (uptoBulkAll ds ≤ 1048576)
def OpenSpec.upto (s : _root_.Go.ChangeSpec) : _root_.Go.OpenSpec := { _root_.Go.OpenSpec.ofChange s with cond := some uptoSmall }

/-- 'cadastrelaw08.NodePaths', WHERE WHAT IT READS IS OF BULK AT MOST 1048576: true; the input reads as it did. -/
def nodePathsUptoRow : OpenClaim := { program := "ytahdbncfegedjaa", sum := "34c3e4bf1c6010d9bc409c0cfe44a05e85900153c689e85ac90c0cd67f668498", func := "cadastre/cadastrelaw08.NodePaths", spec := "nodePaths", inPlace := ["internal/bytealg.Compare", "slices.overlaps[cadastre/api.Cell]"], unfollowed := true, recurses := true, apart := false, narrowed := true }
def NodePathsUptoSaid : Prop := nodePathsUptoRow.holds Try.pinned (OpenSpec.upto nodePathsSpec)

/-- 'cadastrelaw08.NodeNeeds', WHERE WHAT IT READS IS OF BULK AT MOST 1048576: true; the input reads as it did. -/
def nodeNeedsUptoRow : OpenClaim := { program := "ytahdbncfegedjaa", sum := "34c3e4bf1c6010d9bc409c0cfe44a05e85900153c689e85ac90c0cd67f668498", func := "cadastre/cadastrelaw08.NodeNeeds", spec := "nodeNeeds", inPlace := ["internal/bytealg.Compare", "slices.overlaps[cadastre/api.Cell]"], unfollowed := true, recurses := true, apart := false, narrowed := true }
def NodeNeedsUptoSaid : Prop := nodeNeedsUptoRow.holds Try.pinned (OpenSpec.upto nodeNeedsSpec)

/-- 'cadastrelaw08.NodeSeeks', WHERE WHAT IT READS IS OF BULK AT MOST 1048576: true; the input reads as it did. -/
def nodeSeeksUptoRow : OpenClaim := { program := "ytahdbncfegedjaa", sum := "34c3e4bf1c6010d9bc409c0cfe44a05e85900153c689e85ac90c0cd67f668498", func := "cadastre/cadastrelaw08.NodeSeeks", spec := "nodeSeeks", inPlace := ["internal/bytealg.Compare", "slices.overlaps[cadastre/api.Cell]"], unfollowed := true, recurses := true, apart := false, narrowed := true }
def NodeSeeksUptoSaid : Prop := nodeSeeksUptoRow.holds Try.pinned (OpenSpec.upto nodeSeeksSpec)

end Rows
end Go.Proofs.Ytahdbncfegedjaa
