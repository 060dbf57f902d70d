/-
  No cell of these rows narrows 'for every input' (looked for: loops, veiled, ifaces, maps, wideKeys, modest, calm, conditions, laid).
  DERIVED. THE GIVEN ROWS OF THIS SEAT. 4 by the template 'for every input the law returns true; each argument reads behind the call as it read before'; 0 by the template 'total and deterministic' (their statements: YtahdbncfegedjaaGreatTotals.lean).
  GIVEN WITH THE SEED: the statements are not yours to turn. If you find one false, say at which input.
  Laid BY PROGRAM, IN A SANDBOX (cutbox-rows.mjs): the forced cells as the released guide's own fill.sh prints them over the translation 2770a537adc21a26… (all of the seat's roots in one cut). By AI agents, Wed Nov 11 2026. No macro, syntax, notation, axiom, sorry.
-/
import Derived.Test.YtahdbncfegedjaaGreatChecked
import GoSem.Claim
import GoSem.ClaimJoined
import GoSem.ClaimMapViews
import Derived.JoinedTies
import Derived.KernelRfl
namespace Go.Proofs.YtahdbncfegedjaaGreat
/- THE CELL 'sum', in the pinned program and in every row, IS THE sha256 OF THE DUMP (.gsa) THAT YtahdbncfegedjaaGreatProg.lean LOADS. Nothing in Lean hashes anything: it is a label: what it is worth is what the hold of that sum in a sandbox is worth. -/
noncomputable def Tryz.pinned : Pinned := { name := "ytahdbncfegedjaagreat", sum := "2770a537adc21a26212dcaa75a5e6c71d5a1591c646b2d2dcb4aee6016b6d821", checked := Tryz.checked }
namespace Rows
def none {H : Type} : Left H := { results := [], args := [] }

/-- 'cadastrelaw08.NodeWalks': WHATEVER THE INPUT: true; the input reads as it did. -/
def nodeWalksSpec : ChangeSpec := { name := "nodeWalks", fn := fun _ => fun
  | [d1, d2] => { results := [.lit (.bool true)], args := [d1, d2] }
  | _ => none }
def nodeWalksRow : OpenClaim := { program := "ytahdbncfegedjaagreat", sum := "2770a537adc21a26212dcaa75a5e6c71d5a1591c646b2d2dcb4aee6016b6d821", func := "cadastre/cadastrelaw08.NodeWalks", spec := "nodeWalks", inPlace := ["internal/bytealg.Compare", "slices.overlaps[cadastre/api.Cell]"], unfollowed := true, recurses := true, apart := false }
def NodeWalksSaid : Prop := nodeWalksRow.holds Tryz.pinned (OpenSpec.ofChange nodeWalksSpec)

/-- ITS FALSE NEIGHBOUR: 'it returns false'. Refute it at one input. -/
def nodeWalksWrong : ChangeSpec := { name := "nodeWalks", fn := fun _ => fun
  | [d1, d2] => { results := [.lit (.bool false)], args := [d1, d2] }
  | _ => none }
def NodeWalksWrongFalsely : Prop := nodeWalksRow.holds Tryz.pinned (OpenSpec.ofChange nodeWalksWrong)

/-- 'cadastrelaw08.NodeKeeps': WHATEVER THE INPUT: true; the input reads as it did. -/
def nodeKeepsSpec : ChangeSpec := { name := "nodeKeeps", fn := fun _ => fun
  | [d1, d2, d3, d4] => { results := [.lit (.bool true)], args := [d1, d2, d3, d4] }
  | _ => none }
def nodeKeepsRow : OpenClaim := { program := "ytahdbncfegedjaagreat", sum := "2770a537adc21a26212dcaa75a5e6c71d5a1591c646b2d2dcb4aee6016b6d821", func := "cadastre/cadastrelaw08.NodeKeeps", spec := "nodeKeeps", inPlace := ["internal/bytealg.Compare", "slices.overlaps[cadastre/api.Cell]"], unfollowed := true, recurses := true, apart := false }
def NodeKeepsSaid : Prop := nodeKeepsRow.holds Tryz.pinned (OpenSpec.ofChange nodeKeepsSpec)

/-- ITS FALSE NEIGHBOUR: 'it returns false'. Refute it at one input. -/
def nodeKeepsWrong : ChangeSpec := { name := "nodeKeeps", fn := fun _ => fun
  | [d1, d2, d3, d4] => { results := [.lit (.bool false)], args := [d1, d2, d3, d4] }
  | _ => none }
def NodeKeepsWrongFalsely : Prop := nodeKeepsRow.holds Tryz.pinned (OpenSpec.ofChange nodeKeepsWrong)

/-- 'cadastrelaw08.NodeNobody': WHATEVER THE INPUT: true; the input reads as it did. -/
def nodeNobodySpec : ChangeSpec := { name := "nodeNobody", fn := fun _ => fun
  | [d1, d2] => { results := [.lit (.bool true)], args := [d1, d2] }
  | _ => none }
def nodeNobodyRow : OpenClaim := { program := "ytahdbncfegedjaagreat", sum := "2770a537adc21a26212dcaa75a5e6c71d5a1591c646b2d2dcb4aee6016b6d821", func := "cadastre/cadastrelaw08.NodeNobody", spec := "nodeNobody", inPlace := ["internal/bytealg.Compare", "slices.overlaps[cadastre/api.Cell]"], unfollowed := true, recurses := true, apart := false }
def NodeNobodySaid : Prop := nodeNobodyRow.holds Tryz.pinned (OpenSpec.ofChange nodeNobodySpec)

/-- ITS FALSE NEIGHBOUR: 'it returns false'. Refute it at one input. -/
def nodeNobodyWrong : ChangeSpec := { name := "nodeNobody", fn := fun _ => fun
  | [d1, d2] => { results := [.lit (.bool false)], args := [d1, d2] }
  | _ => none }
def NodeNobodyWrongFalsely : Prop := nodeNobodyRow.holds Tryz.pinned (OpenSpec.ofChange nodeNobodyWrong)

/-- 'cadastrelaw08.NodeGrows': WHATEVER THE INPUT: true; the input reads as it did. -/
def nodeGrowsSpec : ChangeSpec := { name := "nodeGrows", fn := fun _ => fun
  | [d1, d2, d3] => { results := [.lit (.bool true)], args := [d1, d2, d3] }
  | _ => none }
def nodeGrowsRow : OpenClaim := { program := "ytahdbncfegedjaagreat", sum := "2770a537adc21a26212dcaa75a5e6c71d5a1591c646b2d2dcb4aee6016b6d821", func := "cadastre/cadastrelaw08.NodeGrows", spec := "nodeGrows", inPlace := ["internal/bytealg.Compare", "slices.overlaps[cadastre/api.Cell]"], unfollowed := true, recurses := true, apart := false }
def NodeGrowsSaid : Prop := nodeGrowsRow.holds Tryz.pinned (OpenSpec.ofChange nodeGrowsSpec)

/-- ITS FALSE NEIGHBOUR: 'it returns false'. Refute it at one input. -/
def nodeGrowsWrong : ChangeSpec := { name := "nodeGrows", fn := fun _ => fun
  | [d1, d2, d3] => { results := [.lit (.bool false)], args := [d1, d2, d3] }
  | _ => none }
def NodeGrowsWrongFalsely : Prop := nodeGrowsRow.holds Tryz.pinned (OpenSpec.ofChange nodeGrowsWrong)

/- THE SECOND FORM. 'bulk': how many values and letters a reading holds, each counted each time it is reached (what is shared counts as often as it is met; a slice's spare places count too). A statement '..UptoSaid' is the law's where the arguments, and the package variables that the reading takes, are together of bulk at most 1048576: NARROWER than '..Said'. Prove '..Said' where nothing that the law and all that it calls make is longer than what came in: it says more and counts as full. Else prove '..UptoSaid'. A law counts once. -/
mutual
def uptoBulk {H : Type} : DataW H → Nat
  | .lit (.string bytes) => bytes.length + 1
  | .lit _ => 1
  | .nil => 1
  | .ptr d => uptoBulk d + 1
  | .slice elems spare => uptoBulkAll elems + uptoBulkAll spare + 1
  | .agg parts => uptoBulkAll parts + 1
  | .iface _ d => uptoBulk d + 1
  | .map entries => uptoBulkEntries entries + 1
  | .held _ => 1
def uptoBulkAll {H : Type} : List (DataW H) → Nat
  | [] => 0
  | d :: r => uptoBulk d + uptoBulkAll r
def uptoBulkEntries {H : Type} : List (Lit × DataW H) → Nat
  | [] => 0
  | x :: r => uptoBulkEntry x + uptoBulkEntries r
def uptoBulkEntry {H : Type} : Lit × DataW H → Nat
  | (.string bytes, d) => bytes.length + uptoBulk d + 1
  | (_, d) => uptoBulk d + 1
 end
def uptoSmall : (H : Type) → List (DataW H) → Bool := fun _ ds => decide (uptoBulkAll ds ≤ 1048576)
def OpenSpec.upto (s : _root_.Go.ChangeSpec) : _root_.Go.OpenSpec := { _root_.Go.OpenSpec.ofChange s with cond := some uptoSmall }

/-- 'cadastrelaw08.NodeWalks', WHERE WHAT IT READS IS OF BULK AT MOST 1048576: true; the input reads as it did. -/
def nodeWalksUptoRow : OpenClaim := { program := "ytahdbncfegedjaagreat", sum := "2770a537adc21a26212dcaa75a5e6c71d5a1591c646b2d2dcb4aee6016b6d821", func := "cadastre/cadastrelaw08.NodeWalks", spec := "nodeWalks", inPlace := ["internal/bytealg.Compare", "slices.overlaps[cadastre/api.Cell]"], unfollowed := true, recurses := true, apart := false, narrowed := true }
def NodeWalksUptoSaid : Prop := nodeWalksUptoRow.holds Tryz.pinned (OpenSpec.upto nodeWalksSpec)

/-- 'cadastrelaw08.NodeKeeps', WHERE WHAT IT READS IS OF BULK AT MOST 1048576: true; the input reads as it did. -/
def nodeKeepsUptoRow : OpenClaim := { program := "ytahdbncfegedjaagreat", sum := "2770a537adc21a26212dcaa75a5e6c71d5a1591c646b2d2dcb4aee6016b6d821", func := "cadastre/cadastrelaw08.NodeKeeps", spec := "nodeKeeps", inPlace := ["internal/bytealg.Compare", "slices.overlaps[cadastre/api.Cell]"], unfollowed := true, recurses := true, apart := false, narrowed := true }
def NodeKeepsUptoSaid : Prop := nodeKeepsUptoRow.holds Tryz.pinned (OpenSpec.upto nodeKeepsSpec)

/-- 'cadastrelaw08.NodeNobody', WHERE WHAT IT READS IS OF BULK AT MOST 1048576: true; the input reads as it did. -/
def nodeNobodyUptoRow : OpenClaim := { program := "ytahdbncfegedjaagreat", sum := "2770a537adc21a26212dcaa75a5e6c71d5a1591c646b2d2dcb4aee6016b6d821", func := "cadastre/cadastrelaw08.NodeNobody", spec := "nodeNobody", inPlace := ["internal/bytealg.Compare", "slices.overlaps[cadastre/api.Cell]"], unfollowed := true, recurses := true, apart := false, narrowed := true }
def NodeNobodyUptoSaid : Prop := nodeNobodyUptoRow.holds Tryz.pinned (OpenSpec.upto nodeNobodySpec)

/-- 'cadastrelaw08.NodeGrows', WHERE WHAT IT READS IS OF BULK AT MOST 1048576: true; the input reads as it did. -/
def nodeGrowsUptoRow : OpenClaim := { program := "ytahdbncfegedjaagreat", sum := "2770a537adc21a26212dcaa75a5e6c71d5a1591c646b2d2dcb4aee6016b6d821", func := "cadastre/cadastrelaw08.NodeGrows", spec := "nodeGrows", inPlace := ["internal/bytealg.Compare", "slices.overlaps[cadastre/api.Cell]"], unfollowed := true, recurses := true, apart := false, narrowed := true }
def NodeGrowsUptoSaid : Prop := nodeGrowsUptoRow.holds Tryz.pinned (OpenSpec.upto nodeGrowsSpec)

end Rows
end Go.Proofs.YtahdbncfegedjaaGreat
