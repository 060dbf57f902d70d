/-
  No cell of these rows narrows 'for every input' (looked for: loops, veiled, ifaces, maps, wideKeys, modest, calm, conditions, laid).
  DERIVED. THE GIVEN ROWS OF THIS SEAT. 5 by the template 'for every input the law returns true; each argument reads behind the call as it read before'; 0 by the template 'total and deterministic' (their statements: YtkdngpiiecmpgaaGreatTotals.lean).
  GIVEN WITH THE SEED: the statements are not yours to turn. If you find one false, say at which input.
  Laid BY PROGRAM, IN A SANDBOX (cutbox-rows.mjs): the forced cells as the released guide's own fill.sh prints them over the translation 5c381eff6d86cd3a… (all of the seat's roots in one cut). By AI agents, Wed Nov 11 2026. No macro, syntax, notation, axiom, sorry.
-/
import Derived.Test.YtkdngpiiecmpgaaGreatChecked
import GoSem.Claim
import GoSem.ClaimJoined
import GoSem.ClaimMapViews
import Derived.JoinedTies
import Derived.KernelRfl
namespace Go.Proofs.YtkdngpiiecmpgaaGreat
/- THE CELL 'sum', in the pinned program and in every row, IS THE sha256 OF THE DUMP (.gsa) THAT YtkdngpiiecmpgaaGreatProg.lean LOADS. Nothing in Lean hashes anything: it is a label: what it is worth is what the hold of that sum in a sandbox is worth. -/
noncomputable def Tryz.pinned : Pinned := { name := "ytkdngpiiecmpgaagreat", sum := "5c381eff6d86cd3aa40dad9ebf477288c822ea35e25aa9321be26c7a5841fdb4", checked := Tryz.checked }
namespace Rows
def none {H : Type} : Left H := { results := [], args := [] }

/-- 'cadastrelaw13.ChainAnalyses': WHATEVER THE INPUT: true; the input reads as it did. -/
def chainAnalysesSpec : ChangeSpec := { name := "chainAnalyses", fn := fun _ => fun
  | [d1, d2] => { results := [.lit (.bool true)], args := [d1, d2] }
  | _ => none }
def chainAnalysesRow : OpenClaim := { program := "ytkdngpiiecmpgaagreat", sum := "5c381eff6d86cd3aa40dad9ebf477288c822ea35e25aa9321be26c7a5841fdb4", func := "cadastre/cadastrelaw13.ChainAnalyses", spec := "chainAnalyses", inPlace := ["internal/bytealg.Compare", "slices.overlaps[cadastre/api.Cell]"], unfollowed := true, recurses := true, apart := false }
def ChainAnalysesSaid : Prop := chainAnalysesRow.holds Tryz.pinned (OpenSpec.ofChange chainAnalysesSpec)

/-- ITS FALSE NEIGHBOUR: 'it returns false'. Refute it at one input. -/
def chainAnalysesWrong : ChangeSpec := { name := "chainAnalyses", fn := fun _ => fun
  | [d1, d2] => { results := [.lit (.bool false)], args := [d1, d2] }
  | _ => none }
def ChainAnalysesWrongFalsely : Prop := chainAnalysesRow.holds Tryz.pinned (OpenSpec.ofChange chainAnalysesWrong)

/-- 'cadastrelaw13.ChainRedoes': WHATEVER THE INPUT: true; the input reads as it did. -/
def chainRedoesSpec : ChangeSpec := { name := "chainRedoes", fn := fun _ => fun
  | [d1, d2, d3] => { results := [.lit (.bool true)], args := [d1, d2, d3] }
  | _ => none }
def chainRedoesRow : OpenClaim := { program := "ytkdngpiiecmpgaagreat", sum := "5c381eff6d86cd3aa40dad9ebf477288c822ea35e25aa9321be26c7a5841fdb4", func := "cadastre/cadastrelaw13.ChainRedoes", spec := "chainRedoes", inPlace := ["internal/bytealg.Compare", "slices.overlaps[cadastre/api.Cell]"], unfollowed := true, recurses := true, apart := false }
def ChainRedoesSaid : Prop := chainRedoesRow.holds Tryz.pinned (OpenSpec.ofChange chainRedoesSpec)

/-- ITS FALSE NEIGHBOUR: 'it returns false'. Refute it at one input. -/
def chainRedoesWrong : ChangeSpec := { name := "chainRedoes", fn := fun _ => fun
  | [d1, d2, d3] => { results := [.lit (.bool false)], args := [d1, d2, d3] }
  | _ => none }
def ChainRedoesWrongFalsely : Prop := chainRedoesRow.holds Tryz.pinned (OpenSpec.ofChange chainRedoesWrong)

/-- 'cadastrelaw13.ChainNexts': WHATEVER THE INPUT: true; the input reads as it did. -/
def chainNextsSpec : ChangeSpec := { name := "chainNexts", fn := fun _ => fun
  | [d1, d2] => { results := [.lit (.bool true)], args := [d1, d2] }
  | _ => none }
def chainNextsRow : OpenClaim := { program := "ytkdngpiiecmpgaagreat", sum := "5c381eff6d86cd3aa40dad9ebf477288c822ea35e25aa9321be26c7a5841fdb4", func := "cadastre/cadastrelaw13.ChainNexts", spec := "chainNexts", inPlace := ["internal/bytealg.Compare", "slices.overlaps[cadastre/api.Cell]"], unfollowed := true, recurses := true, apart := false }
def ChainNextsSaid : Prop := chainNextsRow.holds Tryz.pinned (OpenSpec.ofChange chainNextsSpec)

/-- ITS FALSE NEIGHBOUR: 'it returns false'. Refute it at one input. -/
def chainNextsWrong : ChangeSpec := { name := "chainNexts", fn := fun _ => fun
  | [d1, d2] => { results := [.lit (.bool false)], args := [d1, d2] }
  | _ => none }
def ChainNextsWrongFalsely : Prop := chainNextsRow.holds Tryz.pinned (OpenSpec.ofChange chainNextsWrong)

/-- 'cadastrelaw13.ChainRepeats': WHATEVER THE INPUT: true; the input reads as it did. -/
def chainRepeatsSpec : ChangeSpec := { name := "chainRepeats", fn := fun _ => fun
  | [d1, d2, d3] => { results := [.lit (.bool true)], args := [d1, d2, d3] }
  | _ => none }
def chainRepeatsRow : OpenClaim := { program := "ytkdngpiiecmpgaagreat", sum := "5c381eff6d86cd3aa40dad9ebf477288c822ea35e25aa9321be26c7a5841fdb4", func := "cadastre/cadastrelaw13.ChainRepeats", spec := "chainRepeats", inPlace := ["internal/bytealg.Compare", "slices.overlaps[cadastre/api.Cell]"], unfollowed := true, recurses := true, apart := false }
def ChainRepeatsSaid : Prop := chainRepeatsRow.holds Tryz.pinned (OpenSpec.ofChange chainRepeatsSpec)

/-- ITS FALSE NEIGHBOUR: 'it returns false'. Refute it at one input. -/
def chainRepeatsWrong : ChangeSpec := { name := "chainRepeats", fn := fun _ => fun
  | [d1, d2, d3] => { results := [.lit (.bool false)], args := [d1, d2, d3] }
  | _ => none }
def ChainRepeatsWrongFalsely : Prop := chainRepeatsRow.holds Tryz.pinned (OpenSpec.ofChange chainRepeatsWrong)

/-- 'cadastrelaw13.ChainChecks': WHATEVER THE INPUT: true; the input reads as it did. -/
def chainChecksSpec : ChangeSpec := { name := "chainChecks", fn := fun _ => fun
  | [d1, d2, d3] => { results := [.lit (.bool true)], args := [d1, d2, d3] }
  | _ => none }
def chainChecksRow : OpenClaim := { program := "ytkdngpiiecmpgaagreat", sum := "5c381eff6d86cd3aa40dad9ebf477288c822ea35e25aa9321be26c7a5841fdb4", func := "cadastre/cadastrelaw13.ChainChecks", spec := "chainChecks", inPlace := ["internal/bytealg.Compare", "slices.overlaps[cadastre/api.Cell]"], unfollowed := true, recurses := true, apart := false }
def ChainChecksSaid : Prop := chainChecksRow.holds Tryz.pinned (OpenSpec.ofChange chainChecksSpec)

/-- ITS FALSE NEIGHBOUR: 'it returns false'. Refute it at one input. -/
def chainChecksWrong : ChangeSpec := { name := "chainChecks", fn := fun _ => fun
  | [d1, d2, d3] => { results := [.lit (.bool false)], args := [d1, d2, d3] }
  | _ => none }
def ChainChecksWrongFalsely : Prop := chainChecksRow.holds Tryz.pinned (OpenSpec.ofChange chainChecksWrong)

/- THE SECOND FORM. 'bulk': how many values and letters a reading holds, each counted each time it is reached (what is shared counts as often as it is met; a slice's spare places count too). A statement '..UptoSaid' is the law's where the arguments, and the package variables that the reading takes, are together of bulk at most 1048576: NARROWER than '..Said'. Prove '..Said' where nothing that the law and all that it calls make is longer than what came in: it says more and counts as full. Else prove '..UptoSaid'. A law counts once. -/
mutual
def uptoBulk {H : Type} : DataW H → Nat
  | .lit (.string bytes) => bytes.length + 1
  | .lit _ => 1
  | .nil => 1
  | .ptr d => uptoBulk d + 1
  | .slice elems spare => uptoBulkAll elems + uptoBulkAll spare + 1
  | .agg parts => uptoBulkAll parts + 1
  | .iface _ d => uptoBulk d + 1
  | .map entries => uptoBulkEntries entries + 1
  | .held _ => 1
def uptoBulkAll {H : Type} : List (DataW H) → Nat
  | [] => 0
  | d :: r => uptoBulk d + uptoBulkAll r
def uptoBulkEntries {H : Type} : List (Lit × DataW H) → Nat
  | [] => 0
  | x :: r => uptoBulkEntry x + uptoBulkEntries r
def uptoBulkEntry {H : Type} : Lit × DataW H → Nat
  | (.string bytes, d) => bytes.length + uptoBulk d + 1
  | (_, d) => uptoBulk d + 1
 end
def uptoSmall : (H : Type) → List (DataW H) → Bool := fun _ ds => decide (uptoBulkAll ds ≤ 1048576)
def OpenSpec.upto (s : _root_.Go.ChangeSpec) : _root_.Go.OpenSpec := { _root_.Go.OpenSpec.ofChange s with cond := some uptoSmall }

/-- 'cadastrelaw13.ChainAnalyses', WHERE WHAT IT READS IS OF BULK AT MOST 1048576: true; the input reads as it did. -/
def chainAnalysesUptoRow : OpenClaim := { program := "ytkdngpiiecmpgaagreat", sum := "5c381eff6d86cd3aa40dad9ebf477288c822ea35e25aa9321be26c7a5841fdb4", func := "cadastre/cadastrelaw13.ChainAnalyses", spec := "chainAnalyses", inPlace := ["internal/bytealg.Compare", "slices.overlaps[cadastre/api.Cell]"], unfollowed := true, recurses := true, apart := false, narrowed := true }
def ChainAnalysesUptoSaid : Prop := chainAnalysesUptoRow.holds Tryz.pinned (OpenSpec.upto chainAnalysesSpec)

/-- 'cadastrelaw13.ChainRedoes', WHERE WHAT IT READS IS OF BULK AT MOST 1048576: true; the input reads as it did. -/
def chainRedoesUptoRow : OpenClaim := { program := "ytkdngpiiecmpgaagreat", sum := "5c381eff6d86cd3aa40dad9ebf477288c822ea35e25aa9321be26c7a5841fdb4", func := "cadastre/cadastrelaw13.ChainRedoes", spec := "chainRedoes", inPlace := ["internal/bytealg.Compare", "slices.overlaps[cadastre/api.Cell]"], unfollowed := true, recurses := true, apart := false, narrowed := true }
def ChainRedoesUptoSaid : Prop := chainRedoesUptoRow.holds Tryz.pinned (OpenSpec.upto chainRedoesSpec)

/-- 'cadastrelaw13.ChainNexts', WHERE WHAT IT READS IS OF BULK AT MOST 1048576: true; the input reads as it did. -/
def chainNextsUptoRow : OpenClaim := { program := "ytkdngpiiecmpgaagreat", sum := "5c381eff6d86cd3aa40dad9ebf477288c822ea35e25aa9321be26c7a5841fdb4", func := "cadastre/cadastrelaw13.ChainNexts", spec := "chainNexts", inPlace := ["internal/bytealg.Compare", "slices.overlaps[cadastre/api.Cell]"], unfollowed := true, recurses := true, apart := false, narrowed := true }
def ChainNextsUptoSaid : Prop := chainNextsUptoRow.holds Tryz.pinned (OpenSpec.upto chainNextsSpec)

/-- 'cadastrelaw13.ChainRepeats', WHERE WHAT IT READS IS OF BULK AT MOST 1048576: true; the input reads as it did. -/
def chainRepeatsUptoRow : OpenClaim := { program := "ytkdngpiiecmpgaagreat", sum := "5c381eff6d86cd3aa40dad9ebf477288c822ea35e25aa9321be26c7a5841fdb4", func := "cadastre/cadastrelaw13.ChainRepeats", spec := "chainRepeats", inPlace := ["internal/bytealg.Compare", "slices.overlaps[cadastre/api.Cell]"], unfollowed := true, recurses := true, apart := false, narrowed := true }
def ChainRepeatsUptoSaid : Prop := chainRepeatsUptoRow.holds Tryz.pinned (OpenSpec.upto chainRepeatsSpec)

/-- 'cadastrelaw13.ChainChecks', WHERE WHAT IT READS IS OF BULK AT MOST 1048576: true; the input reads as it did. -/
def chainChecksUptoRow : OpenClaim := { program := "ytkdngpiiecmpgaagreat", sum := "5c381eff6d86cd3aa40dad9ebf477288c822ea35e25aa9321be26c7a5841fdb4", func := "cadastre/cadastrelaw13.ChainChecks", spec := "chainChecks", inPlace := ["internal/bytealg.Compare", "slices.overlaps[cadastre/api.Cell]"], unfollowed := true, recurses := true, apart := false, narrowed := true }
def ChainChecksUptoSaid : Prop := chainChecksUptoRow.holds Tryz.pinned (OpenSpec.upto chainChecksSpec)

end Rows
end Go.Proofs.YtkdngpiiecmpgaaGreat
