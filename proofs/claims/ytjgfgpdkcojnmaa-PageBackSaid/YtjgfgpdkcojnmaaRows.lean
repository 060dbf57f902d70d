/-
  No cell of these rows narrows 'for every input' (looked for: loops, veiled, ifaces, maps, wideKeys, modest, calm, conditions, laid).
  DERIVED. THE GIVEN ROWS OF THIS SEAT. 10 by the template 'for every input the law returns true; each argument reads behind the call as it read before'; 0 by the template 'total and deterministic' (their statements: YtjgfgpdkcojnmaaTotals.lean).
  GIVEN WITH THE SEED: the statements are not yours to turn. If you find one false, say at which input.
  Laid BY PROGRAM, IN A SANDBOX (cutbox-rows.mjs): the forced cells as the released guide's own fill.sh prints them over the translation 60b787833257e33d… (all of the seat's roots in one cut). By AI agents, Wed Nov 11 2026. No macro, syntax, notation, axiom, sorry.
-/
import Derived.Test.YtjgfgpdkcojnmaaChecked
import GoSem.Claim
import GoSem.ClaimJoined
import GoSem.ClaimMapViews
import Derived.JoinedTies
import Derived.KernelRfl
namespace Go.Proofs.Ytjgfgpdkcojnmaa
/- THE CELL 'sum', in the pinned program and in every row, IS THE sha256 OF THE DUMP (.gsa) THAT YtjgfgpdkcojnmaaProg.lean LOADS. Nothing in Lean hashes anything: it is a label: what it is worth is what the hold of that sum in a sandbox is worth. -/
noncomputable def Try.pinned : Pinned := { name := "ytjgfgpdkcojnmaa", sum := "60b787833257e33dd95f1f8b1852f80e9ed6feaa90e2575df39c25eaa2825156", checked := Try.checked }
namespace Rows
def none {H : Type} : Left H := { results := [], args := [] }

/-- 'cadastrelaw07.PageMay': WHATEVER THE INPUT: true; the input reads as it did. -/
def pageMaySpec : ChangeSpec := { name := "pageMay", fn := fun _ => fun
  | [d] => { results := [.lit (.bool true)], args := [d] }
  | _ => none }
def pageMayRow : OpenClaim := { program := "ytjgfgpdkcojnmaa", sum := "60b787833257e33dd95f1f8b1852f80e9ed6feaa90e2575df39c25eaa2825156", func := "cadastre/cadastrelaw07.PageMay", spec := "pageMay", inPlace := ["internal/bytealg.Compare", "slices.overlaps[cadastre/api.Cell]"], unfollowed := true, recurses := true, apart := false }
def PageMaySaid : Prop := pageMayRow.holds Try.pinned (OpenSpec.ofChange pageMaySpec)

/-- ITS FALSE NEIGHBOUR: 'it returns false'. Refute it at one input. -/
def pageMayWrong : ChangeSpec := { name := "pageMay", fn := fun _ => fun
  | [d] => { results := [.lit (.bool false)], args := [d] }
  | _ => none }
def PageMayWrongFalsely : Prop := pageMayRow.holds Try.pinned (OpenSpec.ofChange pageMayWrong)

/-- 'cadastrelaw07.PageBytes': WHATEVER THE INPUT: true; the input reads as it did. -/
def pageBytesSpec : ChangeSpec := { name := "pageBytes", fn := fun _ => fun
  | [d] => { results := [.lit (.bool true)], args := [d] }
  | _ => none }
def pageBytesRow : OpenClaim := { program := "ytjgfgpdkcojnmaa", sum := "60b787833257e33dd95f1f8b1852f80e9ed6feaa90e2575df39c25eaa2825156", func := "cadastre/cadastrelaw07.PageBytes", spec := "pageBytes", inPlace := ["internal/bytealg.Compare", "slices.overlaps[cadastre/api.Cell]"], unfollowed := true, recurses := true, apart := false }
def PageBytesSaid : Prop := pageBytesRow.holds Try.pinned (OpenSpec.ofChange pageBytesSpec)

/-- ITS FALSE NEIGHBOUR: 'it returns false'. Refute it at one input. -/
def pageBytesWrong : ChangeSpec := { name := "pageBytes", fn := fun _ => fun
  | [d] => { results := [.lit (.bool false)], args := [d] }
  | _ => none }
def PageBytesWrongFalsely : Prop := pageBytesRow.holds Try.pinned (OpenSpec.ofChange pageBytesWrong)

/-- 'cadastrelaw07.PageDoes': WHATEVER THE INPUT: true; the input reads as it did. -/
def pageDoesSpec : ChangeSpec := { name := "pageDoes", fn := fun _ => fun
  | [d1, d2] => { results := [.lit (.bool true)], args := [d1, d2] }
  | _ => none }
def pageDoesRow : OpenClaim := { program := "ytjgfgpdkcojnmaa", sum := "60b787833257e33dd95f1f8b1852f80e9ed6feaa90e2575df39c25eaa2825156", func := "cadastre/cadastrelaw07.PageDoes", spec := "pageDoes", inPlace := ["internal/bytealg.Compare", "slices.overlaps[cadastre/api.Cell]"], unfollowed := true, recurses := true, apart := false }
def PageDoesSaid : Prop := pageDoesRow.holds Try.pinned (OpenSpec.ofChange pageDoesSpec)

/-- ITS FALSE NEIGHBOUR: 'it returns false'. Refute it at one input. -/
def pageDoesWrong : ChangeSpec := { name := "pageDoes", fn := fun _ => fun
  | [d1, d2] => { results := [.lit (.bool false)], args := [d1, d2] }
  | _ => none }
def PageDoesWrongFalsely : Prop := pageDoesRow.holds Try.pinned (OpenSpec.ofChange pageDoesWrong)

/-- 'cadastrelaw07.PageKeeps': WHATEVER THE INPUT: true; the input reads as it did. -/
def pageKeepsSpec : ChangeSpec := { name := "pageKeeps", fn := fun _ => fun
  | [d1, d2] => { results := [.lit (.bool true)], args := [d1, d2] }
  | _ => none }
def pageKeepsRow : OpenClaim := { program := "ytjgfgpdkcojnmaa", sum := "60b787833257e33dd95f1f8b1852f80e9ed6feaa90e2575df39c25eaa2825156", func := "cadastre/cadastrelaw07.PageKeeps", spec := "pageKeeps", inPlace := ["internal/bytealg.Compare", "slices.overlaps[cadastre/api.Cell]"], unfollowed := true, recurses := true, apart := false }
def PageKeepsSaid : Prop := pageKeepsRow.holds Try.pinned (OpenSpec.ofChange pageKeepsSpec)

/-- ITS FALSE NEIGHBOUR: 'it returns false'. Refute it at one input. -/
def pageKeepsWrong : ChangeSpec := { name := "pageKeeps", fn := fun _ => fun
  | [d1, d2] => { results := [.lit (.bool false)], args := [d1, d2] }
  | _ => none }
def PageKeepsWrongFalsely : Prop := pageKeepsRow.holds Try.pinned (OpenSpec.ofChange pageKeepsWrong)

/-- 'cadastrelaw07.PageRoom': WHATEVER THE INPUT: true; the input reads as it did. -/
def pageRoomSpec : ChangeSpec := { name := "pageRoom", fn := fun _ => fun
  | [d1, d2] => { results := [.lit (.bool true)], args := [d1, d2] }
  | _ => none }
def pageRoomRow : OpenClaim := { program := "ytjgfgpdkcojnmaa", sum := "60b787833257e33dd95f1f8b1852f80e9ed6feaa90e2575df39c25eaa2825156", func := "cadastre/cadastrelaw07.PageRoom", spec := "pageRoom", inPlace := ["internal/bytealg.Compare", "slices.overlaps[cadastre/api.Cell]"], unfollowed := true, recurses := true, apart := false }
def PageRoomSaid : Prop := pageRoomRow.holds Try.pinned (OpenSpec.ofChange pageRoomSpec)

/-- ITS FALSE NEIGHBOUR: 'it returns false'. Refute it at one input. -/
def pageRoomWrong : ChangeSpec := { name := "pageRoom", fn := fun _ => fun
  | [d1, d2] => { results := [.lit (.bool false)], args := [d1, d2] }
  | _ => none }
def PageRoomWrongFalsely : Prop := pageRoomRow.holds Try.pinned (OpenSpec.ofChange pageRoomWrong)

/-- 'cadastrelaw07.PageUndoes': WHATEVER THE INPUT: true; the input reads as it did. -/
def pageUndoesSpec : ChangeSpec := { name := "pageUndoes", fn := fun _ => fun
  | [d1, d2] => { results := [.lit (.bool true)], args := [d1, d2] }
  | _ => none }
def pageUndoesRow : OpenClaim := { program := "ytjgfgpdkcojnmaa", sum := "60b787833257e33dd95f1f8b1852f80e9ed6feaa90e2575df39c25eaa2825156", func := "cadastre/cadastrelaw07.PageUndoes", spec := "pageUndoes", inPlace := ["internal/bytealg.Compare", "slices.overlaps[cadastre/api.Cell]"], unfollowed := true, recurses := true, apart := false }
def PageUndoesSaid : Prop := pageUndoesRow.holds Try.pinned (OpenSpec.ofChange pageUndoesSpec)

/-- ITS FALSE NEIGHBOUR: 'it returns false'. Refute it at one input. -/
def pageUndoesWrong : ChangeSpec := { name := "pageUndoes", fn := fun _ => fun
  | [d1, d2] => { results := [.lit (.bool false)], args := [d1, d2] }
  | _ => none }
def PageUndoesWrongFalsely : Prop := pageUndoesRow.holds Try.pinned (OpenSpec.ofChange pageUndoesWrong)

/-- 'cadastrelaw07.PageThere': WHATEVER THE INPUT: true; the input reads as it did. -/
def pageThereSpec : ChangeSpec := { name := "pageThere", fn := fun _ => fun
  | [d1, d2] => { results := [.lit (.bool true)], args := [d1, d2] }
  | _ => none }
def pageThereRow : OpenClaim := { program := "ytjgfgpdkcojnmaa", sum := "60b787833257e33dd95f1f8b1852f80e9ed6feaa90e2575df39c25eaa2825156", func := "cadastre/cadastrelaw07.PageThere", spec := "pageThere", inPlace := ["internal/bytealg.Compare", "slices.overlaps[cadastre/api.Cell]"], unfollowed := true, recurses := true, apart := false }
def PageThereSaid : Prop := pageThereRow.holds Try.pinned (OpenSpec.ofChange pageThereSpec)

/-- ITS FALSE NEIGHBOUR: 'it returns false'. Refute it at one input. -/
def pageThereWrong : ChangeSpec := { name := "pageThere", fn := fun _ => fun
  | [d1, d2] => { results := [.lit (.bool false)], args := [d1, d2] }
  | _ => none }
def PageThereWrongFalsely : Prop := pageThereRow.holds Try.pinned (OpenSpec.ofChange pageThereWrong)

/-- 'cadastrelaw07.PageReads': WHATEVER THE INPUT: true; the input reads as it did. -/
def pageReadsSpec : ChangeSpec := { name := "pageReads", fn := fun _ => fun
  | [d] => { results := [.lit (.bool true)], args := [d] }
  | _ => none }
def pageReadsRow : OpenClaim := { program := "ytjgfgpdkcojnmaa", sum := "60b787833257e33dd95f1f8b1852f80e9ed6feaa90e2575df39c25eaa2825156", func := "cadastre/cadastrelaw07.PageReads", spec := "pageReads", inPlace := ["internal/bytealg.Compare", "slices.overlaps[cadastre/api.Cell]"], unfollowed := true, recurses := true, apart := false }
def PageReadsSaid : Prop := pageReadsRow.holds Try.pinned (OpenSpec.ofChange pageReadsSpec)

/-- ITS FALSE NEIGHBOUR: 'it returns false'. Refute it at one input. -/
def pageReadsWrong : ChangeSpec := { name := "pageReads", fn := fun _ => fun
  | [d] => { results := [.lit (.bool false)], args := [d] }
  | _ => none }
def PageReadsWrongFalsely : Prop := pageReadsRow.holds Try.pinned (OpenSpec.ofChange pageReadsWrong)

/-- 'cadastrelaw07.PageBack': WHATEVER THE INPUT: true; the input reads as it did. -/
def pageBackSpec : ChangeSpec := { name := "pageBack", fn := fun _ => fun
  | [d1, d2, d3] => { results := [.lit (.bool true)], args := [d1, d2, d3] }
  | _ => none }
def pageBackRow : OpenClaim := { program := "ytjgfgpdkcojnmaa", sum := "60b787833257e33dd95f1f8b1852f80e9ed6feaa90e2575df39c25eaa2825156", func := "cadastre/cadastrelaw07.PageBack", spec := "pageBack", inPlace := ["internal/bytealg.Compare", "slices.overlaps[cadastre/api.Cell]"], unfollowed := true, recurses := true, apart := false }
def PageBackSaid : Prop := pageBackRow.holds Try.pinned (OpenSpec.ofChange pageBackSpec)

/-- ITS FALSE NEIGHBOUR: 'it returns false'. Refute it at one input. -/
def pageBackWrong : ChangeSpec := { name := "pageBack", fn := fun _ => fun
  | [d1, d2, d3] => { results := [.lit (.bool false)], args := [d1, d2, d3] }
  | _ => none }
def PageBackWrongFalsely : Prop := pageBackRow.holds Try.pinned (OpenSpec.ofChange pageBackWrong)

/-- 'cadastrelaw07.PageSpoilt': WHATEVER THE INPUT: true; the input reads as it did. -/
def pageSpoiltSpec : ChangeSpec := { name := "pageSpoilt", fn := fun _ => fun
  | [d1, d2, d3] => { results := [.lit (.bool true)], args := [d1, d2, d3] }
  | _ => none }
def pageSpoiltRow : OpenClaim := { program := "ytjgfgpdkcojnmaa", sum := "60b787833257e33dd95f1f8b1852f80e9ed6feaa90e2575df39c25eaa2825156", func := "cadastre/cadastrelaw07.PageSpoilt", spec := "pageSpoilt", inPlace := ["internal/bytealg.Compare", "slices.overlaps[cadastre/api.Cell]"], unfollowed := true, recurses := true, apart := false }
def PageSpoiltSaid : Prop := pageSpoiltRow.holds Try.pinned (OpenSpec.ofChange pageSpoiltSpec)

/-- ITS FALSE NEIGHBOUR: 'it returns false'. Refute it at one input. -/
def pageSpoiltWrong : ChangeSpec := { name := "pageSpoilt", fn := fun _ => fun
  | [d1, d2, d3] => { results := [.lit (.bool false)], args := [d1, d2, d3] }
  | _ => none }
def PageSpoiltWrongFalsely : Prop := pageSpoiltRow.holds Try.pinned (OpenSpec.ofChange pageSpoiltWrong)

/- THE SECOND FORM. 'bulk': how many values and letters a reading holds, each counted each time it is reached (what is shared counts as often as it is met; a slice's spare places count too). A statement '..UptoSaid' is the law's where the arguments, and the package variables that the reading takes, are together of bulk at most 1048576: NARROWER than '..Said'. Prove '..Said' where nothing that the law and all that it calls make is longer than what came in: it says more and counts as full. Else prove '..UptoSaid'. A law counts once. -/
mutual
def uptoBulk {H : Type} : DataW H → Nat
  | .lit (.string bytes) => bytes.length + 1
  | .lit _ => 1
  | .nil => 1
  | .ptr d => uptoBulk d + 1
  | .slice elems spare => uptoBulkAll elems + uptoBulkAll spare + 1
  | .agg parts => uptoBulkAll parts + 1
  | .iface _ d => uptoBulk d + 1
  | .map entries => uptoBulkEntries entries + 1
  | .held _ => 1
def uptoBulkAll {H : Type} : List (DataW H) → Nat
  | [] => 0
  | d :: r => uptoBulk d + uptoBulkAll r
def uptoBulkEntries {H : Type} : List (Lit × DataW H) → Nat
  | [] => 0
  | x :: r => uptoBulkEntry x + uptoBulkEntries r
def uptoBulkEntry {H : Type} : Lit × DataW H → Nat
  | (.string bytes, d) => bytes.length + uptoBulk d + 1
  | (_, d) => uptoBulk d + 1
 end
def uptoSmall : (H : Type) → List (DataW H) → Bool := fun _ ds => decide (uptoBulkAll ds ≤ 1048576)
def OpenSpec.upto (s : _root_.Go.ChangeSpec) : _root_.Go.OpenSpec := { _root_.Go.OpenSpec.ofChange s with cond := some uptoSmall }

/-- 'cadastrelaw07.PageMay', WHERE WHAT IT READS IS OF BULK AT MOST 1048576: true; the input reads as it did. -/
def pageMayUptoRow : OpenClaim := { program := "ytjgfgpdkcojnmaa", sum := "60b787833257e33dd95f1f8b1852f80e9ed6feaa90e2575df39c25eaa2825156", func := "cadastre/cadastrelaw07.PageMay", spec := "pageMay", inPlace := ["internal/bytealg.Compare", "slices.overlaps[cadastre/api.Cell]"], unfollowed := true, recurses := true, apart := false, narrowed := true }
def PageMayUptoSaid : Prop := pageMayUptoRow.holds Try.pinned (OpenSpec.upto pageMaySpec)

/-- 'cadastrelaw07.PageBytes', WHERE WHAT IT READS IS OF BULK AT MOST 1048576: true; the input reads as it did. -/
def pageBytesUptoRow : OpenClaim := { program := "ytjgfgpdkcojnmaa", sum := "60b787833257e33dd95f1f8b1852f80e9ed6feaa90e2575df39c25eaa2825156", func := "cadastre/cadastrelaw07.PageBytes", spec := "pageBytes", inPlace := ["internal/bytealg.Compare", "slices.overlaps[cadastre/api.Cell]"], unfollowed := true, recurses := true, apart := false, narrowed := true }
def PageBytesUptoSaid : Prop := pageBytesUptoRow.holds Try.pinned (OpenSpec.upto pageBytesSpec)

/-- 'cadastrelaw07.PageDoes', WHERE WHAT IT READS IS OF BULK AT MOST 1048576: true; the input reads as it did. -/
def pageDoesUptoRow : OpenClaim := { program := "ytjgfgpdkcojnmaa", sum := "60b787833257e33dd95f1f8b1852f80e9ed6feaa90e2575df39c25eaa2825156", func := "cadastre/cadastrelaw07.PageDoes", spec := "pageDoes", inPlace := ["internal/bytealg.Compare", "slices.overlaps[cadastre/api.Cell]"], unfollowed := true, recurses := true, apart := false, narrowed := true }
def PageDoesUptoSaid : Prop := pageDoesUptoRow.holds Try.pinned (OpenSpec.upto pageDoesSpec)

/-- 'cadastrelaw07.PageKeeps', WHERE WHAT IT READS IS OF BULK AT MOST 1048576: true; the input reads as it did. -/
def pageKeepsUptoRow : OpenClaim := { program := "ytjgfgpdkcojnmaa", sum := "60b787833257e33dd95f1f8b1852f80e9ed6feaa90e2575df39c25eaa2825156", func := "cadastre/cadastrelaw07.PageKeeps", spec := "pageKeeps", inPlace := ["internal/bytealg.Compare", "slices.overlaps[cadastre/api.Cell]"], unfollowed := true, recurses := true, apart := false, narrowed := true }
def PageKeepsUptoSaid : Prop := pageKeepsUptoRow.holds Try.pinned (OpenSpec.upto pageKeepsSpec)

/-- 'cadastrelaw07.PageRoom', WHERE WHAT IT READS IS OF BULK AT MOST 1048576: true; the input reads as it did. -/
def pageRoomUptoRow : OpenClaim := { program := "ytjgfgpdkcojnmaa", sum := "60b787833257e33dd95f1f8b1852f80e9ed6feaa90e2575df39c25eaa2825156", func := "cadastre/cadastrelaw07.PageRoom", spec := "pageRoom", inPlace := ["internal/bytealg.Compare", "slices.overlaps[cadastre/api.Cell]"], unfollowed := true, recurses := true, apart := false, narrowed := true }
def PageRoomUptoSaid : Prop := pageRoomUptoRow.holds Try.pinned (OpenSpec.upto pageRoomSpec)

/-- 'cadastrelaw07.PageUndoes', WHERE WHAT IT READS IS OF BULK AT MOST 1048576: true; the input reads as it did. -/
def pageUndoesUptoRow : OpenClaim := { program := "ytjgfgpdkcojnmaa", sum := "60b787833257e33dd95f1f8b1852f80e9ed6feaa90e2575df39c25eaa2825156", func := "cadastre/cadastrelaw07.PageUndoes", spec := "pageUndoes", inPlace := ["internal/bytealg.Compare", "slices.overlaps[cadastre/api.Cell]"], unfollowed := true, recurses := true, apart := false, narrowed := true }
def PageUndoesUptoSaid : Prop := pageUndoesUptoRow.holds Try.pinned (OpenSpec.upto pageUndoesSpec)

/-- 'cadastrelaw07.PageThere', WHERE WHAT IT READS IS OF BULK AT MOST 1048576: true; the input reads as it did. -/
def pageThereUptoRow : OpenClaim := { program := "ytjgfgpdkcojnmaa", sum := "60b787833257e33dd95f1f8b1852f80e9ed6feaa90e2575df39c25eaa2825156", func := "cadastre/cadastrelaw07.PageThere", spec := "pageThere", inPlace := ["internal/bytealg.Compare", "slices.overlaps[cadastre/api.Cell]"], unfollowed := true, recurses := true, apart := false, narrowed := true }
def PageThereUptoSaid : Prop := pageThereUptoRow.holds Try.pinned (OpenSpec.upto pageThereSpec)

/-- 'cadastrelaw07.PageReads', WHERE WHAT IT READS IS OF BULK AT MOST 1048576: true; the input reads as it did. -/
def pageReadsUptoRow : OpenClaim := { program := "ytjgfgpdkcojnmaa", sum := "60b787833257e33dd95f1f8b1852f80e9ed6feaa90e2575df39c25eaa2825156", func := "cadastre/cadastrelaw07.PageReads", spec := "pageReads", inPlace := ["internal/bytealg.Compare", "slices.overlaps[cadastre/api.Cell]"], unfollowed := true, recurses := true, apart := false, narrowed := true }
def PageReadsUptoSaid : Prop := pageReadsUptoRow.holds Try.pinned (OpenSpec.upto pageReadsSpec)

/-- 'cadastrelaw07.PageBack', WHERE WHAT IT READS IS OF BULK AT MOST 1048576: true; the input reads as it did. -/
def pageBackUptoRow : OpenClaim := { program := "ytjgfgpdkcojnmaa", sum := "60b787833257e33dd95f1f8b1852f80e9ed6feaa90e2575df39c25eaa2825156", func := "cadastre/cadastrelaw07.PageBack", spec := "pageBack", inPlace := ["internal/bytealg.Compare", "slices.overlaps[cadastre/api.Cell]"], unfollowed := true, recurses := true, apart := false, narrowed := true }
def PageBackUptoSaid : Prop := pageBackUptoRow.holds Try.pinned (OpenSpec.upto pageBackSpec)

/-- 'cadastrelaw07.PageSpoilt', WHERE WHAT IT READS IS OF BULK AT MOST 1048576: true; the input reads as it did. -/
def pageSpoiltUptoRow : OpenClaim := { program := "ytjgfgpdkcojnmaa", sum := "60b787833257e33dd95f1f8b1852f80e9ed6feaa90e2575df39c25eaa2825156", func := "cadastre/cadastrelaw07.PageSpoilt", spec := "pageSpoilt", inPlace := ["internal/bytealg.Compare", "slices.overlaps[cadastre/api.Cell]"], unfollowed := true, recurses := true, apart := false, narrowed := true }
def PageSpoiltUptoSaid : Prop := pageSpoiltUptoRow.holds Try.pinned (OpenSpec.upto pageSpoiltSpec)

end Rows
end Go.Proofs.Ytjgfgpdkcojnmaa
