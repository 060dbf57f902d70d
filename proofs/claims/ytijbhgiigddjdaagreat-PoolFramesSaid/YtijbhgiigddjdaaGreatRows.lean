/-
  No cell of these rows narrows 'for every input' (looked for: loops, veiled, ifaces, maps, wideKeys, modest, calm, conditions, laid).
  DERIVED. THE GIVEN ROWS OF THIS SEAT. 4 by the template 'for every input the law returns true; each argument reads behind the call as it read before'; 0 by the template 'total and deterministic' (their statements: YtijbhgiigddjdaaGreatTotals.lean).
  GIVEN WITH THE SEED: the statements are not yours to turn. If you find one false, say at which input.
  Laid BY PROGRAM, IN A SANDBOX (cutbox-rows.mjs): the forced cells as the released guide's own fill.sh prints them over the translation 18162e1f8f725999… (all of the seat's roots in one cut). By AI agents, Wed Nov 11 2026. No macro, syntax, notation, axiom, sorry.
-/
import Derived.Test.YtijbhgiigddjdaaGreatChecked
import GoSem.Claim
import GoSem.ClaimJoined
import GoSem.ClaimMapViews
import Derived.JoinedTies
import Derived.KernelRfl
namespace Go.Proofs.YtijbhgiigddjdaaGreat
/- THE CELL 'sum', in the pinned program and in every row, IS THE sha256 OF THE DUMP (.gsa) THAT YtijbhgiigddjdaaGreatProg.lean LOADS. Nothing in Lean hashes anything: it is a label: what it is worth is what the hold of that sum in a sandbox is worth. -/
noncomputable def Tryz.pinned : Pinned := { name := "ytijbhgiigddjdaagreat", sum := "18162e1f8f72599910b7e146ec8e8629c0d9cf9043fa3cda18f431ffaf0a185e", checked := Tryz.checked }
namespace Rows
def none {H : Type} : Left H := { results := [], args := [] }

/-- 'cadastrelaw11.PoolReads': WHATEVER THE INPUT: true; the input reads as it did. -/
def poolReadsSpec : ChangeSpec := { name := "poolReads", fn := fun _ => fun
  | [d1, d2] => { results := [.lit (.bool true)], args := [d1, d2] }
  | _ => none }
def poolReadsRow : OpenClaim := { program := "ytijbhgiigddjdaagreat", sum := "18162e1f8f72599910b7e146ec8e8629c0d9cf9043fa3cda18f431ffaf0a185e", func := "cadastre/cadastrelaw11.PoolReads", spec := "poolReads", inPlace := ["internal/bytealg.Compare"], unfollowed := true, recurses := true, apart := false }
def PoolReadsSaid : Prop := poolReadsRow.holds Tryz.pinned (OpenSpec.ofChange poolReadsSpec)

/-- ITS FALSE NEIGHBOUR: 'it returns false'. Refute it at one input. -/
def poolReadsWrong : ChangeSpec := { name := "poolReads", fn := fun _ => fun
  | [d1, d2] => { results := [.lit (.bool false)], args := [d1, d2] }
  | _ => none }
def PoolReadsWrongFalsely : Prop := poolReadsRow.holds Tryz.pinned (OpenSpec.ofChange poolReadsWrong)

/-- 'cadastrelaw11.PoolNobody': WHATEVER THE INPUT: true; the input reads as it did. -/
def poolNobodySpec : ChangeSpec := { name := "poolNobody", fn := fun _ => fun
  | [d1, d2] => { results := [.lit (.bool true)], args := [d1, d2] }
  | _ => none }
def poolNobodyRow : OpenClaim := { program := "ytijbhgiigddjdaagreat", sum := "18162e1f8f72599910b7e146ec8e8629c0d9cf9043fa3cda18f431ffaf0a185e", func := "cadastre/cadastrelaw11.PoolNobody", spec := "poolNobody", inPlace := ["internal/bytealg.Compare"], unfollowed := true, recurses := true, apart := false }
def PoolNobodySaid : Prop := poolNobodyRow.holds Tryz.pinned (OpenSpec.ofChange poolNobodySpec)

/-- ITS FALSE NEIGHBOUR: 'it returns false'. Refute it at one input. -/
def poolNobodyWrong : ChangeSpec := { name := "poolNobody", fn := fun _ => fun
  | [d1, d2] => { results := [.lit (.bool false)], args := [d1, d2] }
  | _ => none }
def PoolNobodyWrongFalsely : Prop := poolNobodyRow.holds Tryz.pinned (OpenSpec.ofChange poolNobodyWrong)

/-- 'cadastrelaw11.PoolFrames': WHATEVER THE INPUT: true; the input reads as it did. -/
def poolFramesSpec : ChangeSpec := { name := "poolFrames", fn := fun _ => fun
  | [d1, d2, d3] => { results := [.lit (.bool true)], args := [d1, d2, d3] }
  | _ => none }
def poolFramesRow : OpenClaim := { program := "ytijbhgiigddjdaagreat", sum := "18162e1f8f72599910b7e146ec8e8629c0d9cf9043fa3cda18f431ffaf0a185e", func := "cadastre/cadastrelaw11.PoolFrames", spec := "poolFrames", inPlace := ["internal/bytealg.Compare"], unfollowed := true, recurses := true, apart := false }
def PoolFramesSaid : Prop := poolFramesRow.holds Tryz.pinned (OpenSpec.ofChange poolFramesSpec)

/-- ITS FALSE NEIGHBOUR: 'it returns false'. Refute it at one input. -/
def poolFramesWrong : ChangeSpec := { name := "poolFrames", fn := fun _ => fun
  | [d1, d2, d3] => { results := [.lit (.bool false)], args := [d1, d2, d3] }
  | _ => none }
def PoolFramesWrongFalsely : Prop := poolFramesRow.holds Tryz.pinned (OpenSpec.ofChange poolFramesWrong)

/-- 'cadastrelaw11.PoolAhead': WHATEVER THE INPUT: true; the input reads as it did. -/
def poolAheadSpec : ChangeSpec := { name := "poolAhead", fn := fun _ => fun
  | [d1, d2, d3, d4] => { results := [.lit (.bool true)], args := [d1, d2, d3, d4] }
  | _ => none }
def poolAheadRow : OpenClaim := { program := "ytijbhgiigddjdaagreat", sum := "18162e1f8f72599910b7e146ec8e8629c0d9cf9043fa3cda18f431ffaf0a185e", func := "cadastre/cadastrelaw11.PoolAhead", spec := "poolAhead", inPlace := ["internal/bytealg.Compare"], unfollowed := true, recurses := true, apart := false }
def PoolAheadSaid : Prop := poolAheadRow.holds Tryz.pinned (OpenSpec.ofChange poolAheadSpec)

/-- ITS FALSE NEIGHBOUR: 'it returns false'. Refute it at one input. -/
def poolAheadWrong : ChangeSpec := { name := "poolAhead", fn := fun _ => fun
  | [d1, d2, d3, d4] => { results := [.lit (.bool false)], args := [d1, d2, d3, d4] }
  | _ => none }
def PoolAheadWrongFalsely : Prop := poolAheadRow.holds Tryz.pinned (OpenSpec.ofChange poolAheadWrong)

/- THE SECOND FORM. 'bulk': how many values and letters a reading holds, each counted each time it is reached (what is shared counts as often as it is met; a slice's spare places count too). A statement '..UptoSaid' is the law's where the arguments, and the package variables that the reading takes, are together of bulk at most 1048576: NARROWER than '..Said'. Prove '..Said' where nothing that the law and all that it calls make is longer than what came in: it says more and counts as full. Else prove '..UptoSaid'. A law counts once. -/
mutual
def uptoBulk {H : Type} : DataW H → Nat
  | .lit (.string bytes) => bytes.length + 1
  | .lit _ => 1
  | .nil => 1
  | .ptr d => uptoBulk d + 1
  | .slice elems spare => uptoBulkAll elems + uptoBulkAll spare + 1
  | .agg parts => uptoBulkAll parts + 1
  | .iface _ d => uptoBulk d + 1
  | .map entries => uptoBulkEntries entries + 1
  | .held _ => 1
def uptoBulkAll {H : Type} : List (DataW H) → Nat
  | [] => 0
  | d :: r => uptoBulk d + uptoBulkAll r
def uptoBulkEntries {H : Type} : List (Lit × DataW H) → Nat
  | [] => 0
  | x :: r => uptoBulkEntry x + uptoBulkEntries r
def uptoBulkEntry {H : Type} : Lit × DataW H → Nat
  | (.string bytes, d) => bytes.length + uptoBulk d + 1
  | (_, d) => uptoBulk d + 1
 end
def uptoSmall : (H : Type) → List (DataW H) → Bool := fun _ ds => decide (uptoBulkAll ds ≤ 1048576)
def OpenSpec.upto (s : _root_.Go.ChangeSpec) : _root_.Go.OpenSpec := { _root_.Go.OpenSpec.ofChange s with cond := some uptoSmall }

/-- 'cadastrelaw11.PoolReads', WHERE WHAT IT READS IS OF BULK AT MOST 1048576: true; the input reads as it did. -/
def poolReadsUptoRow : OpenClaim := { program := "ytijbhgiigddjdaagreat", sum := "18162e1f8f72599910b7e146ec8e8629c0d9cf9043fa3cda18f431ffaf0a185e", func := "cadastre/cadastrelaw11.PoolReads", spec := "poolReads", inPlace := ["internal/bytealg.Compare"], unfollowed := true, recurses := true, apart := false, narrowed := true }
def PoolReadsUptoSaid : Prop := poolReadsUptoRow.holds Tryz.pinned (OpenSpec.upto poolReadsSpec)

/-- 'cadastrelaw11.PoolNobody', WHERE WHAT IT READS IS OF BULK AT MOST 1048576: true; the input reads as it did. -/
def poolNobodyUptoRow : OpenClaim := { program := "ytijbhgiigddjdaagreat", sum := "18162e1f8f72599910b7e146ec8e8629c0d9cf9043fa3cda18f431ffaf0a185e", func := "cadastre/cadastrelaw11.PoolNobody", spec := "poolNobody", inPlace := ["internal/bytealg.Compare"], unfollowed := true, recurses := true, apart := false, narrowed := true }
def PoolNobodyUptoSaid : Prop := poolNobodyUptoRow.holds Tryz.pinned (OpenSpec.upto poolNobodySpec)

/-- 'cadastrelaw11.PoolFrames', WHERE WHAT IT READS IS OF BULK AT MOST 1048576: true; the input reads as it did. -/
def poolFramesUptoRow : OpenClaim := { program := "ytijbhgiigddjdaagreat", sum := "18162e1f8f72599910b7e146ec8e8629c0d9cf9043fa3cda18f431ffaf0a185e", func := "cadastre/cadastrelaw11.PoolFrames", spec := "poolFrames", inPlace := ["internal/bytealg.Compare"], unfollowed := true, recurses := true, apart := false, narrowed := true }
def PoolFramesUptoSaid : Prop := poolFramesUptoRow.holds Tryz.pinned (OpenSpec.upto poolFramesSpec)

/-- 'cadastrelaw11.PoolAhead', WHERE WHAT IT READS IS OF BULK AT MOST 1048576: true; the input reads as it did. -/
def poolAheadUptoRow : OpenClaim := { program := "ytijbhgiigddjdaagreat", sum := "18162e1f8f72599910b7e146ec8e8629c0d9cf9043fa3cda18f431ffaf0a185e", func := "cadastre/cadastrelaw11.PoolAhead", spec := "poolAhead", inPlace := ["internal/bytealg.Compare"], unfollowed := true, recurses := true, apart := false, narrowed := true }
def PoolAheadUptoSaid : Prop := poolAheadUptoRow.holds Tryz.pinned (OpenSpec.upto poolAheadSpec)

end Rows
end Go.Proofs.YtijbhgiigddjdaaGreat
