/-
  NARROWER THAN 'FOR EVERY INPUT', by the rows' own cells (each row's printed sentence says how): LockPlays: laid · LockApart: laid · LockEnds: laid · LockRings: laid · LockNobody: laid.
  DERIVED. THE GIVEN ROWS OF THIS SEAT. 5 by the template 'for every input the law returns true; each argument reads behind the call as it read before'; 0 by the template 'total and deterministic' (their statements: YtcpdfajaggbjlaaDoorTotals.lean).
  GIVEN WITH THE SEED: the statements are not yours to turn. If you find one false, say at which input.
  Laid BY PROGRAM, IN A SANDBOX (cutbox-rows.mjs): the forced cells as the released guide's own fill.sh prints them over the translation c1fa4c86b9ca58fc… (all of the seat's roots in one cut). By AI agents, Wed Nov 11 2026. No macro, syntax, notation, axiom, sorry.
-/
import Derived.Test.YtcpdfajaggbjlaaDoorChecked
import GoSem.Claim
import GoSem.ClaimJoined
import GoSem.ClaimMapViews
import Derived.JoinedTies
import Derived.KernelRfl
namespace Go.Proofs.YtcpdfajaggbjlaaDoor
/- THE CELL 'sum', in the pinned program and in every row, IS THE sha256 OF THE DUMP (.gsa) THAT YtcpdfajaggbjlaaDoorProg.lean LOADS. Nothing in Lean hashes anything: it is a label: what it is worth is what the hold of that sum in a sandbox is worth. -/
noncomputable def Tryd.pinned : Pinned := { name := "ytcpdfajaggbjlaadoor", sum := "c1fa4c86b9ca58fce5281acf1978a00871f6cddeed7758e76faafd00be06abde", checked := Tryd.checked }
namespace Rows
def none {H : Type} : Left H := { results := [], args := [] }

/- WHAT THE LISTED PACKAGE-LEVEL VARIABLES READ AS WHEN THE CALL BEGINS. Each datum BY PROGRAM (the guide's laid-datum.mjs) off the statement by which the dump's own 'gosem.cut.vars' lays the variable. In a bare row this is a premise. The card (YtcpdfajaggbjlaaDoorCards.lean) ties it to the program's text. -/
def laid_cadastre_lock_conflicts {H : Type} : DataW H := .agg [.lit (.int .u8 0), .lit (.int .u8 16), .lit (.int .u8 24), .lit (.int .u8 20), .lit (.int .u8 30)]
def laid_cadastre_lock_has {H : Type} : DataW H := .agg [.lit (.int .u8 0), .lit (.int .u8 2), .lit (.int .u8 6), .lit (.int .u8 10), .lit (.int .u8 30)]

/-- 'cadastrelaw12.LockPlays': WHATEVER THE INPUT: true; the input reads as it did. -/
def lockPlaysSpec : ChangeSpec := { name := "lockPlays", fn := fun _ => fun
  | [d1, d2] => { results := [.lit (.bool true)], args := [d1, d2] }
  | _ => none }
def lockPlaysRow : OpenClaim := { program := "ytcpdfajaggbjlaadoor", sum := "c1fa4c86b9ca58fce5281acf1978a00871f6cddeed7758e76faafd00be06abde", func := "cadastre/cadastrelaw12.LockPlays", spec := "lockPlays", unfollowed := true, recurses := true, named := ["cadastre/lock.has", "cadastre/lock.conflicts"], apart := false, laid := [("cadastre/lock.conflicts", laid_cadastre_lock_conflicts), ("cadastre/lock.has", laid_cadastre_lock_has)] }
def LockPlaysSaid : Prop := lockPlaysRow.holds Tryd.pinned (OpenSpec.ofChange lockPlaysSpec)

/-- ITS FALSE NEIGHBOUR: 'it returns false'. Refute it at one input. -/
def lockPlaysWrong : ChangeSpec := { name := "lockPlays", fn := fun _ => fun
  | [d1, d2] => { results := [.lit (.bool false)], args := [d1, d2] }
  | _ => none }
def LockPlaysWrongFalsely : Prop := lockPlaysRow.holds Tryd.pinned (OpenSpec.ofChange lockPlaysWrong)

/-- 'cadastrelaw12.LockApart': WHATEVER THE INPUT: true; the input reads as it did. -/
def lockApartSpec : ChangeSpec := { name := "lockApart", fn := fun _ => fun
  | [d] => { results := [.lit (.bool true)], args := [d] }
  | _ => none }
def lockApartRow : OpenClaim := { program := "ytcpdfajaggbjlaadoor", sum := "c1fa4c86b9ca58fce5281acf1978a00871f6cddeed7758e76faafd00be06abde", func := "cadastre/cadastrelaw12.LockApart", spec := "lockApart", unfollowed := true, recurses := true, named := ["cadastre/lock.has", "cadastre/lock.conflicts"], apart := false, laid := [("cadastre/lock.conflicts", laid_cadastre_lock_conflicts), ("cadastre/lock.has", laid_cadastre_lock_has)] }
def LockApartSaid : Prop := lockApartRow.holds Tryd.pinned (OpenSpec.ofChange lockApartSpec)

/-- ITS FALSE NEIGHBOUR: 'it returns false'. Refute it at one input. -/
def lockApartWrong : ChangeSpec := { name := "lockApart", fn := fun _ => fun
  | [d] => { results := [.lit (.bool false)], args := [d] }
  | _ => none }
def LockApartWrongFalsely : Prop := lockApartRow.holds Tryd.pinned (OpenSpec.ofChange lockApartWrong)

/-- 'cadastrelaw12.LockEnds': WHATEVER THE INPUT: true; the input reads as it did. -/
def lockEndsSpec : ChangeSpec := { name := "lockEnds", fn := fun _ => fun
  | [d] => { results := [.lit (.bool true)], args := [d] }
  | _ => none }
def lockEndsRow : OpenClaim := { program := "ytcpdfajaggbjlaadoor", sum := "c1fa4c86b9ca58fce5281acf1978a00871f6cddeed7758e76faafd00be06abde", func := "cadastre/cadastrelaw12.LockEnds", spec := "lockEnds", unfollowed := true, recurses := true, named := ["cadastre/lock.has", "cadastre/lock.conflicts"], apart := false, laid := [("cadastre/lock.conflicts", laid_cadastre_lock_conflicts), ("cadastre/lock.has", laid_cadastre_lock_has)] }
def LockEndsSaid : Prop := lockEndsRow.holds Tryd.pinned (OpenSpec.ofChange lockEndsSpec)

/-- ITS FALSE NEIGHBOUR: 'it returns false'. Refute it at one input. -/
def lockEndsWrong : ChangeSpec := { name := "lockEnds", fn := fun _ => fun
  | [d] => { results := [.lit (.bool false)], args := [d] }
  | _ => none }
def LockEndsWrongFalsely : Prop := lockEndsRow.holds Tryd.pinned (OpenSpec.ofChange lockEndsWrong)

/-- 'cadastrelaw12.LockRings': WHATEVER THE INPUT: true; the input reads as it did. -/
def lockRingsSpec : ChangeSpec := { name := "lockRings", fn := fun _ => fun
  | [d] => { results := [.lit (.bool true)], args := [d] }
  | _ => none }
def lockRingsRow : OpenClaim := { program := "ytcpdfajaggbjlaadoor", sum := "c1fa4c86b9ca58fce5281acf1978a00871f6cddeed7758e76faafd00be06abde", func := "cadastre/cadastrelaw12.LockRings", spec := "lockRings", unfollowed := true, recurses := true, named := ["cadastre/lock.has", "cadastre/lock.conflicts"], apart := false, laid := [("cadastre/lock.conflicts", laid_cadastre_lock_conflicts), ("cadastre/lock.has", laid_cadastre_lock_has)] }
def LockRingsSaid : Prop := lockRingsRow.holds Tryd.pinned (OpenSpec.ofChange lockRingsSpec)

/-- ITS FALSE NEIGHBOUR: 'it returns false'. Refute it at one input. -/
def lockRingsWrong : ChangeSpec := { name := "lockRings", fn := fun _ => fun
  | [d] => { results := [.lit (.bool false)], args := [d] }
  | _ => none }
def LockRingsWrongFalsely : Prop := lockRingsRow.holds Tryd.pinned (OpenSpec.ofChange lockRingsWrong)

/-- 'cadastrelaw12.LockNobody': WHATEVER THE INPUT: true; the input reads as it did. -/
def lockNobodySpec : ChangeSpec := { name := "lockNobody", fn := fun _ => fun
  | [d] => { results := [.lit (.bool true)], args := [d] }
  | _ => none }
def lockNobodyRow : OpenClaim := { program := "ytcpdfajaggbjlaadoor", sum := "c1fa4c86b9ca58fce5281acf1978a00871f6cddeed7758e76faafd00be06abde", func := "cadastre/cadastrelaw12.LockNobody", spec := "lockNobody", unfollowed := true, recurses := true, named := ["cadastre/lock.has", "cadastre/lock.conflicts"], apart := false, laid := [("cadastre/lock.conflicts", laid_cadastre_lock_conflicts), ("cadastre/lock.has", laid_cadastre_lock_has)] }
def LockNobodySaid : Prop := lockNobodyRow.holds Tryd.pinned (OpenSpec.ofChange lockNobodySpec)

/-- ITS FALSE NEIGHBOUR: 'it returns false'. Refute it at one input. -/
def lockNobodyWrong : ChangeSpec := { name := "lockNobody", fn := fun _ => fun
  | [d] => { results := [.lit (.bool false)], args := [d] }
  | _ => none }
def LockNobodyWrongFalsely : Prop := lockNobodyRow.holds Tryd.pinned (OpenSpec.ofChange lockNobodyWrong)

/- THE SECOND FORM. 'bulk': how many values and letters a reading holds, each counted each time it is reached (what is shared counts as often as it is met; a slice's spare places count too). A statement '..UptoSaid' is the law's where the arguments, and the package variables that the reading takes, are together of bulk at most 1048576: NARROWER than '..Said'. Prove '..Said' where nothing that the law and all that it calls make is longer than what came in: it says more and counts as full. Else prove '..UptoSaid'. A law counts once. -/
mutual
def uptoBulk {H : Type} : DataW H → Nat
  | .lit (.string bytes) => bytes.length + 1
  | .lit _ => 1
  | .nil => 1
  | .ptr d => uptoBulk d + 1
  | .slice elems spare => uptoBulkAll elems + uptoBulkAll spare + 1
  | .agg parts => uptoBulkAll parts + 1
  | .iface _ d => uptoBulk d + 1
  | .map entries => uptoBulkEntries entries + 1
  | .held _ => 1
def uptoBulkAll {H : Type} : List (DataW H) → Nat
  | [] => 0
  | d :: r => uptoBulk d + uptoBulkAll r
def uptoBulkEntries {H : Type} : List (Lit × DataW H) → Nat
  | [] => 0
  | x :: r => uptoBulkEntry x + uptoBulkEntries r
def uptoBulkEntry {H : Type} : Lit × DataW H → Nat
  | (.string bytes, d) => bytes.length + uptoBulk d + 1
  | (_, d) => uptoBulk d + 1
 end
def uptoSmall : (H : Type) → List (DataW H) → Bool := fun _ ds => decide (uptoBulkAll ds ≤ 1048576)
def OpenSpec.upto (s : _root_.Go.ChangeSpec) : _root_.Go.OpenSpec := { _root_.Go.OpenSpec.ofChange s with cond := some uptoSmall }

/-- 'cadastrelaw12.LockPlays', WHERE WHAT IT READS IS OF BULK AT MOST 1048576: true; the input reads as it did. -/
def lockPlaysUptoRow : OpenClaim := { program := "ytcpdfajaggbjlaadoor", sum := "c1fa4c86b9ca58fce5281acf1978a00871f6cddeed7758e76faafd00be06abde", func := "cadastre/cadastrelaw12.LockPlays", spec := "lockPlays", unfollowed := true, recurses := true, named := ["cadastre/lock.has", "cadastre/lock.conflicts"], apart := false, laid := [("cadastre/lock.conflicts", laid_cadastre_lock_conflicts), ("cadastre/lock.has", laid_cadastre_lock_has)], narrowed := true }
def LockPlaysUptoSaid : Prop := lockPlaysUptoRow.holds Tryd.pinned (OpenSpec.upto lockPlaysSpec)

/-- 'cadastrelaw12.LockApart', WHERE WHAT IT READS IS OF BULK AT MOST 1048576: true; the input reads as it did. -/
def lockApartUptoRow : OpenClaim := { program := "ytcpdfajaggbjlaadoor", sum := "c1fa4c86b9ca58fce5281acf1978a00871f6cddeed7758e76faafd00be06abde", func := "cadastre/cadastrelaw12.LockApart", spec := "lockApart", unfollowed := true, recurses := true, named := ["cadastre/lock.has", "cadastre/lock.conflicts"], apart := false, laid := [("cadastre/lock.conflicts", laid_cadastre_lock_conflicts), ("cadastre/lock.has", laid_cadastre_lock_has)], narrowed := true }
def LockApartUptoSaid : Prop := lockApartUptoRow.holds Tryd.pinned (OpenSpec.upto lockApartSpec)

/-- 'cadastrelaw12.LockEnds', WHERE WHAT IT READS IS OF BULK AT MOST 1048576: true; the input reads as it did. -/
def lockEndsUptoRow : OpenClaim := { program := "ytcpdfajaggbjlaadoor", sum := "c1fa4c86b9ca58fce5281acf1978a00871f6cddeed7758e76faafd00be06abde", func := "cadastre/cadastrelaw12.LockEnds", spec := "lockEnds", unfollowed := true, recurses := true, named := ["cadastre/lock.has", "cadastre/lock.conflicts"], apart := false, laid := [("cadastre/lock.conflicts", laid_cadastre_lock_conflicts), ("cadastre/lock.has", laid_cadastre_lock_has)], narrowed := true }
def LockEndsUptoSaid : Prop := lockEndsUptoRow.holds Tryd.pinned (OpenSpec.upto lockEndsSpec)

/-- 'cadastrelaw12.LockRings', WHERE WHAT IT READS IS OF BULK AT MOST 1048576: true; the input reads as it did. -/
def lockRingsUptoRow : OpenClaim := { program := "ytcpdfajaggbjlaadoor", sum := "c1fa4c86b9ca58fce5281acf1978a00871f6cddeed7758e76faafd00be06abde", func := "cadastre/cadastrelaw12.LockRings", spec := "lockRings", unfollowed := true, recurses := true, named := ["cadastre/lock.has", "cadastre/lock.conflicts"], apart := false, laid := [("cadastre/lock.conflicts", laid_cadastre_lock_conflicts), ("cadastre/lock.has", laid_cadastre_lock_has)], narrowed := true }
def LockRingsUptoSaid : Prop := lockRingsUptoRow.holds Tryd.pinned (OpenSpec.upto lockRingsSpec)

/-- 'cadastrelaw12.LockNobody', WHERE WHAT IT READS IS OF BULK AT MOST 1048576: true; the input reads as it did. -/
def lockNobodyUptoRow : OpenClaim := { program := "ytcpdfajaggbjlaadoor", sum := "c1fa4c86b9ca58fce5281acf1978a00871f6cddeed7758e76faafd00be06abde", func := "cadastre/cadastrelaw12.LockNobody", spec := "lockNobody", unfollowed := true, recurses := true, named := ["cadastre/lock.has", "cadastre/lock.conflicts"], apart := false, laid := [("cadastre/lock.conflicts", laid_cadastre_lock_conflicts), ("cadastre/lock.has", laid_cadastre_lock_has)], narrowed := true }
def LockNobodyUptoSaid : Prop := lockNobodyUptoRow.holds Tryd.pinned (OpenSpec.upto lockNobodySpec)

end Rows
end Go.Proofs.YtcpdfajaggbjlaaDoor
