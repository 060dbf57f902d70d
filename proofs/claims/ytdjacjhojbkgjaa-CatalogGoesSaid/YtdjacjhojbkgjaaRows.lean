/-
  No cell of these rows narrows 'for every input' (looked for: loops, veiled, ifaces, maps, wideKeys, modest, calm, conditions, laid).
  DERIVED. THE GIVEN ROWS OF THIS SEAT. 4 by the template 'for every input the law returns true; each argument reads behind the call as it read before'; 0 by the template 'total and deterministic' (their statements: YtdjacjhojbkgjaaTotals.lean).
  GIVEN WITH THE SEED: the statements are not yours to turn. If you find one false, say at which input.
  Laid BY PROGRAM, IN A SANDBOX (cutbox-rows.mjs): the forced cells as the released guide's own fill.sh prints them over the translation 6ff2045de3e0387d… (all of the seat's roots in one cut). By AI agents, Wed Nov 11 2026. No macro, syntax, notation, axiom, sorry.
-/
import Derived.Test.YtdjacjhojbkgjaaChecked
import GoSem.Claim
import GoSem.ClaimJoined
import GoSem.ClaimMapViews
import Derived.JoinedTies
import Derived.KernelRfl
namespace Go.Proofs.Ytdjacjhojbkgjaa
/- THE CELL 'sum', in the pinned program and in every row, IS THE sha256 OF THE DUMP (.gsa) THAT YtdjacjhojbkgjaaProg.lean LOADS. Nothing in Lean hashes anything: it is a label: what it is worth is what the hold of that sum in a sandbox is worth. -/
noncomputable def Try.pinned : Pinned := { name := "ytdjacjhojbkgjaa", sum := "6ff2045de3e0387d13779130a7140dd28bc39cf195032311e44cfe1bb0385454", checked := Try.checked }
namespace Rows
def none {H : Type} : Left H := { results := [], args := [] }

/-- 'cadastrelaw17.CatalogRows': WHATEVER THE INPUT: true; the input reads as it did. -/
def catalogRowsSpec : ChangeSpec := { name := "catalogRows", fn := fun _ => fun
  | [d] => { results := [.lit (.bool true)], args := [d] }
  | _ => none }
def catalogRowsRow : OpenClaim := { program := "ytdjacjhojbkgjaa", sum := "6ff2045de3e0387d13779130a7140dd28bc39cf195032311e44cfe1bb0385454", func := "cadastre/cadastrelaw17.CatalogRows", spec := "catalogRows", unfollowed := true, recurses := true, apart := false }
def CatalogRowsSaid : Prop := catalogRowsRow.holds Try.pinned (OpenSpec.ofChange catalogRowsSpec)

/-- ITS FALSE NEIGHBOUR: 'it returns false'. Refute it at one input. -/
def catalogRowsWrong : ChangeSpec := { name := "catalogRows", fn := fun _ => fun
  | [d] => { results := [.lit (.bool false)], args := [d] }
  | _ => none }
def CatalogRowsWrongFalsely : Prop := catalogRowsRow.holds Try.pinned (OpenSpec.ofChange catalogRowsWrong)

/-- 'cadastrelaw17.CatalogRead': WHATEVER THE INPUT: true; the input reads as it did. -/
def catalogReadSpec : ChangeSpec := { name := "catalogRead", fn := fun _ => fun
  | [d] => { results := [.lit (.bool true)], args := [d] }
  | _ => none }
def catalogReadRow : OpenClaim := { program := "ytdjacjhojbkgjaa", sum := "6ff2045de3e0387d13779130a7140dd28bc39cf195032311e44cfe1bb0385454", func := "cadastre/cadastrelaw17.CatalogRead", spec := "catalogRead", unfollowed := true, recurses := true, apart := false }
def CatalogReadSaid : Prop := catalogReadRow.holds Try.pinned (OpenSpec.ofChange catalogReadSpec)

/-- ITS FALSE NEIGHBOUR: 'it returns false'. Refute it at one input. -/
def catalogReadWrong : ChangeSpec := { name := "catalogRead", fn := fun _ => fun
  | [d] => { results := [.lit (.bool false)], args := [d] }
  | _ => none }
def CatalogReadWrongFalsely : Prop := catalogReadRow.holds Try.pinned (OpenSpec.ofChange catalogReadWrong)

/-- 'cadastrelaw17.CatalogFinds': WHATEVER THE INPUT: true; the input reads as it did. -/
def catalogFindsSpec : ChangeSpec := { name := "catalogFinds", fn := fun _ => fun
  | [d1, d2, d3] => { results := [.lit (.bool true)], args := [d1, d2, d3] }
  | _ => none }
def catalogFindsRow : OpenClaim := { program := "ytdjacjhojbkgjaa", sum := "6ff2045de3e0387d13779130a7140dd28bc39cf195032311e44cfe1bb0385454", func := "cadastre/cadastrelaw17.CatalogFinds", spec := "catalogFinds", unfollowed := true, recurses := true, apart := false }
def CatalogFindsSaid : Prop := catalogFindsRow.holds Try.pinned (OpenSpec.ofChange catalogFindsSpec)

/-- ITS FALSE NEIGHBOUR: 'it returns false'. Refute it at one input. -/
def catalogFindsWrong : ChangeSpec := { name := "catalogFinds", fn := fun _ => fun
  | [d1, d2, d3] => { results := [.lit (.bool false)], args := [d1, d2, d3] }
  | _ => none }
def CatalogFindsWrongFalsely : Prop := catalogFindsRow.holds Try.pinned (OpenSpec.ofChange catalogFindsWrong)

/-- 'cadastrelaw17.CatalogGoes': WHATEVER THE INPUT: true; the input reads as it did. -/
def catalogGoesSpec : ChangeSpec := { name := "catalogGoes", fn := fun _ => fun
  | [d] => { results := [.lit (.bool true)], args := [d] }
  | _ => none }
def catalogGoesRow : OpenClaim := { program := "ytdjacjhojbkgjaa", sum := "6ff2045de3e0387d13779130a7140dd28bc39cf195032311e44cfe1bb0385454", func := "cadastre/cadastrelaw17.CatalogGoes", spec := "catalogGoes", unfollowed := true, recurses := true, apart := false }
def CatalogGoesSaid : Prop := catalogGoesRow.holds Try.pinned (OpenSpec.ofChange catalogGoesSpec)

/-- ITS FALSE NEIGHBOUR: 'it returns false'. Refute it at one input. -/
def catalogGoesWrong : ChangeSpec := { name := "catalogGoes", fn := fun _ => fun
  | [d] => { results := [.lit (.bool false)], args := [d] }
  | _ => none }
def CatalogGoesWrongFalsely : Prop := catalogGoesRow.holds Try.pinned (OpenSpec.ofChange catalogGoesWrong)

/- THE SECOND FORM. 'bulk': how many values and letters a reading holds, each counted each time it is reached (what is shared counts as often as it is met; a slice's spare places count too). A statement '..UptoSaid' is the law's where the arguments, and the package variables that the reading takes, are together of bulk at most 1048576: NARROWER than '..Said'. Prove '..Said' where nothing that the law and all that it calls make is longer than what came in: it says more and counts as full. Else prove '..UptoSaid'. A law counts once. -/
mutual
def uptoBulk {H : Type} : DataW H → Nat
  | .lit (.string bytes) => bytes.length + 1
  | .lit _ => 1
  | .nil => 1
  | .ptr d => uptoBulk d + 1
  | .slice elems spare => uptoBulkAll elems + uptoBulkAll spare + 1
  | .agg parts => uptoBulkAll parts + 1
  | .iface _ d => uptoBulk d + 1
  | .map entries => uptoBulkEntries entries + 1
  | .held _ => 1
def uptoBulkAll {H : Type} : List (DataW H) → Nat
  | [] => 0
  | d :: r => uptoBulk d + uptoBulkAll r
def uptoBulkEntries {H : Type} : List (Lit × DataW H) → Nat
  | [] => 0
  | x :: r => uptoBulkEntry x + uptoBulkEntries r
def uptoBulkEntry {H : Type} : Lit × DataW H → Nat
  | (.string bytes, d) => bytes.length + uptoBulk d + 1
  | (_, d) => uptoBulk d + 1
 end
def uptoSmall : (H : Type) → List (DataW H) → Bool := fun _ ds => decide (uptoBulkAll ds ≤ 1048576)
def OpenSpec.upto (s : _root_.Go.ChangeSpec) : _root_.Go.OpenSpec := { _root_.Go.OpenSpec.ofChange s with cond := some uptoSmall }

/-- 'cadastrelaw17.CatalogRows', WHERE WHAT IT READS IS OF BULK AT MOST 1048576: true; the input reads as it did. -/
def catalogRowsUptoRow : OpenClaim := { program := "ytdjacjhojbkgjaa", sum := "6ff2045de3e0387d13779130a7140dd28bc39cf195032311e44cfe1bb0385454", func := "cadastre/cadastrelaw17.CatalogRows", spec := "catalogRows", unfollowed := true, recurses := true, apart := false, narrowed := true }
def CatalogRowsUptoSaid : Prop := catalogRowsUptoRow.holds Try.pinned (OpenSpec.upto catalogRowsSpec)

/-- 'cadastrelaw17.CatalogRead', WHERE WHAT IT READS IS OF BULK AT MOST 1048576: true; the input reads as it did. -/
def catalogReadUptoRow : OpenClaim := { program := "ytdjacjhojbkgjaa", sum := "6ff2045de3e0387d13779130a7140dd28bc39cf195032311e44cfe1bb0385454", func := "cadastre/cadastrelaw17.CatalogRead", spec := "catalogRead", unfollowed := true, recurses := true, apart := false, narrowed := true }
def CatalogReadUptoSaid : Prop := catalogReadUptoRow.holds Try.pinned (OpenSpec.upto catalogReadSpec)

/-- 'cadastrelaw17.CatalogFinds', WHERE WHAT IT READS IS OF BULK AT MOST 1048576: true; the input reads as it did. -/
def catalogFindsUptoRow : OpenClaim := { program := "ytdjacjhojbkgjaa", sum := "6ff2045de3e0387d13779130a7140dd28bc39cf195032311e44cfe1bb0385454", func := "cadastre/cadastrelaw17.CatalogFinds", spec := "catalogFinds", unfollowed := true, recurses := true, apart := false, narrowed := true }
def CatalogFindsUptoSaid : Prop := catalogFindsUptoRow.holds Try.pinned (OpenSpec.upto catalogFindsSpec)

/-- 'cadastrelaw17.CatalogGoes', WHERE WHAT IT READS IS OF BULK AT MOST 1048576: true; the input reads as it did. -/
def catalogGoesUptoRow : OpenClaim := { program := "ytdjacjhojbkgjaa", sum := "6ff2045de3e0387d13779130a7140dd28bc39cf195032311e44cfe1bb0385454", func := "cadastre/cadastrelaw17.CatalogGoes", spec := "catalogGoes", unfollowed := true, recurses := true, apart := false, narrowed := true }
def CatalogGoesUptoSaid : Prop := catalogGoesUptoRow.holds Try.pinned (OpenSpec.upto catalogGoesSpec)

end Rows
end Go.Proofs.Ytdjacjhojbkgjaa
