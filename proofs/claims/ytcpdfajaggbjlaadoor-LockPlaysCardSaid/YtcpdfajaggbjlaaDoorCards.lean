/-
  DERIVED. GIVEN WITH THE SEED: THE CARDS: each row of YtcpdfajaggbjlaaDoorRows.lean that lists a variable, with what it lists TIED to the program's text (the seventh form; the later family's looks); each row that meets fmt, with fmt's text TOLD by the authors' own Lean function (tested against real Go, not proved from fmt's source: count such statements apart). THE CARD IS WHAT COUNTS. Prove the row's statement (the work); the ties are given (YtcpdfajaggbjlaaDoorTie.lean); close each card by the builder's one call (the guide's Derived/Test/ToyasCard.lean, 'card_holds'). Laid BY PROGRAM, IN A SANDBOX (cutbox-door.mjs). By AI agents, Wed Nov 11 2026. No macro, syntax, notation, axiom, sorry.
-/
import Derived.Test.YtcpdfajaggbjlaaDoorRows
import GoSem.ClaimSeven
namespace Go.Proofs.YtcpdfajaggbjlaaDoor
namespace Rows

/-- THE TIED CARD OF 'cadastrelaw12.LockPlays'. -/
def lockPlaysCard : Claim7 := { stood := { row := lockPlaysRow, standIns := [], harness := (true, "4b7ae8c6ec682ea066ecb34dfd9009265b3fef641a7e05e28047719220e0d315"), looks := false }, kinds := [], alts := [], laidByText := true, laidKinds := [.data, .data], laidTests := true, laidLooks := .later }
def LockPlaysCardSaid : Prop := Claim7.holds Tryd.pinned (.plain (OpenSpec.ofChange lockPlaysSpec)) lockPlaysCard

/-- THE TIED CARD OF 'cadastrelaw12.LockApart'. -/
def lockApartCard : Claim7 := { stood := { row := lockApartRow, standIns := [], harness := (true, "4b7ae8c6ec682ea066ecb34dfd9009265b3fef641a7e05e28047719220e0d315"), looks := false }, kinds := [], alts := [], laidByText := true, laidKinds := [.data, .data], laidTests := true, laidLooks := .later }
def LockApartCardSaid : Prop := Claim7.holds Tryd.pinned (.plain (OpenSpec.ofChange lockApartSpec)) lockApartCard

/-- THE TIED CARD OF 'cadastrelaw12.LockEnds'. -/
def lockEndsCard : Claim7 := { stood := { row := lockEndsRow, standIns := [], harness := (true, "4b7ae8c6ec682ea066ecb34dfd9009265b3fef641a7e05e28047719220e0d315"), looks := false }, kinds := [], alts := [], laidByText := true, laidKinds := [.data, .data], laidTests := true, laidLooks := .later }
def LockEndsCardSaid : Prop := Claim7.holds Tryd.pinned (.plain (OpenSpec.ofChange lockEndsSpec)) lockEndsCard

/-- THE TIED CARD OF 'cadastrelaw12.LockRings'. -/
def lockRingsCard : Claim7 := { stood := { row := lockRingsRow, standIns := [], harness := (true, "4b7ae8c6ec682ea066ecb34dfd9009265b3fef641a7e05e28047719220e0d315"), looks := false }, kinds := [], alts := [], laidByText := true, laidKinds := [.data, .data], laidTests := true, laidLooks := .later }
def LockRingsCardSaid : Prop := Claim7.holds Tryd.pinned (.plain (OpenSpec.ofChange lockRingsSpec)) lockRingsCard

/-- THE TIED CARD OF 'cadastrelaw12.LockNobody'. -/
def lockNobodyCard : Claim7 := { stood := { row := lockNobodyRow, standIns := [], harness := (true, "4b7ae8c6ec682ea066ecb34dfd9009265b3fef641a7e05e28047719220e0d315"), looks := false }, kinds := [], alts := [], laidByText := true, laidKinds := [.data, .data], laidTests := true, laidLooks := .later }
def LockNobodyCardSaid : Prop := Claim7.holds Tryd.pinned (.plain (OpenSpec.ofChange lockNobodySpec)) lockNobodyCard

/-- THE SECOND FORM's CARD OF 'cadastrelaw12.LockPlays'. -/
def lockPlaysUptoCard : Claim7 := { stood := { row := lockPlaysUptoRow, standIns := [], harness := (true, "4b7ae8c6ec682ea066ecb34dfd9009265b3fef641a7e05e28047719220e0d315"), looks := false }, kinds := [], alts := [], laidByText := true, laidKinds := [.data, .data], laidTests := true, laidLooks := .later }
def LockPlaysUptoCardSaid : Prop := Claim7.holds Tryd.pinned (.plain (OpenSpec.upto lockPlaysSpec)) lockPlaysUptoCard

/-- THE SECOND FORM's CARD OF 'cadastrelaw12.LockApart'. -/
def lockApartUptoCard : Claim7 := { stood := { row := lockApartUptoRow, standIns := [], harness := (true, "4b7ae8c6ec682ea066ecb34dfd9009265b3fef641a7e05e28047719220e0d315"), looks := false }, kinds := [], alts := [], laidByText := true, laidKinds := [.data, .data], laidTests := true, laidLooks := .later }
def LockApartUptoCardSaid : Prop := Claim7.holds Tryd.pinned (.plain (OpenSpec.upto lockApartSpec)) lockApartUptoCard

/-- THE SECOND FORM's CARD OF 'cadastrelaw12.LockEnds'. -/
def lockEndsUptoCard : Claim7 := { stood := { row := lockEndsUptoRow, standIns := [], harness := (true, "4b7ae8c6ec682ea066ecb34dfd9009265b3fef641a7e05e28047719220e0d315"), looks := false }, kinds := [], alts := [], laidByText := true, laidKinds := [.data, .data], laidTests := true, laidLooks := .later }
def LockEndsUptoCardSaid : Prop := Claim7.holds Tryd.pinned (.plain (OpenSpec.upto lockEndsSpec)) lockEndsUptoCard

/-- THE SECOND FORM's CARD OF 'cadastrelaw12.LockRings'. -/
def lockRingsUptoCard : Claim7 := { stood := { row := lockRingsUptoRow, standIns := [], harness := (true, "4b7ae8c6ec682ea066ecb34dfd9009265b3fef641a7e05e28047719220e0d315"), looks := false }, kinds := [], alts := [], laidByText := true, laidKinds := [.data, .data], laidTests := true, laidLooks := .later }
def LockRingsUptoCardSaid : Prop := Claim7.holds Tryd.pinned (.plain (OpenSpec.upto lockRingsSpec)) lockRingsUptoCard

/-- THE SECOND FORM's CARD OF 'cadastrelaw12.LockNobody'. -/
def lockNobodyUptoCard : Claim7 := { stood := { row := lockNobodyUptoRow, standIns := [], harness := (true, "4b7ae8c6ec682ea066ecb34dfd9009265b3fef641a7e05e28047719220e0d315"), looks := false }, kinds := [], alts := [], laidByText := true, laidKinds := [.data, .data], laidTests := true, laidLooks := .later }
def LockNobodyUptoCardSaid : Prop := Claim7.holds Tryd.pinned (.plain (OpenSpec.upto lockNobodySpec)) lockNobodyUptoCard
end Rows
end Go.Proofs.YtcpdfajaggbjlaaDoor
