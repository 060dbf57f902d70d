/-
  Closed facts on the types and the functions of this seat. Written by program (facts.py). Conditions: none.
-/
import Derived.Test.YtcpdfajaggbjlaaDoorKY
import Derived.Test.YtcpdfajaggbjlaaDoorProg
import Derived.KernelRfl
namespace Go.Proofs.YtcpdfajaggbjlaaDoor.Fx
open Go Go.K Go.Proofs
set_option linter.unusedVariables false
/-- a table, looked up -/
def lkL {α : Type} : List (Nat × α) → Nat → Option α
  | [], _ => none
  | (k, v) :: E, t => match Nat.beq k t with
    | true => some v
    | false => lkL E t
def allL {α : Type} (f : Nat → Option α) : List (Nat × α) → Prop
  | [] => True
  | p :: l => f p.1 = some p.2 ∧ allL f l
theorem look {α : Type} {f : Nat → Option α} : ∀ (l : List (Nat × α)), allL f l → ∀ {t : Nat} {x : α}, lkL l t = some x → f t = some x
  | [], _, _, _, h => (Option.some_ne_none _ h.symm).elim
  | (k, v) :: E, hA, t, x, h => by
    unfold lkL at h
    split at h
    · rename_i hb
      rw [← Nat.eq_of_beq_eq_true hb, ← h]
      exact hA.1
    · exact look E hA.2 h
theorem g1 : aggOf Tryd.prog 1 = some false := by kernel_rfl
theorem z1 : szOf Tryd.prog 1 = some 1 := by kernel_rfl
theorem by1 : byOf Tryd.prog 1 = some 8 := by kernel_rfl
theorem zr1 : zrOf Tryd.prog 1 = some (.nilFunc) := by kernel_rfl
theorem g2 : aggOf Tryd.prog 2 = some false := by kernel_rfl
theorem z2 : szOf Tryd.prog 2 = some 1 := by kernel_rfl
theorem by2 : byOf Tryd.prog 2 = some 8 := by kernel_rfl
theorem zr2 : zrOf Tryd.prog 2 = some (.int .i64 (0)) := by kernel_rfl
theorem g3 : aggOf Tryd.prog 3 = some false := by kernel_rfl
theorem z3 : szOf Tryd.prog 3 = some 1 := by kernel_rfl
theorem by3 : byOf Tryd.prog 3 = some 8 := by kernel_rfl
theorem zr3 : zrOf Tryd.prog 3 = some (.int .i64 (0)) := by kernel_rfl
theorem g4 : aggOf Tryd.prog 4 = some false := by kernel_rfl
theorem z4 : szOf Tryd.prog 4 = some 1 := by kernel_rfl
theorem by4 : byOf Tryd.prog 4 = some 1 := by kernel_rfl
theorem zr4 : zrOf Tryd.prog 4 = some (.bool false) := by kernel_rfl
theorem g5 : aggOf Tryd.prog 5 = some false := by kernel_rfl
theorem z5 : szOf Tryd.prog 5 = some 1 := by kernel_rfl
theorem by5 : byOf Tryd.prog 5 = some 1 := by kernel_rfl
theorem zr5 : zrOf Tryd.prog 5 = some (.int .u8 (0)) := by kernel_rfl
theorem g6 : aggOf Tryd.prog 6 = some false := by kernel_rfl
theorem z6 : szOf Tryd.prog 6 = some 1 := by kernel_rfl
theorem by6 : byOf Tryd.prog 6 = some 1 := by kernel_rfl
theorem zr6 : zrOf Tryd.prog 6 = some (.int .u8 (0)) := by kernel_rfl
theorem g7 : aggOf Tryd.prog 7 = some true := by kernel_rfl
theorem z7 : szOf Tryd.prog 7 = some 4 := by kernel_rfl
theorem by7 : byOf Tryd.prog 7 = some 24 := by kernel_rfl
theorem zr7 : zrOf Tryd.prog 7 = some (.agg [.int .i64 (0), .int .i64 (0), .bool false, .int .u8 (0)].toArray) := by kernel_rfl
theorem g8 : aggOf Tryd.prog 8 = some true := by kernel_rfl
theorem z8 : szOf Tryd.prog 8 = some 4 := by kernel_rfl
theorem by8 : byOf Tryd.prog 8 = some 24 := by kernel_rfl
theorem zr8 : zrOf Tryd.prog 8 = some (.agg [.int .i64 (0), .int .i64 (0), .bool false, .int .u8 (0)].toArray) := by kernel_rfl
theorem g9 : aggOf Tryd.prog 9 = some false := by kernel_rfl
theorem z9 : szOf Tryd.prog 9 = some 1 := by kernel_rfl
theorem by9 : byOf Tryd.prog 9 = some 16 := by kernel_rfl
theorem zr9 : zrOf Tryd.prog 9 = some (.string ⟨#[]⟩) := by kernel_rfl
theorem g10 : aggOf Tryd.prog 10 = some false := by kernel_rfl
theorem z10 : szOf Tryd.prog 10 = some 1 := by kernel_rfl
theorem by10 : byOf Tryd.prog 10 = some 16 := by kernel_rfl
theorem zr10 : zrOf Tryd.prog 10 = some (.string ⟨#[]⟩) := by kernel_rfl
theorem g11 : aggOf Tryd.prog 11 = some false := by kernel_rfl
theorem z11 : szOf Tryd.prog 11 = some 1 := by kernel_rfl
theorem by11 : byOf Tryd.prog 11 = some 16 := by kernel_rfl
theorem zr11 : zrOf Tryd.prog 11 = some (.string ⟨#[]⟩) := by kernel_rfl
theorem g12 : aggOf Tryd.prog 12 = some false := by kernel_rfl
theorem z12 : szOf Tryd.prog 12 = some 1 := by kernel_rfl
theorem by12 : byOf Tryd.prog 12 = some 8 := by kernel_rfl
theorem zr12 : zrOf Tryd.prog 12 = some (.int .u64 (0)) := by kernel_rfl
theorem g13 : aggOf Tryd.prog 13 = some true := by kernel_rfl
theorem z13 : szOf Tryd.prog 13 = some 2 := by kernel_rfl
theorem by13 : byOf Tryd.prog 13 = some 24 := by kernel_rfl
theorem zr13 : zrOf Tryd.prog 13 = some (.agg [.string ⟨#[]⟩, .int .u64 (0)].toArray) := by kernel_rfl
theorem g14 : aggOf Tryd.prog 14 = some true := by kernel_rfl
theorem z14 : szOf Tryd.prog 14 = some 2 := by kernel_rfl
theorem by14 : byOf Tryd.prog 14 = some 24 := by kernel_rfl
theorem zr14 : zrOf Tryd.prog 14 = some (.agg [.string ⟨#[]⟩, .int .u64 (0)].toArray) := by kernel_rfl
theorem g15 : aggOf Tryd.prog 15 = some false := by kernel_rfl
theorem z15 : szOf Tryd.prog 15 = some 1 := by kernel_rfl
theorem by15 : byOf Tryd.prog 15 = some 8 := by kernel_rfl
theorem zr15 : zrOf Tryd.prog 15 = some (.pointer none) := by kernel_rfl
theorem g16 : aggOf Tryd.prog 16 = some false := by kernel_rfl
theorem z16 : szOf Tryd.prog 16 = some 1 := by kernel_rfl
theorem by16 : byOf Tryd.prog 16 = some 8 := by kernel_rfl
theorem zr16 : zrOf Tryd.prog 16 = some (.pointer none) := by kernel_rfl
theorem g17 : aggOf Tryd.prog 17 = some false := by kernel_rfl
theorem z17 : szOf Tryd.prog 17 = some 1 := by kernel_rfl
theorem by17 : byOf Tryd.prog 17 = some 8 := by kernel_rfl
theorem zr17 : zrOf Tryd.prog 17 = some (.pointer none) := by kernel_rfl
theorem g18 : aggOf Tryd.prog 18 = some true := by kernel_rfl
theorem z18 : szOf Tryd.prog 18 = some 1 := by kernel_rfl
theorem by18 : byOf Tryd.prog 18 = some 8 := by kernel_rfl
theorem zr18 : zrOf Tryd.prog 18 = some (.agg [.pointer none].toArray) := by kernel_rfl
theorem g19 : aggOf Tryd.prog 19 = some true := by kernel_rfl
theorem z19 : szOf Tryd.prog 19 = some 1 := by kernel_rfl
theorem by19 : byOf Tryd.prog 19 = some 8 := by kernel_rfl
theorem zr19 : zrOf Tryd.prog 19 = some (.agg [.pointer none].toArray) := by kernel_rfl
theorem g20 : aggOf Tryd.prog 20 = some false := by kernel_rfl
theorem z20 : szOf Tryd.prog 20 = some 1 := by kernel_rfl
theorem by20 : byOf Tryd.prog 20 = some 16 := by kernel_rfl
theorem zr20 : zrOf Tryd.prog 20 = some (.nilIface) := by kernel_rfl
theorem g21 : aggOf Tryd.prog 21 = some false := by kernel_rfl
theorem z21 : szOf Tryd.prog 21 = some 1 := by kernel_rfl
theorem by21 : byOf Tryd.prog 21 = some 4 := by kernel_rfl
theorem zr21 : zrOf Tryd.prog 21 = some (.int .i32 (0)) := by kernel_rfl
theorem g22 : aggOf Tryd.prog 22 = some false := by kernel_rfl
theorem z22 : szOf Tryd.prog 22 = some 1 := by kernel_rfl
theorem by22 : byOf Tryd.prog 22 = some 24 := by kernel_rfl
theorem zr22 : zrOf Tryd.prog 22 = some (.slice none 0 0) := by kernel_rfl
theorem g23 : aggOf Tryd.prog 23 = some false := by kernel_rfl
theorem z23 : szOf Tryd.prog 23 = some 1 := by kernel_rfl
theorem by23 : byOf Tryd.prog 23 = some 8 := by kernel_rfl
theorem zr23 : zrOf Tryd.prog 23 = some (.nilFunc) := by kernel_rfl
theorem g24 : aggOf Tryd.prog 24 = some false := by kernel_rfl
theorem z24 : szOf Tryd.prog 24 = some 1 := by kernel_rfl
theorem by24 : byOf Tryd.prog 24 = some 8 := by kernel_rfl
theorem zr24 : zrOf Tryd.prog 24 = some (.nilFunc) := by kernel_rfl
theorem g25 : aggOf Tryd.prog 25 = some false := by kernel_rfl
theorem z25 : szOf Tryd.prog 25 = some 1 := by kernel_rfl
theorem by25 : byOf Tryd.prog 25 = some 8 := by kernel_rfl
theorem zr25 : zrOf Tryd.prog 25 = some (.pointer none) := by kernel_rfl
theorem g26 : aggOf Tryd.prog 26 = some false := by kernel_rfl
theorem z26 : szOf Tryd.prog 26 = some 1 := by kernel_rfl
theorem by26 : byOf Tryd.prog 26 = some 8 := by kernel_rfl
theorem zr26 : zrOf Tryd.prog 26 = some (.nilFunc) := by kernel_rfl
theorem g27 : aggOf Tryd.prog 27 = some false := by kernel_rfl
theorem z27 : szOf Tryd.prog 27 = some 1 := by kernel_rfl
theorem by27 : byOf Tryd.prog 27 = some 24 := by kernel_rfl
theorem zr27 : zrOf Tryd.prog 27 = some (.slice none 0 0) := by kernel_rfl
theorem g28 : aggOf Tryd.prog 28 = some true := by kernel_rfl
theorem z28 : szOf Tryd.prog 28 = some 1 := by kernel_rfl
theorem by28 : byOf Tryd.prog 28 = some 24 := by kernel_rfl
theorem zr28 : zrOf Tryd.prog 28 = some (.agg [.slice none 0 0].toArray) := by kernel_rfl
theorem g29 : aggOf Tryd.prog 29 = some true := by kernel_rfl
theorem z29 : szOf Tryd.prog 29 = some 1 := by kernel_rfl
theorem by29 : byOf Tryd.prog 29 = some 24 := by kernel_rfl
theorem zr29 : zrOf Tryd.prog 29 = some (.agg [.slice none 0 0].toArray) := by kernel_rfl
theorem g30 : aggOf Tryd.prog 30 = some false := by kernel_rfl
theorem z30 : szOf Tryd.prog 30 = some 1 := by kernel_rfl
theorem by30 : byOf Tryd.prog 30 = some 8 := by kernel_rfl
theorem zr30 : zrOf Tryd.prog 30 = some (.pointer none) := by kernel_rfl
theorem g31 : aggOf Tryd.prog 31 = some true := by kernel_rfl
theorem z31 : szOf Tryd.prog 31 = some 1 := by kernel_rfl
theorem by31 : byOf Tryd.prog 31 = some 24 := by kernel_rfl
theorem zr31 : zrOf Tryd.prog 31 = some (.agg [.slice none 0 0].toArray) := by kernel_rfl
theorem g32 : aggOf Tryd.prog 32 = some true := by kernel_rfl
theorem z32 : szOf Tryd.prog 32 = some 1 := by kernel_rfl
theorem by32 : byOf Tryd.prog 32 = some 24 := by kernel_rfl
theorem zr32 : zrOf Tryd.prog 32 = some (.agg [.slice none 0 0].toArray) := by kernel_rfl
theorem g33 : aggOf Tryd.prog 33 = some false := by kernel_rfl
theorem z33 : szOf Tryd.prog 33 = some 1 := by kernel_rfl
theorem by33 : byOf Tryd.prog 33 = some 8 := by kernel_rfl
theorem zr33 : zrOf Tryd.prog 33 = some (.nilFunc) := by kernel_rfl
theorem g34 : aggOf Tryd.prog 34 = some false := by kernel_rfl
theorem z34 : szOf Tryd.prog 34 = some 1 := by kernel_rfl
theorem by34 : byOf Tryd.prog 34 = some 4 := by kernel_rfl
theorem zr34 : zrOf Tryd.prog 34 = some (.int .u32 (0)) := by kernel_rfl
theorem g35 : aggOf Tryd.prog 35 = some true := by kernel_rfl
theorem z35 : szOf Tryd.prog 35 = some 4 := by kernel_rfl
theorem by35 : byOf Tryd.prog 35 = some 40 := by kernel_rfl
theorem zr35 : zrOf Tryd.prog 35 = some (.agg [.bool false, .int .u32 (0), .string ⟨#[]⟩, .string ⟨#[]⟩].toArray) := by kernel_rfl
theorem g36 : aggOf Tryd.prog 36 = some true := by kernel_rfl
theorem z36 : szOf Tryd.prog 36 = some 4 := by kernel_rfl
theorem by36 : byOf Tryd.prog 36 = some 40 := by kernel_rfl
theorem zr36 : zrOf Tryd.prog 36 = some (.agg [.bool false, .int .u32 (0), .string ⟨#[]⟩, .string ⟨#[]⟩].toArray) := by kernel_rfl
theorem g37 : aggOf Tryd.prog 37 = some true := by kernel_rfl
theorem z37 : szOf Tryd.prog 37 = some 7 := by kernel_rfl
theorem by37 : byOf Tryd.prog 37 = some 64 := by kernel_rfl
theorem zr37 : zrOf Tryd.prog 37 = some (.agg [.int .i64 (0), .int .u32 (0), .bool false, .int .u32 (0), .string ⟨#[]⟩, .string ⟨#[]⟩, .int .i64 (0)].toArray) := by kernel_rfl
theorem g38 : aggOf Tryd.prog 38 = some true := by kernel_rfl
theorem z38 : szOf Tryd.prog 38 = some 7 := by kernel_rfl
theorem by38 : byOf Tryd.prog 38 = some 64 := by kernel_rfl
theorem zr38 : zrOf Tryd.prog 38 = some (.agg [.int .i64 (0), .int .u32 (0), .bool false, .int .u32 (0), .string ⟨#[]⟩, .string ⟨#[]⟩, .int .i64 (0)].toArray) := by kernel_rfl
theorem g39 : aggOf Tryd.prog 39 = some false := by kernel_rfl
theorem z39 : szOf Tryd.prog 39 = some 1 := by kernel_rfl
theorem by39 : byOf Tryd.prog 39 = some 8 := by kernel_rfl
theorem zr39 : zrOf Tryd.prog 39 = some (.nilFunc) := by kernel_rfl
theorem g40 : aggOf Tryd.prog 40 = some false := by kernel_rfl
theorem z40 : szOf Tryd.prog 40 = some 1 := by kernel_rfl
theorem by40 : byOf Tryd.prog 40 = some 24 := by kernel_rfl
theorem zr40 : zrOf Tryd.prog 40 = some (.slice none 0 0) := by kernel_rfl
theorem g41 : aggOf Tryd.prog 41 = some false := by kernel_rfl
theorem z41 : szOf Tryd.prog 41 = some 1 := by kernel_rfl
theorem by41 : byOf Tryd.prog 41 = some 8 := by kernel_rfl
theorem zr41 : zrOf Tryd.prog 41 = some (.nilFunc) := by kernel_rfl
theorem g42 : aggOf Tryd.prog 42 = some false := by kernel_rfl
theorem z42 : szOf Tryd.prog 42 = some 1 := by kernel_rfl
theorem by42 : byOf Tryd.prog 42 = some 8 := by kernel_rfl
theorem zr42 : zrOf Tryd.prog 42 = some (.nilFunc) := by kernel_rfl
theorem g43 : aggOf Tryd.prog 43 = some false := by kernel_rfl
theorem z43 : szOf Tryd.prog 43 = some 1 := by kernel_rfl
theorem by43 : byOf Tryd.prog 43 = some 8 := by kernel_rfl
theorem zr43 : zrOf Tryd.prog 43 = some (.nilFunc) := by kernel_rfl
theorem g44 : aggOf Tryd.prog 44 = some false := by kernel_rfl
theorem z44 : szOf Tryd.prog 44 = some 1 := by kernel_rfl
theorem by44 : byOf Tryd.prog 44 = some 8 := by kernel_rfl
theorem zr44 : zrOf Tryd.prog 44 = some (.nilFunc) := by kernel_rfl
theorem g45 : aggOf Tryd.prog 45 = some true := by kernel_rfl
theorem z45 : szOf Tryd.prog 45 = some 7 := by kernel_rfl
theorem by45 : byOf Tryd.prog 45 = some 64 := by kernel_rfl
theorem zr45 : zrOf Tryd.prog 45 = some (.agg [.int .u32 (0), .bool false, .int .u32 (0), .string ⟨#[]⟩, .string ⟨#[]⟩, .int .i64 (0), .bool false].toArray) := by kernel_rfl
theorem g46 : aggOf Tryd.prog 46 = some true := by kernel_rfl
theorem z46 : szOf Tryd.prog 46 = some 7 := by kernel_rfl
theorem by46 : byOf Tryd.prog 46 = some 64 := by kernel_rfl
theorem zr46 : zrOf Tryd.prog 46 = some (.agg [.int .u32 (0), .bool false, .int .u32 (0), .string ⟨#[]⟩, .string ⟨#[]⟩, .int .i64 (0), .bool false].toArray) := by kernel_rfl
theorem g47 : aggOf Tryd.prog 47 = some true := by kernel_rfl
theorem z47 : szOf Tryd.prog 47 = some 2 := by kernel_rfl
theorem by47 : byOf Tryd.prog 47 = some 8 := by kernel_rfl
theorem zr47 : zrOf Tryd.prog 47 = some (.agg [.int .u32 (0), .int .u32 (0)].toArray) := by kernel_rfl
theorem g48 : aggOf Tryd.prog 48 = some false := by kernel_rfl
theorem z48 : szOf Tryd.prog 48 = some 1 := by kernel_rfl
theorem by48 : byOf Tryd.prog 48 = some 8 := by kernel_rfl
theorem zr48 : zrOf Tryd.prog 48 = some (.nilFunc) := by kernel_rfl
theorem g49 : aggOf Tryd.prog 49 = some false := by kernel_rfl
theorem z49 : szOf Tryd.prog 49 = some 1 := by kernel_rfl
theorem by49 : byOf Tryd.prog 49 = some 24 := by kernel_rfl
theorem zr49 : zrOf Tryd.prog 49 = some (.slice none 0 0) := by kernel_rfl
theorem g50 : aggOf Tryd.prog 50 = some false := by kernel_rfl
theorem z50 : szOf Tryd.prog 50 = some 1 := by kernel_rfl
theorem by50 : byOf Tryd.prog 50 = some 8 := by kernel_rfl
theorem zr50 : zrOf Tryd.prog 50 = some (.nilFunc) := by kernel_rfl
theorem g51 : aggOf Tryd.prog 51 = some false := by kernel_rfl
theorem z51 : szOf Tryd.prog 51 = some 1 := by kernel_rfl
theorem by51 : byOf Tryd.prog 51 = some 8 := by kernel_rfl
theorem zr51 : zrOf Tryd.prog 51 = some (.int .i64 (0)) := by kernel_rfl
theorem g53 : aggOf Tryd.prog 53 = some false := by kernel_rfl
theorem z53 : szOf Tryd.prog 53 = some 1 := by kernel_rfl
theorem by53 : byOf Tryd.prog 53 = some 8 := by kernel_rfl
theorem zr53 : zrOf Tryd.prog 53 = some (.nilFunc) := by kernel_rfl
theorem g56 : aggOf Tryd.prog 56 = some false := by kernel_rfl
theorem z56 : szOf Tryd.prog 56 = some 1 := by kernel_rfl
theorem by56 : byOf Tryd.prog 56 = some 8 := by kernel_rfl
theorem zr56 : zrOf Tryd.prog 56 = some (.nilFunc) := by kernel_rfl
theorem g58 : aggOf Tryd.prog 58 = some false := by kernel_rfl
theorem z58 : szOf Tryd.prog 58 = some 1 := by kernel_rfl
theorem by58 : byOf Tryd.prog 58 = some 8 := by kernel_rfl
theorem zr58 : zrOf Tryd.prog 58 = some (.nilFunc) := by kernel_rfl
theorem g59 : aggOf Tryd.prog 59 = some false := by kernel_rfl
theorem z59 : szOf Tryd.prog 59 = some 1 := by kernel_rfl
theorem by59 : byOf Tryd.prog 59 = some 8 := by kernel_rfl
theorem zr59 : zrOf Tryd.prog 59 = some (.nilFunc) := by kernel_rfl
theorem g60 : aggOf Tryd.prog 60 = some false := by kernel_rfl
theorem z60 : szOf Tryd.prog 60 = some 1 := by kernel_rfl
theorem by60 : byOf Tryd.prog 60 = some 8 := by kernel_rfl
theorem zr60 : zrOf Tryd.prog 60 = some (.nilFunc) := by kernel_rfl
theorem g61 : aggOf Tryd.prog 61 = some false := by kernel_rfl
theorem z61 : szOf Tryd.prog 61 = some 1 := by kernel_rfl
theorem by61 : byOf Tryd.prog 61 = some 8 := by kernel_rfl
theorem zr61 : zrOf Tryd.prog 61 = some (.nilFunc) := by kernel_rfl
theorem g62 : aggOf Tryd.prog 62 = some false := by kernel_rfl
theorem z62 : szOf Tryd.prog 62 = some 1 := by kernel_rfl
theorem by62 : byOf Tryd.prog 62 = some 8 := by kernel_rfl
theorem zr62 : zrOf Tryd.prog 62 = some (.nilFunc) := by kernel_rfl
theorem g63 : aggOf Tryd.prog 63 = some false := by kernel_rfl
theorem z63 : szOf Tryd.prog 63 = some 1 := by kernel_rfl
theorem by63 : byOf Tryd.prog 63 = some 8 := by kernel_rfl
theorem zr63 : zrOf Tryd.prog 63 = some (.nilFunc) := by kernel_rfl
theorem g64 : aggOf Tryd.prog 64 = some false := by kernel_rfl
theorem z64 : szOf Tryd.prog 64 = some 1 := by kernel_rfl
theorem by64 : byOf Tryd.prog 64 = some 8 := by kernel_rfl
theorem zr64 : zrOf Tryd.prog 64 = some (.nilFunc) := by kernel_rfl
theorem g65 : aggOf Tryd.prog 65 = some false := by kernel_rfl
theorem z65 : szOf Tryd.prog 65 = some 1 := by kernel_rfl
theorem by65 : byOf Tryd.prog 65 = some 8 := by kernel_rfl
theorem zr65 : zrOf Tryd.prog 65 = some (.nilFunc) := by kernel_rfl
theorem g66 : aggOf Tryd.prog 66 = some false := by kernel_rfl
theorem z66 : szOf Tryd.prog 66 = some 1 := by kernel_rfl
theorem by66 : byOf Tryd.prog 66 = some 8 := by kernel_rfl
theorem zr66 : zrOf Tryd.prog 66 = some (.nilFunc) := by kernel_rfl
theorem g67 : aggOf Tryd.prog 67 = some false := by kernel_rfl
theorem z67 : szOf Tryd.prog 67 = some 1 := by kernel_rfl
theorem by67 : byOf Tryd.prog 67 = some 8 := by kernel_rfl
theorem zr67 : zrOf Tryd.prog 67 = some (.nilFunc) := by kernel_rfl
theorem g68 : aggOf Tryd.prog 68 = some false := by kernel_rfl
theorem z68 : szOf Tryd.prog 68 = some 1 := by kernel_rfl
theorem by68 : byOf Tryd.prog 68 = some 8 := by kernel_rfl
theorem zr68 : zrOf Tryd.prog 68 = some (.map none) := by kernel_rfl
theorem g69 : aggOf Tryd.prog 69 = some false := by kernel_rfl
theorem z69 : szOf Tryd.prog 69 = some 1 := by kernel_rfl
theorem by69 : byOf Tryd.prog 69 = some 8 := by kernel_rfl
theorem zr69 : zrOf Tryd.prog 69 = some (.map none) := by kernel_rfl
theorem g70 : aggOf Tryd.prog 70 = some false := by kernel_rfl
theorem z70 : szOf Tryd.prog 70 = some 1 := by kernel_rfl
theorem by70 : byOf Tryd.prog 70 = some 8 := by kernel_rfl
theorem zr70 : zrOf Tryd.prog 70 = some (.nilFunc) := by kernel_rfl
theorem g72 : aggOf Tryd.prog 72 = some false := by kernel_rfl
theorem z72 : szOf Tryd.prog 72 = some 1 := by kernel_rfl
theorem by72 : byOf Tryd.prog 72 = some 8 := by kernel_rfl
theorem zr72 : zrOf Tryd.prog 72 = some (.nilFunc) := by kernel_rfl
theorem g73 : aggOf Tryd.prog 73 = some false := by kernel_rfl
theorem z73 : szOf Tryd.prog 73 = some 1 := by kernel_rfl
theorem by73 : byOf Tryd.prog 73 = some 8 := by kernel_rfl
theorem zr73 : zrOf Tryd.prog 73 = some (.nilFunc) := by kernel_rfl
theorem g75 : aggOf Tryd.prog 75 = some false := by kernel_rfl
theorem z75 : szOf Tryd.prog 75 = some 1 := by kernel_rfl
theorem by75 : byOf Tryd.prog 75 = some 8 := by kernel_rfl
theorem zr75 : zrOf Tryd.prog 75 = some (.nilFunc) := by kernel_rfl
theorem g76 : aggOf Tryd.prog 76 = some true := by kernel_rfl
theorem z76 : szOf Tryd.prog 76 = some 5 := by kernel_rfl
theorem by76 : byOf Tryd.prog 76 = some 5 := by kernel_rfl
theorem zr76 : zrOf Tryd.prog 76 = some (.agg [.int .u8 (0), .int .u8 (0), .int .u8 (0), .int .u8 (0), .int .u8 (0)].toArray) := by kernel_rfl
theorem g77 : aggOf Tryd.prog 77 = some false := by kernel_rfl
theorem z77 : szOf Tryd.prog 77 = some 1 := by kernel_rfl
theorem by77 : byOf Tryd.prog 77 = some 8 := by kernel_rfl
theorem zr77 : zrOf Tryd.prog 77 = some (.nilFunc) := by kernel_rfl
theorem g82 : aggOf Tryd.prog 82 = some false := by kernel_rfl
theorem z82 : szOf Tryd.prog 82 = some 1 := by kernel_rfl
theorem by82 : byOf Tryd.prog 82 = some 8 := by kernel_rfl
theorem zr82 : zrOf Tryd.prog 82 = some (.int .u64 (0)) := by kernel_rfl
theorem g83 : aggOf Tryd.prog 83 = some false := by kernel_rfl
theorem z83 : szOf Tryd.prog 83 = some 1 := by kernel_rfl
theorem by83 : byOf Tryd.prog 83 = some 24 := by kernel_rfl
theorem zr83 : zrOf Tryd.prog 83 = some (.slice none 0 0) := by kernel_rfl
theorem g84 : aggOf Tryd.prog 84 = some false := by kernel_rfl
theorem z84 : szOf Tryd.prog 84 = some 1 := by kernel_rfl
theorem by84 : byOf Tryd.prog 84 = some 8 := by kernel_rfl
theorem zr84 : zrOf Tryd.prog 84 = some (.nilFunc) := by kernel_rfl
theorem g86 : aggOf Tryd.prog 86 = some false := by kernel_rfl
theorem z86 : szOf Tryd.prog 86 = some 1 := by kernel_rfl
theorem by86 : byOf Tryd.prog 86 = some 8 := by kernel_rfl
theorem zr86 : zrOf Tryd.prog 86 = some (.nilFunc) := by kernel_rfl
theorem g87 : aggOf Tryd.prog 87 = some false := by kernel_rfl
theorem z87 : szOf Tryd.prog 87 = some 1 := by kernel_rfl
theorem by87 : byOf Tryd.prog 87 = some 8 := by kernel_rfl
theorem zr87 : zrOf Tryd.prog 87 = some (.nilFunc) := by kernel_rfl
theorem g88 : aggOf Tryd.prog 88 = some false := by kernel_rfl
theorem z88 : szOf Tryd.prog 88 = some 1 := by kernel_rfl
theorem by88 : byOf Tryd.prog 88 = some 8 := by kernel_rfl
theorem zr88 : zrOf Tryd.prog 88 = some (.int .i64 (0)) := by kernel_rfl
theorem g90 : aggOf Tryd.prog 90 = some false := by kernel_rfl
theorem z90 : szOf Tryd.prog 90 = some 1 := by kernel_rfl
theorem by90 : byOf Tryd.prog 90 = some 8 := by kernel_rfl
theorem zr90 : zrOf Tryd.prog 90 = some (.nilFunc) := by kernel_rfl
theorem g91 : aggOf Tryd.prog 91 = some false := by kernel_rfl
theorem z91 : szOf Tryd.prog 91 = some 1 := by kernel_rfl
theorem by91 : byOf Tryd.prog 91 = some 8 := by kernel_rfl
theorem zr91 : zrOf Tryd.prog 91 = some (.nilFunc) := by kernel_rfl
theorem g94 : aggOf Tryd.prog 94 = some false := by kernel_rfl
theorem z94 : szOf Tryd.prog 94 = some 1 := by kernel_rfl
theorem by94 : byOf Tryd.prog 94 = some 8 := by kernel_rfl
theorem zr94 : zrOf Tryd.prog 94 = some (.nilFunc) := by kernel_rfl
theorem g97 : aggOf Tryd.prog 97 = some false := by kernel_rfl
theorem z97 : szOf Tryd.prog 97 = some 1 := by kernel_rfl
theorem by97 : byOf Tryd.prog 97 = some 8 := by kernel_rfl
theorem zr97 : zrOf Tryd.prog 97 = some (.int .u64 (0)) := by kernel_rfl
theorem g98 : aggOf Tryd.prog 98 = some false := by kernel_rfl
theorem z98 : szOf Tryd.prog 98 = some 1 := by kernel_rfl
theorem by98 : byOf Tryd.prog 98 = some 8 := by kernel_rfl
theorem zr98 : zrOf Tryd.prog 98 = some (.int .u64 (0)) := by kernel_rfl
theorem g100 : aggOf Tryd.prog 100 = some false := by kernel_rfl
theorem z100 : szOf Tryd.prog 100 = some 1 := by kernel_rfl
theorem by100 : byOf Tryd.prog 100 = some 8 := by kernel_rfl
theorem zr100 : zrOf Tryd.prog 100 = some (.nilFunc) := by kernel_rfl
theorem g102 : aggOf Tryd.prog 102 = some false := by kernel_rfl
theorem z102 : szOf Tryd.prog 102 = some 1 := by kernel_rfl
theorem by102 : byOf Tryd.prog 102 = some 8 := by kernel_rfl
theorem zr102 : zrOf Tryd.prog 102 = some (.pointer none) := by kernel_rfl
theorem g104 : aggOf Tryd.prog 104 = some false := by kernel_rfl
theorem z104 : szOf Tryd.prog 104 = some 1 := by kernel_rfl
theorem by104 : byOf Tryd.prog 104 = some 8 := by kernel_rfl
theorem zr104 : zrOf Tryd.prog 104 = some (.pointer none) := by kernel_rfl
theorem g109 : aggOf Tryd.prog 109 = some true := by kernel_rfl
theorem z109 : szOf Tryd.prog 109 = some 4 := by kernel_rfl
theorem by109 : byOf Tryd.prog 109 = some 40 := by kernel_rfl
theorem zr109 : zrOf Tryd.prog 109 = some (.agg [.pointer none, .pointer none, .pointer none, .string ⟨#[]⟩].toArray) := by kernel_rfl
theorem g110 : aggOf Tryd.prog 110 = some true := by kernel_rfl
theorem z110 : szOf Tryd.prog 110 = some 0 := by kernel_rfl
theorem by110 : byOf Tryd.prog 110 = some 0 := by kernel_rfl
theorem zr110 : zrOf Tryd.prog 110 = some (.agg [].toArray) := by kernel_rfl
theorem g112 : aggOf Tryd.prog 112 = some true := by kernel_rfl
theorem z112 : szOf Tryd.prog 112 = some 0 := by kernel_rfl
theorem by112 : byOf Tryd.prog 112 = some 0 := by kernel_rfl
theorem zr112 : zrOf Tryd.prog 112 = some (.agg [].toArray) := by kernel_rfl
theorem g114 : aggOf Tryd.prog 114 = some false := by kernel_rfl
theorem z114 : szOf Tryd.prog 114 = some 1 := by kernel_rfl
theorem by114 : byOf Tryd.prog 114 = some 1 := by kernel_rfl
theorem zr114 : zrOf Tryd.prog 114 = some (.int .u8 (0)) := by kernel_rfl
theorem g118 : aggOf Tryd.prog 118 = some false := by kernel_rfl
theorem z118 : szOf Tryd.prog 118 = some 1 := by kernel_rfl
theorem by118 : byOf Tryd.prog 118 = some 4 := by kernel_rfl
theorem zr118 : zrOf Tryd.prog 118 = some (.int .i32 (0)) := by kernel_rfl
theorem fo29_0 : fldOff Tryd.prog 29 0 = some (0, 27, 1) := by kernel_rfl
theorem fo32_0 : fldOff Tryd.prog 32 0 = some (0, 27, 1) := by kernel_rfl
theorem fo36_0 : fldOff Tryd.prog 36 0 = some (0, 4, 1) := by kernel_rfl
theorem fo36_1 : fldOff Tryd.prog 36 1 = some (1, 34, 1) := by kernel_rfl
theorem fo36_2 : fldOff Tryd.prog 36 2 = some (2, 9, 1) := by kernel_rfl
theorem fo36_3 : fldOff Tryd.prog 36 3 = some (3, 9, 1) := by kernel_rfl
theorem fo38_0 : fldOff Tryd.prog 38 0 = some (0, 3, 1) := by kernel_rfl
theorem fo38_1 : fldOff Tryd.prog 38 1 = some (1, 34, 1) := by kernel_rfl
theorem fo38_2 : fldOff Tryd.prog 38 2 = some (2, 36, 4) := by kernel_rfl
theorem fo38_3 : fldOff Tryd.prog 38 3 = some (6, 3, 1) := by kernel_rfl
theorem fo46_0 : fldOff Tryd.prog 46 0 = some (0, 34, 1) := by kernel_rfl
theorem fo46_1 : fldOff Tryd.prog 46 1 = some (1, 36, 4) := by kernel_rfl
theorem fo46_2 : fldOff Tryd.prog 46 2 = some (5, 3, 1) := by kernel_rfl
theorem fo46_3 : fldOff Tryd.prog 46 3 = some (6, 4, 1) := by kernel_rfl
theorem pl29 : placesOf Tryd.prog 29 = some [(0, 1)] := by kernel_rfl
theorem pl32 : placesOf Tryd.prog 32 = some [(0, 1)] := by kernel_rfl
theorem pl36 : placesOf Tryd.prog 36 = some [(0, 1), (1, 1), (2, 1), (3, 1)] := by kernel_rfl
theorem pl46 : placesOf Tryd.prog 46 = some [(0, 1), (1, 4), (5, 1), (6, 1)] := by kernel_rfl
theorem cal3 : Callable Tryd.prog 3 := callable_of Tryd.func3 rfl (by kernel_rfl)
theorem cal4 : Callable Tryd.prog 4 := callable_of Tryd.func4 rfl (by kernel_rfl)
theorem cal5 : Callable Tryd.prog 5 := callable_of Tryd.func5 rfl (by kernel_rfl)
theorem cal6 : Callable Tryd.prog 6 := callable_of Tryd.func6 rfl (by kernel_rfl)
theorem cal7 : Callable Tryd.prog 7 := callable_of Tryd.func7 rfl (by kernel_rfl)
theorem cal8 : Callable Tryd.prog 8 := callable_of Tryd.func8 rfl (by kernel_rfl)
theorem cal9 : Callable Tryd.prog 9 := callable_of Tryd.func9 rfl (by kernel_rfl)
theorem cal10 : Callable Tryd.prog 10 := callable_of Tryd.func10 rfl (by kernel_rfl)
theorem cal11 : Callable Tryd.prog 11 := callable_of Tryd.func11 rfl (by kernel_rfl)
theorem cal12 : Callable Tryd.prog 12 := callable_of Tryd.func12 rfl (by kernel_rfl)
theorem cal13 : Callable Tryd.prog 13 := callable_of Tryd.func13 rfl (by kernel_rfl)
theorem cal14 : Callable Tryd.prog 14 := callable_of Tryd.func14 rfl (by kernel_rfl)
theorem cal15 : Callable Tryd.prog 15 := callable_of Tryd.func15 rfl (by kernel_rfl)
theorem cal16 : Callable Tryd.prog 16 := callable_of Tryd.func16 rfl (by kernel_rfl)
theorem cal17 : Callable Tryd.prog 17 := callable_of Tryd.func17 rfl (by kernel_rfl)
theorem cal18 : Callable Tryd.prog 18 := callable_of Tryd.func18 rfl (by kernel_rfl)
theorem cal19 : Callable Tryd.prog 19 := callable_of Tryd.func19 rfl (by kernel_rfl)
theorem cal20 : Callable Tryd.prog 20 := callable_of Tryd.func20 rfl (by kernel_rfl)
theorem cal21 : Callable Tryd.prog 21 := callable_of Tryd.func21 rfl (by kernel_rfl)
theorem cal22 : Callable Tryd.prog 22 := callable_of Tryd.func22 rfl (by kernel_rfl)
theorem cal23 : Callable Tryd.prog 23 := callable_of Tryd.func23 rfl (by kernel_rfl)
theorem cal24 : Callable Tryd.prog 24 := callable_of Tryd.func24 rfl (by kernel_rfl)
theorem cal25 : Callable Tryd.prog 25 := callable_of Tryd.func25 rfl (by kernel_rfl)
theorem cal26 : Callable Tryd.prog 26 := callable_of Tryd.func26 rfl (by kernel_rfl)
theorem cal27 : Callable Tryd.prog 27 := callable_of Tryd.func27 rfl (by kernel_rfl)
theorem cal28 : Callable Tryd.prog 28 := callable_of Tryd.func28 rfl (by kernel_rfl)
theorem cal29 : Callable Tryd.prog 29 := callable_of Tryd.func29 rfl (by kernel_rfl)
theorem cal30 : Callable Tryd.prog 30 := callable_of Tryd.func30 rfl (by kernel_rfl)
theorem cal31 : Callable Tryd.prog 31 := callable_of Tryd.func31 rfl (by kernel_rfl)
theorem cal32 : Callable Tryd.prog 32 := callable_of Tryd.func32 rfl (by kernel_rfl)
theorem cal33 : Callable Tryd.prog 33 := callable_of Tryd.func33 rfl (by kernel_rfl)
theorem cal34 : Callable Tryd.prog 34 := callable_of Tryd.func34 rfl (by kernel_rfl)
theorem cal35 : Callable Tryd.prog 35 := callable_of Tryd.func35 rfl (by kernel_rfl)
theorem cal36 : Callable Tryd.prog 36 := callable_of Tryd.func36 rfl (by kernel_rfl)
theorem cal37 : Callable Tryd.prog 37 := callable_of Tryd.func37 rfl (by kernel_rfl)
theorem cal38 : Callable Tryd.prog 38 := callable_of Tryd.func38 rfl (by kernel_rfl)
theorem cal39 : Callable Tryd.prog 39 := callable_of Tryd.func39 rfl (by kernel_rfl)
theorem cal40 : Callable Tryd.prog 40 := callable_of Tryd.func40 rfl (by kernel_rfl)
theorem cal41 : Callable Tryd.prog 41 := callable_of Tryd.func41 rfl (by kernel_rfl)
theorem cal42 : Callable Tryd.prog 42 := callable_of Tryd.func42 rfl (by kernel_rfl)
theorem cal43 : Callable Tryd.prog 43 := callable_of Tryd.func43 rfl (by kernel_rfl)
theorem cal44 : Callable Tryd.prog 44 := callable_of Tryd.func44 rfl (by kernel_rfl)
theorem cal45 : Callable Tryd.prog 45 := callable_of Tryd.func45 rfl (by kernel_rfl)
theorem cal46 : Callable Tryd.prog 46 := callable_of Tryd.func46 rfl (by kernel_rfl)
theorem cal47 : Callable Tryd.prog 47 := callable_of Tryd.func47 rfl (by kernel_rfl)
theorem cal48 : Callable Tryd.prog 48 := callable_of Tryd.func48 rfl (by kernel_rfl)
theorem cal49 : Callable Tryd.prog 49 := callable_of Tryd.func49 rfl (by kernel_rfl)
theorem cal50 : Callable Tryd.prog 50 := callable_of Tryd.func50 rfl (by kernel_rfl)
theorem cal51 : Callable Tryd.prog 51 := callable_of Tryd.func51 rfl (by kernel_rfl)
theorem cal52 : Callable Tryd.prog 52 := callable_of Tryd.func52 rfl (by kernel_rfl)
theorem cal53 : Callable Tryd.prog 53 := callable_of Tryd.func53 rfl (by kernel_rfl)
theorem cal54 : Callable Tryd.prog 54 := callable_of Tryd.func54 rfl (by kernel_rfl)
theorem cal55 : Callable Tryd.prog 55 := callable_of Tryd.func55 rfl (by kernel_rfl)
theorem cal56 : Callable Tryd.prog 56 := callable_of Tryd.func56 rfl (by kernel_rfl)
theorem cal57 : Callable Tryd.prog 57 := callable_of Tryd.func57 rfl (by kernel_rfl)
theorem cal58 : Callable Tryd.prog 58 := callable_of Tryd.func58 rfl (by kernel_rfl)
theorem cal59 : Callable Tryd.prog 59 := callable_of Tryd.func59 rfl (by kernel_rfl)
theorem cal60 : Callable Tryd.prog 60 := callable_of Tryd.func60 rfl (by kernel_rfl)
theorem cal61 : Callable Tryd.prog 61 := callable_of Tryd.func61 rfl (by kernel_rfl)
theorem cal62 : Callable Tryd.prog 62 := callable_of Tryd.func62 rfl (by kernel_rfl)
theorem cal63 : Callable Tryd.prog 63 := callable_of Tryd.func63 rfl (by kernel_rfl)
theorem cal64 : Callable Tryd.prog 64 := callable_of Tryd.func64 rfl (by kernel_rfl)
theorem cal65 : Callable Tryd.prog 65 := callable_of Tryd.func65 rfl (by kernel_rfl)
theorem cal66 : Callable Tryd.prog 66 := callable_of Tryd.func66 rfl (by kernel_rfl)
theorem cal67 : Callable Tryd.prog 67 := callable_of Tryd.func67 rfl (by kernel_rfl)
theorem cal68 : Callable Tryd.prog 68 := callable_of Tryd.func68 rfl (by kernel_rfl)
theorem cal69 : Callable Tryd.prog 69 := callable_of Tryd.func69 rfl (by kernel_rfl)
theorem cal70 : Callable Tryd.prog 70 := callable_of Tryd.func70 rfl (by kernel_rfl)
theorem cal71 : Callable Tryd.prog 71 := callable_of Tryd.func71 rfl (by kernel_rfl)
theorem cal72 : Callable Tryd.prog 72 := callable_of Tryd.func72 rfl (by kernel_rfl)
theorem cal73 : Callable Tryd.prog 73 := callable_of Tryd.func73 rfl (by kernel_rfl)
theorem cal74 : Callable Tryd.prog 74 := callable_of Tryd.func74 rfl (by kernel_rfl)
theorem cal75 : Callable Tryd.prog 75 := callable_of Tryd.func75 rfl (by kernel_rfl)
theorem cal76 : Callable Tryd.prog 76 := callable_of Tryd.func76 rfl (by kernel_rfl)
theorem cal98 : Callable Tryd.prog 98 := callable_of Tryd.func98 rfl (by kernel_rfl)
def undL : List (Nat × TypeDesc) := [(2, .int .i64), (3, .int .i64), (4, .bool), (5, .int .u8), (6, .int .u8), (9, .string), (10, .string), (11, .string), (12, .int .u64), (15, .pointer 109), (16, .pointer 112), (17, .pointer 121), (21, .int .i32), (22, .slice 38), (25, .pointer 29), (27, .slice 46), (30, .pointer 32), (34, .int .u32), (40, .slice 47), (47, .array 2 34), (49, .slice 34), (51, .int .i64), (76, .array 5 5), (82, .int .u64), (83, .slice 3), (88, .int .i64), (97, .int .u64), (98, .int .u64), (102, .pointer 3), (104, .pointer 98), (110, .array 0 16), (114, .int .u8), (118, .int .i32)]
theorem und {t : TypeId} {x : TypeDesc} (h : lkL undL t = some x) : Tryd.prog.underlying t = some x := look (f := Tryd.prog.underlying) undL ⟨Tryd.underlying2, Tryd.underlying3, Tryd.underlying4, Tryd.underlying5, Tryd.underlying6, Tryd.underlying9, Tryd.underlying10, Tryd.underlying11, Tryd.underlying12, Tryd.underlying15, Tryd.underlying16, Tryd.underlying17, Tryd.underlying21, Tryd.underlying22, Tryd.underlying25, Tryd.underlying27, Tryd.underlying30, Tryd.underlying34, Tryd.underlying40, Tryd.underlying47, Tryd.underlying49, Tryd.underlying51, Tryd.underlying76, Tryd.underlying82, Tryd.underlying83, Tryd.underlying88, Tryd.underlying97, Tryd.underlying98, Tryd.underlying102, Tryd.underlying104, Tryd.underlying110, Tryd.underlying114, Tryd.underlying118, trivial⟩ h
theorem fl36 : flatD Tryd.prog 36 = some [.bool, .int .u32, .string, .string] := by kernel_rfl
def flatL : List (Nat × List TypeDesc) := [(36, [.bool, .int .u32, .string, .string])]
theorem flat {t : TypeId} {x : List TypeDesc} (h : lkL flatL t = some x) : flatD Tryd.prog t = some x := look (f := flatD Tryd.prog) flatL ⟨fl36, trivial⟩ h
def aggL : List (Nat × Bool) := [(1, false), (2, false), (3, false), (4, false), (5, false), (6, false), (7, true), (8, true), (9, false), (10, false), (11, false), (12, false), (13, true), (14, true), (15, false), (16, false), (17, false), (18, true), (19, true), (20, false), (21, false), (22, false), (23, false), (24, false), (25, false), (26, false), (27, false), (28, true), (29, true), (30, false), (31, true), (32, true), (33, false), (34, false), (35, true), (36, true), (37, true), (38, true), (39, false), (40, false), (41, false), (42, false), (43, false), (44, false), (45, true), (46, true), (47, true), (48, false), (49, false), (50, false), (51, false), (53, false), (56, false), (58, false), (59, false), (60, false), (61, false), (62, false), (63, false), (64, false), (65, false), (66, false), (67, false), (68, false), (69, false), (70, false), (72, false), (73, false), (75, false), (76, true), (77, false), (82, false), (83, false), (84, false), (86, false), (87, false), (88, false), (90, false), (91, false), (94, false), (97, false), (98, false), (100, false), (102, false), (104, false), (109, true), (110, true), (112, true), (114, false), (118, false)]
theorem agg {t : TypeId} {x : Bool} (h : lkL aggL t = some x) : aggOf Tryd.prog t = some x := look (f := aggOf Tryd.prog) aggL ⟨g1, g2, g3, g4, g5, g6, g7, g8, g9, g10, g11, g12, g13, g14, g15, g16, g17, g18, g19, g20, g21, g22, g23, g24, g25, g26, g27, g28, g29, g30, g31, g32, g33, g34, g35, g36, g37, g38, g39, g40, g41, g42, g43, g44, g45, g46, g47, g48, g49, g50, g51, g53, g56, g58, g59, g60, g61, g62, g63, g64, g65, g66, g67, g68, g69, g70, g72, g73, g75, g76, g77, g82, g83, g84, g86, g87, g88, g90, g91, g94, g97, g98, g100, g102, g104, g109, g110, g112, g114, g118, trivial⟩ h
def szL : List (Nat × Nat) := [(1, 1), (2, 1), (3, 1), (4, 1), (5, 1), (6, 1), (7, 4), (8, 4), (9, 1), (10, 1), (11, 1), (12, 1), (13, 2), (14, 2), (15, 1), (16, 1), (17, 1), (18, 1), (19, 1), (20, 1), (21, 1), (22, 1), (23, 1), (24, 1), (25, 1), (26, 1), (27, 1), (28, 1), (29, 1), (30, 1), (31, 1), (32, 1), (33, 1), (34, 1), (35, 4), (36, 4), (37, 7), (38, 7), (39, 1), (40, 1), (41, 1), (42, 1), (43, 1), (44, 1), (45, 7), (46, 7), (47, 2), (48, 1), (49, 1), (50, 1), (51, 1), (53, 1), (56, 1), (58, 1), (59, 1), (60, 1), (61, 1), (62, 1), (63, 1), (64, 1), (65, 1), (66, 1), (67, 1), (68, 1), (69, 1), (70, 1), (72, 1), (73, 1), (75, 1), (76, 5), (77, 1), (82, 1), (83, 1), (84, 1), (86, 1), (87, 1), (88, 1), (90, 1), (91, 1), (94, 1), (97, 1), (98, 1), (100, 1), (102, 1), (104, 1), (109, 4), (110, 0), (112, 0), (114, 1), (118, 1)]
theorem sz {t : TypeId} {x : Nat} (h : lkL szL t = some x) : szOf Tryd.prog t = some x := look (f := szOf Tryd.prog) szL ⟨z1, z2, z3, z4, z5, z6, z7, z8, z9, z10, z11, z12, z13, z14, z15, z16, z17, z18, z19, z20, z21, z22, z23, z24, z25, z26, z27, z28, z29, z30, z31, z32, z33, z34, z35, z36, z37, z38, z39, z40, z41, z42, z43, z44, z45, z46, z47, z48, z49, z50, z51, z53, z56, z58, z59, z60, z61, z62, z63, z64, z65, z66, z67, z68, z69, z70, z72, z73, z75, z76, z77, z82, z83, z84, z86, z87, z88, z90, z91, z94, z97, z98, z100, z102, z104, z109, z110, z112, z114, z118, trivial⟩ h
def zrL : List (Nat × Value) := [(1, .nilFunc), (2, .int .i64 (0)), (3, .int .i64 (0)), (4, .bool false), (5, .int .u8 (0)), (6, .int .u8 (0)), (7, .agg [.int .i64 (0), .int .i64 (0), .bool false, .int .u8 (0)].toArray), (8, .agg [.int .i64 (0), .int .i64 (0), .bool false, .int .u8 (0)].toArray), (9, .string ⟨#[]⟩), (10, .string ⟨#[]⟩), (11, .string ⟨#[]⟩), (12, .int .u64 (0)), (13, .agg [.string ⟨#[]⟩, .int .u64 (0)].toArray), (14, .agg [.string ⟨#[]⟩, .int .u64 (0)].toArray), (15, .pointer none), (16, .pointer none), (17, .pointer none), (18, .agg [.pointer none].toArray), (19, .agg [.pointer none].toArray), (20, .nilIface), (21, .int .i32 (0)), (22, .slice none 0 0), (23, .nilFunc), (24, .nilFunc), (25, .pointer none), (26, .nilFunc), (27, .slice none 0 0), (28, .agg [.slice none 0 0].toArray), (29, .agg [.slice none 0 0].toArray), (30, .pointer none), (31, .agg [.slice none 0 0].toArray), (32, .agg [.slice none 0 0].toArray), (33, .nilFunc), (34, .int .u32 (0)), (35, .agg [.bool false, .int .u32 (0), .string ⟨#[]⟩, .string ⟨#[]⟩].toArray), (36, .agg [.bool false, .int .u32 (0), .string ⟨#[]⟩, .string ⟨#[]⟩].toArray), (37, .agg [.int .i64 (0), .int .u32 (0), .bool false, .int .u32 (0), .string ⟨#[]⟩, .string ⟨#[]⟩, .int .i64 (0)].toArray), (38, .agg [.int .i64 (0), .int .u32 (0), .bool false, .int .u32 (0), .string ⟨#[]⟩, .string ⟨#[]⟩, .int .i64 (0)].toArray), (39, .nilFunc), (40, .slice none 0 0), (41, .nilFunc), (42, .nilFunc), (43, .nilFunc), (44, .nilFunc), (45, .agg [.int .u32 (0), .bool false, .int .u32 (0), .string ⟨#[]⟩, .string ⟨#[]⟩, .int .i64 (0), .bool false].toArray), (46, .agg [.int .u32 (0), .bool false, .int .u32 (0), .string ⟨#[]⟩, .string ⟨#[]⟩, .int .i64 (0), .bool false].toArray), (47, .agg [.int .u32 (0), .int .u32 (0)].toArray), (48, .nilFunc), (49, .slice none 0 0), (50, .nilFunc), (51, .int .i64 (0)), (53, .nilFunc), (56, .nilFunc), (58, .nilFunc), (59, .nilFunc), (60, .nilFunc), (61, .nilFunc), (62, .nilFunc), (63, .nilFunc), (64, .nilFunc), (65, .nilFunc), (66, .nilFunc), (67, .nilFunc), (68, .map none), (69, .map none), (70, .nilFunc), (72, .nilFunc), (73, .nilFunc), (75, .nilFunc), (76, .agg [.int .u8 (0), .int .u8 (0), .int .u8 (0), .int .u8 (0), .int .u8 (0)].toArray), (77, .nilFunc), (82, .int .u64 (0)), (83, .slice none 0 0), (84, .nilFunc), (86, .nilFunc), (87, .nilFunc), (88, .int .i64 (0)), (90, .nilFunc), (91, .nilFunc), (94, .nilFunc), (97, .int .u64 (0)), (98, .int .u64 (0)), (100, .nilFunc), (102, .pointer none), (104, .pointer none), (109, .agg [.pointer none, .pointer none, .pointer none, .string ⟨#[]⟩].toArray), (110, .agg [].toArray), (112, .agg [].toArray), (114, .int .u8 (0)), (118, .int .i32 (0))]
theorem zr {t : TypeId} {x : Value} (h : lkL zrL t = some x) : zrOf Tryd.prog t = some x := look (f := zrOf Tryd.prog) zrL ⟨zr1, zr2, zr3, zr4, zr5, zr6, zr7, zr8, zr9, zr10, zr11, zr12, zr13, zr14, zr15, zr16, zr17, zr18, zr19, zr20, zr21, zr22, zr23, zr24, zr25, zr26, zr27, zr28, zr29, zr30, zr31, zr32, zr33, zr34, zr35, zr36, zr37, zr38, zr39, zr40, zr41, zr42, zr43, zr44, zr45, zr46, zr47, zr48, zr49, zr50, zr51, zr53, zr56, zr58, zr59, zr60, zr61, zr62, zr63, zr64, zr65, zr66, zr67, zr68, zr69, zr70, zr72, zr73, zr75, zr76, zr77, zr82, zr83, zr84, zr86, zr87, zr88, zr90, zr91, zr94, zr97, zr98, zr100, zr102, zr104, zr109, zr110, zr112, zr114, zr118, trivial⟩ h
def bytL : List (Nat × Nat) := [(1, 8), (2, 8), (3, 8), (4, 1), (5, 1), (6, 1), (7, 24), (8, 24), (9, 16), (10, 16), (11, 16), (12, 8), (13, 24), (14, 24), (15, 8), (16, 8), (17, 8), (18, 8), (19, 8), (20, 16), (21, 4), (22, 24), (23, 8), (24, 8), (25, 8), (26, 8), (27, 24), (28, 24), (29, 24), (30, 8), (31, 24), (32, 24), (33, 8), (34, 4), (35, 40), (36, 40), (37, 64), (38, 64), (39, 8), (40, 24), (41, 8), (42, 8), (43, 8), (44, 8), (45, 64), (46, 64), (47, 8), (48, 8), (49, 24), (50, 8), (51, 8), (53, 8), (56, 8), (58, 8), (59, 8), (60, 8), (61, 8), (62, 8), (63, 8), (64, 8), (65, 8), (66, 8), (67, 8), (68, 8), (69, 8), (70, 8), (72, 8), (73, 8), (75, 8), (76, 5), (77, 8), (82, 8), (83, 24), (84, 8), (86, 8), (87, 8), (88, 8), (90, 8), (91, 8), (94, 8), (97, 8), (98, 8), (100, 8), (102, 8), (104, 8), (109, 40), (110, 0), (112, 0), (114, 1), (118, 4)]
theorem byt {t : TypeId} {x : Nat} (h : lkL bytL t = some x) : byOf Tryd.prog t = some x := look (f := byOf Tryd.prog) bytL ⟨by1, by2, by3, by4, by5, by6, by7, by8, by9, by10, by11, by12, by13, by14, by15, by16, by17, by18, by19, by20, by21, by22, by23, by24, by25, by26, by27, by28, by29, by30, by31, by32, by33, by34, by35, by36, by37, by38, by39, by40, by41, by42, by43, by44, by45, by46, by47, by48, by49, by50, by51, by53, by56, by58, by59, by60, by61, by62, by63, by64, by65, by66, by67, by68, by69, by70, by72, by73, by75, by76, by77, by82, by83, by84, by86, by87, by88, by90, by91, by94, by97, by98, by100, by102, by104, by109, by110, by112, by114, by118, trivial⟩ h
def lkP {α : Type} : List (Nat × Nat × α) → Nat → Nat → Option α
  | [], _, _ => none
  | (k, j, v) :: E, t, i => match Nat.beq k t && Nat.beq j i with
    | true => some v
    | false => lkP E t i
def allP {α : Type} (f : Nat → Nat → Option α) : List (Nat × Nat × α) → Prop
  | [] => True
  | p :: l => f p.1 p.2.1 = some p.2.2 ∧ allP f l
theorem lookP {α : Type} {f : Nat → Nat → Option α} : ∀ (l : List (Nat × Nat × α)), allP f l → ∀ {t i : Nat} {x : α}, lkP l t i = some x → f t i = some x
  | [], _, _, _, _, h => (Option.some_ne_none _ h.symm).elim
  | (k, j, v) :: E, hA, t, i, x, h => by
    unfold lkP at h
    cases hb : Nat.beq k t && Nat.beq j i with
    | true =>
      rw [hb] at h
      simp only [Bool.and_eq_true] at hb
      obtain rfl := Nat.eq_of_beq_eq_true hb.1
      obtain rfl := Nat.eq_of_beq_eq_true hb.2
      cases h
      exact hA.1
    | false =>
      rw [hb] at h
      exact lookP E hA.2 h
def foL : List (Nat × Nat × (Nat × Nat × Nat)) := [(29, 0, (0, 27, 1)), (32, 0, (0, 27, 1)), (36, 0, (0, 4, 1)), (36, 1, (1, 34, 1)), (36, 2, (2, 9, 1)), (36, 3, (3, 9, 1)), (38, 0, (0, 3, 1)), (38, 1, (1, 34, 1)), (38, 2, (2, 36, 4)), (38, 3, (6, 3, 1)), (46, 0, (0, 34, 1)), (46, 1, (1, 36, 4)), (46, 2, (5, 3, 1)), (46, 3, (6, 4, 1))]
theorem fo {t : TypeId} {i : Nat} {x : Nat × Nat × Nat} (h : lkP foL t i = some x) : fldOff Tryd.prog t i = some x := lookP (f := fldOff Tryd.prog) foL ⟨fo29_0, fo32_0, fo36_0, fo36_1, fo36_2, fo36_3, fo38_0, fo38_1, fo38_2, fo38_3, fo46_0, fo46_1, fo46_2, fo46_3, trivial⟩ h
def lkC : List Nat → Nat → Bool
  | [], _ => false
  | k :: E, t => match Nat.beq k t with
    | true => true
    | false => lkC E t
def allC (Q : Nat → Prop) : List Nat → Prop
  | [] => True
  | p :: l => Q p ∧ allC Q l
theorem lookC {Q : Nat → Prop} : ∀ (l : List Nat), allC Q l → ∀ {t : Nat}, lkC l t = true → Q t
  | [], _, _, h => (Bool.false_ne_true h).elim
  | k :: E, hA, t, h => by
    unfold lkC at h
    cases hb : Nat.beq k t with
    | true => obtain rfl := Nat.eq_of_beq_eq_true hb; exact hA.1
    | false => rw [hb] at h; exact lookC E hA.2 h
def calL : List Nat := [3, 4, 5, 6, 7, 8, 9, 10, 11, 12, 13, 14, 15, 16, 17, 18, 19, 20, 21, 22, 23, 24, 25, 26, 27, 28, 29, 30, 31, 32, 33, 34, 35, 36, 37, 38, 39, 40, 41, 42, 43, 44, 45, 46, 47, 48, 49, 50, 51, 52, 53, 54, 55, 56, 57, 58, 59, 60, 61, 62, 63, 64, 65, 66, 67, 68, 69, 70, 71, 72, 73, 74, 75, 76, 98]
theorem cal {t : Nat} (h : lkC calL t = true) : Callable Tryd.prog t := lookC (Q := Callable Tryd.prog) calL ⟨cal3, cal4, cal5, cal6, cal7, cal8, cal9, cal10, cal11, cal12, cal13, cal14, cal15, cal16, cal17, cal18, cal19, cal20, cal21, cal22, cal23, cal24, cal25, cal26, cal27, cal28, cal29, cal30, cal31, cal32, cal33, cal34, cal35, cal36, cal37, cal38, cal39, cal40, cal41, cal42, cal43, cal44, cal45, cal46, cal47, cal48, cal49, cal50, cal51, cal52, cal53, cal54, cal55, cal56, cal57, cal58, cal59, cal60, cal61, cal62, cal63, cal64, cal65, cal66, cal67, cal68, cal69, cal70, cal71, cal72, cal73, cal74, cal75, cal76, cal98, trivial⟩ h
def plL : List (Nat × List (Nat × Nat)) := [(29, [(0, 1)]), (32, [(0, 1)]), (36, [(0, 1), (1, 1), (2, 1), (3, 1)]), (46, [(0, 1), (1, 4), (5, 1), (6, 1)])]
theorem pl {t : TypeId} {x : List (Nat × Nat)} (h : lkL plL t = some x) : placesOf Tryd.prog t = some x := look (f := placesOf Tryd.prog) plL ⟨pl29, pl32, pl36, pl46, trivial⟩ h
theorem mixed : Tryd.prog.follows .mixedOrders = true := by kernel_rfl
end Go.Proofs.YtcpdfajaggbjlaaDoor.Fx
