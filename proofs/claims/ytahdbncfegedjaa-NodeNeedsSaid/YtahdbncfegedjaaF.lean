/-
  Closed facts on the types and the functions of this seat. Written by program (facts.py). Conditions: none.
-/
import Derived.Test.YtahdbncfegedjaaKY
import Derived.Test.YtahdbncfegedjaaProg
import Derived.KernelRfl
namespace Go.Proofs.Ytahdbncfegedjaa.Fx
open Go Go.K Go.Proofs
set_option linter.unusedVariables false
/-- a table, looked up -/
def lkL {α : Type} : List (Nat × α) → Nat → Option α
  | [], _ => none
  | (k, v) :: E, t => match Nat.beq k t with
    | true => some v
    | false => lkL E t
def allL {α : Type} (f : Nat → Option α) : List (Nat × α) → Prop
  | [] => True
  | p :: l => f p.1 = some p.2 ∧ allL f l
theorem look {α : Type} {f : Nat → Option α} : ∀ (l : List (Nat × α)), allL f l → ∀ {t : Nat} {x : α}, lkL l t = some x → f t = some x
  | [], _, _, _, h => (Option.some_ne_none _ h.symm).elim
  | (k, v) :: E, hA, t, x, h => by
    unfold lkL at h
    split at h
    · rename_i hb
      rw [← Nat.eq_of_beq_eq_true hb, ← h]
      exact hA.1
    · exact look E hA.2 h
theorem g1 : aggOf Try.prog 1 = some false := by kernel_rfl
theorem z1 : szOf Try.prog 1 = some 1 := by kernel_rfl
theorem by1 : byOf Try.prog 1 = some 8 := by kernel_rfl
theorem zr1 : zrOf Try.prog 1 = some (.nilFunc) := by kernel_rfl
theorem g2 : aggOf Try.prog 2 = some false := by kernel_rfl
theorem z2 : szOf Try.prog 2 = some 1 := by kernel_rfl
theorem by2 : byOf Try.prog 2 = some 8 := by kernel_rfl
theorem zr2 : zrOf Try.prog 2 = some (.int .i64 (0)) := by kernel_rfl
theorem g3 : aggOf Try.prog 3 = some false := by kernel_rfl
theorem z3 : szOf Try.prog 3 = some 1 := by kernel_rfl
theorem by3 : byOf Try.prog 3 = some 8 := by kernel_rfl
theorem zr3 : zrOf Try.prog 3 = some (.int .i64 (0)) := by kernel_rfl
theorem g4 : aggOf Try.prog 4 = some false := by kernel_rfl
theorem z4 : szOf Try.prog 4 = some 1 := by kernel_rfl
theorem by4 : byOf Try.prog 4 = some 1 := by kernel_rfl
theorem zr4 : zrOf Try.prog 4 = some (.bool false) := by kernel_rfl
theorem g5 : aggOf Try.prog 5 = some false := by kernel_rfl
theorem z5 : szOf Try.prog 5 = some 1 := by kernel_rfl
theorem by5 : byOf Try.prog 5 = some 1 := by kernel_rfl
theorem zr5 : zrOf Try.prog 5 = some (.int .u8 (0)) := by kernel_rfl
theorem g6 : aggOf Try.prog 6 = some false := by kernel_rfl
theorem z6 : szOf Try.prog 6 = some 1 := by kernel_rfl
theorem by6 : byOf Try.prog 6 = some 1 := by kernel_rfl
theorem zr6 : zrOf Try.prog 6 = some (.int .u8 (0)) := by kernel_rfl
theorem g7 : aggOf Try.prog 7 = some true := by kernel_rfl
theorem z7 : szOf Try.prog 7 = some 4 := by kernel_rfl
theorem by7 : byOf Try.prog 7 = some 24 := by kernel_rfl
theorem zr7 : zrOf Try.prog 7 = some (.agg [.int .i64 (0), .int .i64 (0), .bool false, .int .u8 (0)].toArray) := by kernel_rfl
theorem g8 : aggOf Try.prog 8 = some true := by kernel_rfl
theorem z8 : szOf Try.prog 8 = some 4 := by kernel_rfl
theorem by8 : byOf Try.prog 8 = some 24 := by kernel_rfl
theorem zr8 : zrOf Try.prog 8 = some (.agg [.int .i64 (0), .int .i64 (0), .bool false, .int .u8 (0)].toArray) := by kernel_rfl
theorem g9 : aggOf Try.prog 9 = some false := by kernel_rfl
theorem z9 : szOf Try.prog 9 = some 1 := by kernel_rfl
theorem by9 : byOf Try.prog 9 = some 16 := by kernel_rfl
theorem zr9 : zrOf Try.prog 9 = some (.string ⟨#[]⟩) := by kernel_rfl
theorem g10 : aggOf Try.prog 10 = some false := by kernel_rfl
theorem z10 : szOf Try.prog 10 = some 1 := by kernel_rfl
theorem by10 : byOf Try.prog 10 = some 16 := by kernel_rfl
theorem zr10 : zrOf Try.prog 10 = some (.string ⟨#[]⟩) := by kernel_rfl
theorem g11 : aggOf Try.prog 11 = some false := by kernel_rfl
theorem z11 : szOf Try.prog 11 = some 1 := by kernel_rfl
theorem by11 : byOf Try.prog 11 = some 16 := by kernel_rfl
theorem zr11 : zrOf Try.prog 11 = some (.string ⟨#[]⟩) := by kernel_rfl
theorem g12 : aggOf Try.prog 12 = some false := by kernel_rfl
theorem z12 : szOf Try.prog 12 = some 1 := by kernel_rfl
theorem by12 : byOf Try.prog 12 = some 8 := by kernel_rfl
theorem zr12 : zrOf Try.prog 12 = some (.int .u64 (0)) := by kernel_rfl
theorem g13 : aggOf Try.prog 13 = some true := by kernel_rfl
theorem z13 : szOf Try.prog 13 = some 2 := by kernel_rfl
theorem by13 : byOf Try.prog 13 = some 24 := by kernel_rfl
theorem zr13 : zrOf Try.prog 13 = some (.agg [.string ⟨#[]⟩, .int .u64 (0)].toArray) := by kernel_rfl
theorem g14 : aggOf Try.prog 14 = some true := by kernel_rfl
theorem z14 : szOf Try.prog 14 = some 2 := by kernel_rfl
theorem by14 : byOf Try.prog 14 = some 24 := by kernel_rfl
theorem zr14 : zrOf Try.prog 14 = some (.agg [.string ⟨#[]⟩, .int .u64 (0)].toArray) := by kernel_rfl
theorem g15 : aggOf Try.prog 15 = some false := by kernel_rfl
theorem z15 : szOf Try.prog 15 = some 1 := by kernel_rfl
theorem by15 : byOf Try.prog 15 = some 8 := by kernel_rfl
theorem zr15 : zrOf Try.prog 15 = some (.pointer none) := by kernel_rfl
theorem g16 : aggOf Try.prog 16 = some false := by kernel_rfl
theorem z16 : szOf Try.prog 16 = some 1 := by kernel_rfl
theorem by16 : byOf Try.prog 16 = some 8 := by kernel_rfl
theorem zr16 : zrOf Try.prog 16 = some (.pointer none) := by kernel_rfl
theorem g17 : aggOf Try.prog 17 = some false := by kernel_rfl
theorem z17 : szOf Try.prog 17 = some 1 := by kernel_rfl
theorem by17 : byOf Try.prog 17 = some 8 := by kernel_rfl
theorem zr17 : zrOf Try.prog 17 = some (.pointer none) := by kernel_rfl
theorem g18 : aggOf Try.prog 18 = some true := by kernel_rfl
theorem z18 : szOf Try.prog 18 = some 1 := by kernel_rfl
theorem by18 : byOf Try.prog 18 = some 8 := by kernel_rfl
theorem zr18 : zrOf Try.prog 18 = some (.agg [.pointer none].toArray) := by kernel_rfl
theorem g19 : aggOf Try.prog 19 = some true := by kernel_rfl
theorem z19 : szOf Try.prog 19 = some 1 := by kernel_rfl
theorem by19 : byOf Try.prog 19 = some 8 := by kernel_rfl
theorem zr19 : zrOf Try.prog 19 = some (.agg [.pointer none].toArray) := by kernel_rfl
theorem g20 : aggOf Try.prog 20 = some false := by kernel_rfl
theorem z20 : szOf Try.prog 20 = some 1 := by kernel_rfl
theorem by20 : byOf Try.prog 20 = some 16 := by kernel_rfl
theorem zr20 : zrOf Try.prog 20 = some (.nilIface) := by kernel_rfl
theorem g21 : aggOf Try.prog 21 = some false := by kernel_rfl
theorem z21 : szOf Try.prog 21 = some 1 := by kernel_rfl
theorem by21 : byOf Try.prog 21 = some 4 := by kernel_rfl
theorem zr21 : zrOf Try.prog 21 = some (.int .i32 (0)) := by kernel_rfl
theorem g22 : aggOf Try.prog 22 = some false := by kernel_rfl
theorem z22 : szOf Try.prog 22 = some 1 := by kernel_rfl
theorem by22 : byOf Try.prog 22 = some 24 := by kernel_rfl
theorem zr22 : zrOf Try.prog 22 = some (.slice none 0 0) := by kernel_rfl
theorem g23 : aggOf Try.prog 23 = some false := by kernel_rfl
theorem z23 : szOf Try.prog 23 = some 1 := by kernel_rfl
theorem by23 : byOf Try.prog 23 = some 4 := by kernel_rfl
theorem zr23 : zrOf Try.prog 23 = some (.int .u32 (0)) := by kernel_rfl
theorem g24 : aggOf Try.prog 24 = some false := by kernel_rfl
theorem z24 : szOf Try.prog 24 = some 1 := by kernel_rfl
theorem by24 : byOf Try.prog 24 = some 8 := by kernel_rfl
theorem zr24 : zrOf Try.prog 24 = some (.int .i64 (0)) := by kernel_rfl
theorem g25 : aggOf Try.prog 25 = some true := by kernel_rfl
theorem z25 : szOf Try.prog 25 = some 3 := by kernel_rfl
theorem by25 : byOf Try.prog 25 = some 40 := by kernel_rfl
theorem zr25 : zrOf Try.prog 25 = some (.agg [.slice none 0 0, .int .u32 (0), .int .i64 (0)].toArray) := by kernel_rfl
theorem g26 : aggOf Try.prog 26 = some true := by kernel_rfl
theorem z26 : szOf Try.prog 26 = some 3 := by kernel_rfl
theorem by26 : byOf Try.prog 26 = some 40 := by kernel_rfl
theorem zr26 : zrOf Try.prog 26 = some (.agg [.slice none 0 0, .int .u32 (0), .int .i64 (0)].toArray) := by kernel_rfl
theorem g27 : aggOf Try.prog 27 = some false := by kernel_rfl
theorem z27 : szOf Try.prog 27 = some 1 := by kernel_rfl
theorem by27 : byOf Try.prog 27 = some 8 := by kernel_rfl
theorem zr27 : zrOf Try.prog 27 = some (.nilFunc) := by kernel_rfl
theorem g28 : aggOf Try.prog 28 = some false := by kernel_rfl
theorem z28 : szOf Try.prog 28 = some 1 := by kernel_rfl
theorem by28 : byOf Try.prog 28 = some 8 := by kernel_rfl
theorem zr28 : zrOf Try.prog 28 = some (.nilFunc) := by kernel_rfl
theorem g29 : aggOf Try.prog 29 = some false := by kernel_rfl
theorem z29 : szOf Try.prog 29 = some 1 := by kernel_rfl
theorem by29 : byOf Try.prog 29 = some 8 := by kernel_rfl
theorem zr29 : zrOf Try.prog 29 = some (.nilFunc) := by kernel_rfl
theorem g30 : aggOf Try.prog 30 = some false := by kernel_rfl
theorem z30 : szOf Try.prog 30 = some 1 := by kernel_rfl
theorem by30 : byOf Try.prog 30 = some 24 := by kernel_rfl
theorem zr30 : zrOf Try.prog 30 = some (.slice none 0 0) := by kernel_rfl
theorem g32 : aggOf Try.prog 32 = some false := by kernel_rfl
theorem z32 : szOf Try.prog 32 = some 1 := by kernel_rfl
theorem by32 : byOf Try.prog 32 = some 8 := by kernel_rfl
theorem zr32 : zrOf Try.prog 32 = some (.nilFunc) := by kernel_rfl
theorem g33 : aggOf Try.prog 33 = some false := by kernel_rfl
theorem z33 : szOf Try.prog 33 = some 1 := by kernel_rfl
theorem by33 : byOf Try.prog 33 = some 8 := by kernel_rfl
theorem zr33 : zrOf Try.prog 33 = some (.nilFunc) := by kernel_rfl
theorem g34 : aggOf Try.prog 34 = some false := by kernel_rfl
theorem z34 : szOf Try.prog 34 = some 1 := by kernel_rfl
theorem by34 : byOf Try.prog 34 = some 8 := by kernel_rfl
theorem zr34 : zrOf Try.prog 34 = some (.nilFunc) := by kernel_rfl
theorem g36 : aggOf Try.prog 36 = some false := by kernel_rfl
theorem z36 : szOf Try.prog 36 = some 1 := by kernel_rfl
theorem by36 : byOf Try.prog 36 = some 8 := by kernel_rfl
theorem zr36 : zrOf Try.prog 36 = some (.nilFunc) := by kernel_rfl
theorem g37 : aggOf Try.prog 37 = some false := by kernel_rfl
theorem z37 : szOf Try.prog 37 = some 1 := by kernel_rfl
theorem by37 : byOf Try.prog 37 = some 8 := by kernel_rfl
theorem zr37 : zrOf Try.prog 37 = some (.nilFunc) := by kernel_rfl
theorem g38 : aggOf Try.prog 38 = some false := by kernel_rfl
theorem z38 : szOf Try.prog 38 = some 1 := by kernel_rfl
theorem by38 : byOf Try.prog 38 = some 8 := by kernel_rfl
theorem zr38 : zrOf Try.prog 38 = some (.nilFunc) := by kernel_rfl
theorem g39 : aggOf Try.prog 39 = some false := by kernel_rfl
theorem z39 : szOf Try.prog 39 = some 1 := by kernel_rfl
theorem by39 : byOf Try.prog 39 = some 8 := by kernel_rfl
theorem zr39 : zrOf Try.prog 39 = some (.nilFunc) := by kernel_rfl
theorem g40 : aggOf Try.prog 40 = some false := by kernel_rfl
theorem z40 : szOf Try.prog 40 = some 1 := by kernel_rfl
theorem by40 : byOf Try.prog 40 = some 8 := by kernel_rfl
theorem zr40 : zrOf Try.prog 40 = some (.nilFunc) := by kernel_rfl
theorem g42 : aggOf Try.prog 42 = some false := by kernel_rfl
theorem z42 : szOf Try.prog 42 = some 1 := by kernel_rfl
theorem by42 : byOf Try.prog 42 = some 8 := by kernel_rfl
theorem zr42 : zrOf Try.prog 42 = some (.nilFunc) := by kernel_rfl
theorem g43 : aggOf Try.prog 43 = some false := by kernel_rfl
theorem z43 : szOf Try.prog 43 = some 1 := by kernel_rfl
theorem by43 : byOf Try.prog 43 = some 8 := by kernel_rfl
theorem zr43 : zrOf Try.prog 43 = some (.nilFunc) := by kernel_rfl
theorem g44 : aggOf Try.prog 44 = some false := by kernel_rfl
theorem z44 : szOf Try.prog 44 = some 1 := by kernel_rfl
theorem by44 : byOf Try.prog 44 = some 8 := by kernel_rfl
theorem zr44 : zrOf Try.prog 44 = some (.nilFunc) := by kernel_rfl
theorem g45 : aggOf Try.prog 45 = some false := by kernel_rfl
theorem z45 : szOf Try.prog 45 = some 1 := by kernel_rfl
theorem by45 : byOf Try.prog 45 = some 8 := by kernel_rfl
theorem zr45 : zrOf Try.prog 45 = some (.nilFunc) := by kernel_rfl
theorem g46 : aggOf Try.prog 46 = some false := by kernel_rfl
theorem z46 : szOf Try.prog 46 = some 1 := by kernel_rfl
theorem by46 : byOf Try.prog 46 = some 24 := by kernel_rfl
theorem zr46 : zrOf Try.prog 46 = some (.slice none 0 0) := by kernel_rfl
theorem g48 : aggOf Try.prog 48 = some false := by kernel_rfl
theorem z48 : szOf Try.prog 48 = some 1 := by kernel_rfl
theorem by48 : byOf Try.prog 48 = some 8 := by kernel_rfl
theorem zr48 : zrOf Try.prog 48 = some (.nilFunc) := by kernel_rfl
theorem g49 : aggOf Try.prog 49 = some false := by kernel_rfl
theorem z49 : szOf Try.prog 49 = some 1 := by kernel_rfl
theorem by49 : byOf Try.prog 49 = some 8 := by kernel_rfl
theorem zr49 : zrOf Try.prog 49 = some (.nilFunc) := by kernel_rfl
theorem g50 : aggOf Try.prog 50 = some false := by kernel_rfl
theorem z50 : szOf Try.prog 50 = some 1 := by kernel_rfl
theorem by50 : byOf Try.prog 50 = some 24 := by kernel_rfl
theorem zr50 : zrOf Try.prog 50 = some (.slice none 0 0) := by kernel_rfl
theorem g51 : aggOf Try.prog 51 = some true := by kernel_rfl
theorem z51 : szOf Try.prog 51 = some 3 := by kernel_rfl
theorem by51 : byOf Try.prog 51 = some 32 := by kernel_rfl
theorem zr51 : zrOf Try.prog 51 = some (.agg [.bool false, .int .u32 (0), .slice none 0 0].toArray) := by kernel_rfl
theorem g52 : aggOf Try.prog 52 = some true := by kernel_rfl
theorem z52 : szOf Try.prog 52 = some 3 := by kernel_rfl
theorem by52 : byOf Try.prog 52 = some 32 := by kernel_rfl
theorem zr52 : zrOf Try.prog 52 = some (.agg [.bool false, .int .u32 (0), .slice none 0 0].toArray) := by kernel_rfl
theorem g53 : aggOf Try.prog 53 = some false := by kernel_rfl
theorem z53 : szOf Try.prog 53 = some 1 := by kernel_rfl
theorem by53 : byOf Try.prog 53 = some 8 := by kernel_rfl
theorem zr53 : zrOf Try.prog 53 = some (.int .u64 (0)) := by kernel_rfl
theorem g54 : aggOf Try.prog 54 = some true := by kernel_rfl
theorem z54 : szOf Try.prog 54 = some 4 := by kernel_rfl
theorem by54 : byOf Try.prog 54 = some 48 := by kernel_rfl
theorem zr54 : zrOf Try.prog 54 = some (.agg [.int .i64 (0), .int .u64 (0), .int .u32 (0), .slice none 0 0].toArray) := by kernel_rfl
theorem g55 : aggOf Try.prog 55 = some true := by kernel_rfl
theorem z55 : szOf Try.prog 55 = some 4 := by kernel_rfl
theorem by55 : byOf Try.prog 55 = some 48 := by kernel_rfl
theorem zr55 : zrOf Try.prog 55 = some (.agg [.int .i64 (0), .int .u64 (0), .int .u32 (0), .slice none 0 0].toArray) := by kernel_rfl
theorem g57 : aggOf Try.prog 57 = some true := by kernel_rfl
theorem z57 : szOf Try.prog 57 = some 5 := by kernel_rfl
theorem by57 : byOf Try.prog 57 = some 56 := by kernel_rfl
theorem zr57 : zrOf Try.prog 57 = some (.agg [.int .u32 (0), .int .i64 (0), .int .u64 (0), .int .u32 (0), .slice none 0 0].toArray) := by kernel_rfl
theorem g58 : aggOf Try.prog 58 = some true := by kernel_rfl
theorem z58 : szOf Try.prog 58 = some 5 := by kernel_rfl
theorem by58 : byOf Try.prog 58 = some 56 := by kernel_rfl
theorem zr58 : zrOf Try.prog 58 = some (.agg [.int .u32 (0), .int .i64 (0), .int .u64 (0), .int .u32 (0), .slice none 0 0].toArray) := by kernel_rfl
theorem g61 : aggOf Try.prog 61 = some false := by kernel_rfl
theorem z61 : szOf Try.prog 61 = some 1 := by kernel_rfl
theorem by61 : byOf Try.prog 61 = some 8 := by kernel_rfl
theorem zr61 : zrOf Try.prog 61 = some (.nilFunc) := by kernel_rfl
theorem g64 : aggOf Try.prog 64 = some false := by kernel_rfl
theorem z64 : szOf Try.prog 64 = some 1 := by kernel_rfl
theorem by64 : byOf Try.prog 64 = some 8 := by kernel_rfl
theorem zr64 : zrOf Try.prog 64 = some (.nilFunc) := by kernel_rfl
theorem g65 : aggOf Try.prog 65 = some false := by kernel_rfl
theorem z65 : szOf Try.prog 65 = some 1 := by kernel_rfl
theorem by65 : byOf Try.prog 65 = some 8 := by kernel_rfl
theorem zr65 : zrOf Try.prog 65 = some (.nilFunc) := by kernel_rfl
theorem g66 : aggOf Try.prog 66 = some true := by kernel_rfl
theorem z66 : szOf Try.prog 66 = some 2 := by kernel_rfl
theorem by66 : byOf Try.prog 66 = some 16 := by kernel_rfl
theorem zr66 : zrOf Try.prog 66 = some (.agg [.int .u32 (0), .int .i64 (0)].toArray) := by kernel_rfl
theorem g67 : aggOf Try.prog 67 = some true := by kernel_rfl
theorem z67 : szOf Try.prog 67 = some 2 := by kernel_rfl
theorem by67 : byOf Try.prog 67 = some 16 := by kernel_rfl
theorem zr67 : zrOf Try.prog 67 = some (.agg [.int .u32 (0), .int .i64 (0)].toArray) := by kernel_rfl
theorem g69 : aggOf Try.prog 69 = some false := by kernel_rfl
theorem z69 : szOf Try.prog 69 = some 1 := by kernel_rfl
theorem by69 : byOf Try.prog 69 = some 8 := by kernel_rfl
theorem zr69 : zrOf Try.prog 69 = some (.nilFunc) := by kernel_rfl
theorem g70 : aggOf Try.prog 70 = some false := by kernel_rfl
theorem z70 : szOf Try.prog 70 = some 1 := by kernel_rfl
theorem by70 : byOf Try.prog 70 = some 8 := by kernel_rfl
theorem zr70 : zrOf Try.prog 70 = some (.nilFunc) := by kernel_rfl
theorem g73 : aggOf Try.prog 73 = some false := by kernel_rfl
theorem z73 : szOf Try.prog 73 = some 1 := by kernel_rfl
theorem by73 : byOf Try.prog 73 = some 8 := by kernel_rfl
theorem zr73 : zrOf Try.prog 73 = some (.nilFunc) := by kernel_rfl
theorem g74 : aggOf Try.prog 74 = some true := by kernel_rfl
theorem z74 : szOf Try.prog 74 = some 1 := by kernel_rfl
theorem by74 : byOf Try.prog 74 = some 8 := by kernel_rfl
theorem zr74 : zrOf Try.prog 74 = some (.agg [.int .i64 (0)].toArray) := by kernel_rfl
theorem g75 : aggOf Try.prog 75 = some true := by kernel_rfl
theorem z75 : szOf Try.prog 75 = some 1 := by kernel_rfl
theorem by75 : byOf Try.prog 75 = some 8 := by kernel_rfl
theorem zr75 : zrOf Try.prog 75 = some (.agg [.int .i64 (0)].toArray) := by kernel_rfl
theorem g76 : aggOf Try.prog 76 = some false := by kernel_rfl
theorem z76 : szOf Try.prog 76 = some 1 := by kernel_rfl
theorem by76 : byOf Try.prog 76 = some 8 := by kernel_rfl
theorem zr76 : zrOf Try.prog 76 = some (.nilFunc) := by kernel_rfl
theorem g79 : aggOf Try.prog 79 = some false := by kernel_rfl
theorem z79 : szOf Try.prog 79 = some 1 := by kernel_rfl
theorem by79 : byOf Try.prog 79 = some 8 := by kernel_rfl
theorem zr79 : zrOf Try.prog 79 = some (.nilFunc) := by kernel_rfl
theorem g80 : aggOf Try.prog 80 = some true := by kernel_rfl
theorem z80 : szOf Try.prog 80 = some 3 := by kernel_rfl
theorem by80 : byOf Try.prog 80 = some 56 := by kernel_rfl
theorem zr80 : zrOf Try.prog 80 = some (.agg [.slice none 0 0, .slice none 0 0, .int .i64 (0)].toArray) := by kernel_rfl
theorem g81 : aggOf Try.prog 81 = some true := by kernel_rfl
theorem z81 : szOf Try.prog 81 = some 3 := by kernel_rfl
theorem by81 : byOf Try.prog 81 = some 56 := by kernel_rfl
theorem zr81 : zrOf Try.prog 81 = some (.agg [.slice none 0 0, .slice none 0 0, .int .i64 (0)].toArray) := by kernel_rfl
theorem g82 : aggOf Try.prog 82 = some false := by kernel_rfl
theorem z82 : szOf Try.prog 82 = some 1 := by kernel_rfl
theorem by82 : byOf Try.prog 82 = some 8 := by kernel_rfl
theorem zr82 : zrOf Try.prog 82 = some (.pointer none) := by kernel_rfl
theorem g83 : aggOf Try.prog 83 = some false := by kernel_rfl
theorem z83 : szOf Try.prog 83 = some 1 := by kernel_rfl
theorem by83 : byOf Try.prog 83 = some 8 := by kernel_rfl
theorem zr83 : zrOf Try.prog 83 = some (.nilFunc) := by kernel_rfl
theorem g84 : aggOf Try.prog 84 = some false := by kernel_rfl
theorem z84 : szOf Try.prog 84 = some 1 := by kernel_rfl
theorem by84 : byOf Try.prog 84 = some 8 := by kernel_rfl
theorem zr84 : zrOf Try.prog 84 = some (.nilFunc) := by kernel_rfl
theorem g85 : aggOf Try.prog 85 = some false := by kernel_rfl
theorem z85 : szOf Try.prog 85 = some 1 := by kernel_rfl
theorem by85 : byOf Try.prog 85 = some 8 := by kernel_rfl
theorem zr85 : zrOf Try.prog 85 = some (.pointer none) := by kernel_rfl
theorem g88 : aggOf Try.prog 88 = some true := by kernel_rfl
theorem z88 : szOf Try.prog 88 = some 3 := by kernel_rfl
theorem by88 : byOf Try.prog 88 = some 56 := by kernel_rfl
theorem zr88 : zrOf Try.prog 88 = some (.agg [.slice none 0 0, .slice none 0 0, .int .i64 (0)].toArray) := by kernel_rfl
theorem g89 : aggOf Try.prog 89 = some true := by kernel_rfl
theorem z89 : szOf Try.prog 89 = some 3 := by kernel_rfl
theorem by89 : byOf Try.prog 89 = some 56 := by kernel_rfl
theorem zr89 : zrOf Try.prog 89 = some (.agg [.slice none 0 0, .slice none 0 0, .int .i64 (0)].toArray) := by kernel_rfl
theorem g91 : aggOf Try.prog 91 = some true := by kernel_rfl
theorem z91 : szOf Try.prog 91 = some 4 := by kernel_rfl
theorem by91 : byOf Try.prog 91 = some 48 := by kernel_rfl
theorem zr91 : zrOf Try.prog 91 = some (.agg [.int .i64 (0), .string ⟨#[]⟩, .string ⟨#[]⟩, .bool false].toArray) := by kernel_rfl
theorem g92 : aggOf Try.prog 92 = some true := by kernel_rfl
theorem z92 : szOf Try.prog 92 = some 4 := by kernel_rfl
theorem by92 : byOf Try.prog 92 = some 48 := by kernel_rfl
theorem zr92 : zrOf Try.prog 92 = some (.agg [.int .i64 (0), .string ⟨#[]⟩, .string ⟨#[]⟩, .bool false].toArray) := by kernel_rfl
theorem g93 : aggOf Try.prog 93 = some false := by kernel_rfl
theorem z93 : szOf Try.prog 93 = some 1 := by kernel_rfl
theorem by93 : byOf Try.prog 93 = some 8 := by kernel_rfl
theorem zr93 : zrOf Try.prog 93 = some (.nilFunc) := by kernel_rfl
theorem g94 : aggOf Try.prog 94 = some false := by kernel_rfl
theorem z94 : szOf Try.prog 94 = some 1 := by kernel_rfl
theorem by94 : byOf Try.prog 94 = some 8 := by kernel_rfl
theorem zr94 : zrOf Try.prog 94 = some (.nilFunc) := by kernel_rfl
theorem g95 : aggOf Try.prog 95 = some false := by kernel_rfl
theorem z95 : szOf Try.prog 95 = some 1 := by kernel_rfl
theorem by95 : byOf Try.prog 95 = some 8 := by kernel_rfl
theorem zr95 : zrOf Try.prog 95 = some (.nilFunc) := by kernel_rfl
theorem g96 : aggOf Try.prog 96 = some false := by kernel_rfl
theorem z96 : szOf Try.prog 96 = some 1 := by kernel_rfl
theorem by96 : byOf Try.prog 96 = some 8 := by kernel_rfl
theorem zr96 : zrOf Try.prog 96 = some (.nilFunc) := by kernel_rfl
theorem g97 : aggOf Try.prog 97 = some false := by kernel_rfl
theorem z97 : szOf Try.prog 97 = some 1 := by kernel_rfl
theorem by97 : byOf Try.prog 97 = some 8 := by kernel_rfl
theorem zr97 : zrOf Try.prog 97 = some (.nilFunc) := by kernel_rfl
theorem g100 : aggOf Try.prog 100 = some false := by kernel_rfl
theorem z100 : szOf Try.prog 100 = some 1 := by kernel_rfl
theorem by100 : byOf Try.prog 100 = some 8 := by kernel_rfl
theorem zr100 : zrOf Try.prog 100 = some (.nilFunc) := by kernel_rfl
theorem g101 : aggOf Try.prog 101 = some false := by kernel_rfl
theorem z101 : szOf Try.prog 101 = some 1 := by kernel_rfl
theorem by101 : byOf Try.prog 101 = some 8 := by kernel_rfl
theorem zr101 : zrOf Try.prog 101 = some (.nilFunc) := by kernel_rfl
theorem g102 : aggOf Try.prog 102 = some false := by kernel_rfl
theorem z102 : szOf Try.prog 102 = some 1 := by kernel_rfl
theorem by102 : byOf Try.prog 102 = some 8 := by kernel_rfl
theorem zr102 : zrOf Try.prog 102 = some (.nilFunc) := by kernel_rfl
theorem g103 : aggOf Try.prog 103 = some false := by kernel_rfl
theorem z103 : szOf Try.prog 103 = some 1 := by kernel_rfl
theorem by103 : byOf Try.prog 103 = some 8 := by kernel_rfl
theorem zr103 : zrOf Try.prog 103 = some (.nilFunc) := by kernel_rfl
theorem g105 : aggOf Try.prog 105 = some false := by kernel_rfl
theorem z105 : szOf Try.prog 105 = some 1 := by kernel_rfl
theorem by105 : byOf Try.prog 105 = some 8 := by kernel_rfl
theorem zr105 : zrOf Try.prog 105 = some (.nilFunc) := by kernel_rfl
theorem g108 : aggOf Try.prog 108 = some false := by kernel_rfl
theorem z108 : szOf Try.prog 108 = some 1 := by kernel_rfl
theorem by108 : byOf Try.prog 108 = some 8 := by kernel_rfl
theorem zr108 : zrOf Try.prog 108 = some (.nilFunc) := by kernel_rfl
theorem g109 : aggOf Try.prog 109 = some false := by kernel_rfl
theorem z109 : szOf Try.prog 109 = some 1 := by kernel_rfl
theorem by109 : byOf Try.prog 109 = some 8 := by kernel_rfl
theorem zr109 : zrOf Try.prog 109 = some (.nilFunc) := by kernel_rfl
theorem g110 : aggOf Try.prog 110 = some false := by kernel_rfl
theorem z110 : szOf Try.prog 110 = some 1 := by kernel_rfl
theorem by110 : byOf Try.prog 110 = some 8 := by kernel_rfl
theorem zr110 : zrOf Try.prog 110 = some (.nilFunc) := by kernel_rfl
theorem g114 : aggOf Try.prog 114 = some false := by kernel_rfl
theorem z114 : szOf Try.prog 114 = some 1 := by kernel_rfl
theorem by114 : byOf Try.prog 114 = some 8 := by kernel_rfl
theorem zr114 : zrOf Try.prog 114 = some (.nilFunc) := by kernel_rfl
theorem g117 : aggOf Try.prog 117 = some false := by kernel_rfl
theorem z117 : szOf Try.prog 117 = some 1 := by kernel_rfl
theorem by117 : byOf Try.prog 117 = some 8 := by kernel_rfl
theorem zr117 : zrOf Try.prog 117 = some (.map none) := by kernel_rfl
theorem g121 : aggOf Try.prog 121 = some false := by kernel_rfl
theorem z121 : szOf Try.prog 121 = some 1 := by kernel_rfl
theorem by121 : byOf Try.prog 121 = some 8 := by kernel_rfl
theorem zr121 : zrOf Try.prog 121 = some (.nilFunc) := by kernel_rfl
theorem g123 : aggOf Try.prog 123 = some false := by kernel_rfl
theorem z123 : szOf Try.prog 123 = some 1 := by kernel_rfl
theorem by123 : byOf Try.prog 123 = some 8 := by kernel_rfl
theorem zr123 : zrOf Try.prog 123 = some (.nilFunc) := by kernel_rfl
theorem g125 : aggOf Try.prog 125 = some false := by kernel_rfl
theorem z125 : szOf Try.prog 125 = some 1 := by kernel_rfl
theorem by125 : byOf Try.prog 125 = some 8 := by kernel_rfl
theorem zr125 : zrOf Try.prog 125 = some (.nilFunc) := by kernel_rfl
theorem g126 : aggOf Try.prog 126 = some false := by kernel_rfl
theorem z126 : szOf Try.prog 126 = some 1 := by kernel_rfl
theorem by126 : byOf Try.prog 126 = some 8 := by kernel_rfl
theorem zr126 : zrOf Try.prog 126 = some (.nilFunc) := by kernel_rfl
theorem g127 : aggOf Try.prog 127 = some false := by kernel_rfl
theorem z127 : szOf Try.prog 127 = some 1 := by kernel_rfl
theorem by127 : byOf Try.prog 127 = some 8 := by kernel_rfl
theorem zr127 : zrOf Try.prog 127 = some (.nilFunc) := by kernel_rfl
theorem g128 : aggOf Try.prog 128 = some false := by kernel_rfl
theorem z128 : szOf Try.prog 128 = some 1 := by kernel_rfl
theorem by128 : byOf Try.prog 128 = some 8 := by kernel_rfl
theorem zr128 : zrOf Try.prog 128 = some (.nilFunc) := by kernel_rfl
theorem g129 : aggOf Try.prog 129 = some false := by kernel_rfl
theorem z129 : szOf Try.prog 129 = some 1 := by kernel_rfl
theorem by129 : byOf Try.prog 129 = some 8 := by kernel_rfl
theorem zr129 : zrOf Try.prog 129 = some (.nilFunc) := by kernel_rfl
theorem g131 : aggOf Try.prog 131 = some false := by kernel_rfl
theorem z131 : szOf Try.prog 131 = some 1 := by kernel_rfl
theorem by131 : byOf Try.prog 131 = some 8 := by kernel_rfl
theorem zr131 : zrOf Try.prog 131 = some (.int .u64 (0)) := by kernel_rfl
theorem g133 : aggOf Try.prog 133 = some false := by kernel_rfl
theorem z133 : szOf Try.prog 133 = some 1 := by kernel_rfl
theorem by133 : byOf Try.prog 133 = some 8 := by kernel_rfl
theorem zr133 : zrOf Try.prog 133 = some (.nilFunc) := by kernel_rfl
theorem g135 : aggOf Try.prog 135 = some false := by kernel_rfl
theorem z135 : szOf Try.prog 135 = some 1 := by kernel_rfl
theorem by135 : byOf Try.prog 135 = some 8 := by kernel_rfl
theorem zr135 : zrOf Try.prog 135 = some (.nilFunc) := by kernel_rfl
theorem g138 : aggOf Try.prog 138 = some true := by kernel_rfl
theorem z138 : szOf Try.prog 138 = some 0 := by kernel_rfl
theorem by138 : byOf Try.prog 138 = some 0 := by kernel_rfl
theorem zr138 : zrOf Try.prog 138 = some (.agg [].toArray) := by kernel_rfl
theorem g139 : aggOf Try.prog 139 = some true := by kernel_rfl
theorem z139 : szOf Try.prog 139 = some 0 := by kernel_rfl
theorem by139 : byOf Try.prog 139 = some 0 := by kernel_rfl
theorem zr139 : zrOf Try.prog 139 = some (.agg [].toArray) := by kernel_rfl
theorem g140 : aggOf Try.prog 140 = some true := by kernel_rfl
theorem z140 : szOf Try.prog 140 = some 0 := by kernel_rfl
theorem by140 : byOf Try.prog 140 = some 0 := by kernel_rfl
theorem zr140 : zrOf Try.prog 140 = some (.agg [].toArray) := by kernel_rfl
theorem g149 : aggOf Try.prog 149 = some false := by kernel_rfl
theorem z149 : szOf Try.prog 149 = some 1 := by kernel_rfl
theorem by149 : byOf Try.prog 149 = some 8 := by kernel_rfl
theorem zr149 : zrOf Try.prog 149 = some (.nilFunc) := by kernel_rfl
theorem fo26_0 : fldOff Try.prog 26 0 = some (0, 22, 1) := by kernel_rfl
theorem fo26_1 : fldOff Try.prog 26 1 = some (1, 23, 1) := by kernel_rfl
theorem fo26_2 : fldOff Try.prog 26 2 = some (2, 24, 1) := by kernel_rfl
theorem fo52_0 : fldOff Try.prog 52 0 = some (0, 4, 1) := by kernel_rfl
theorem fo52_1 : fldOff Try.prog 52 1 = some (1, 23, 1) := by kernel_rfl
theorem fo52_2 : fldOff Try.prog 52 2 = some (2, 50, 1) := by kernel_rfl
theorem fo55_0 : fldOff Try.prog 55 0 = some (0, 3, 1) := by kernel_rfl
theorem fo55_1 : fldOff Try.prog 55 1 = some (1, 53, 1) := by kernel_rfl
theorem fo55_2 : fldOff Try.prog 55 2 = some (2, 23, 1) := by kernel_rfl
theorem fo55_3 : fldOff Try.prog 55 3 = some (3, 46, 1) := by kernel_rfl
theorem fo58_0 : fldOff Try.prog 58 0 = some (0, 23, 1) := by kernel_rfl
theorem fo58_1 : fldOff Try.prog 58 1 = some (1, 55, 4) := by kernel_rfl
theorem fo67_0 : fldOff Try.prog 67 0 = some (0, 23, 1) := by kernel_rfl
theorem fo67_1 : fldOff Try.prog 67 1 = some (1, 3, 1) := by kernel_rfl
theorem fo75_0 : fldOff Try.prog 75 0 = some (0, 24, 1) := by kernel_rfl
theorem fo81_0 : fldOff Try.prog 81 0 = some (0, 22, 1) := by kernel_rfl
theorem fo81_1 : fldOff Try.prog 81 1 = some (1, 30, 1) := by kernel_rfl
theorem fo81_2 : fldOff Try.prog 81 2 = some (2, 3, 1) := by kernel_rfl
theorem fo89_0 : fldOff Try.prog 89 0 = some (0, 22, 1) := by kernel_rfl
theorem fo89_1 : fldOff Try.prog 89 1 = some (1, 30, 1) := by kernel_rfl
theorem fo89_2 : fldOff Try.prog 89 2 = some (2, 3, 1) := by kernel_rfl
theorem fo92_0 : fldOff Try.prog 92 0 = some (0, 3, 1) := by kernel_rfl
theorem fo92_1 : fldOff Try.prog 92 1 = some (1, 9, 1) := by kernel_rfl
theorem fo92_2 : fldOff Try.prog 92 2 = some (2, 9, 1) := by kernel_rfl
theorem fo92_3 : fldOff Try.prog 92 3 = some (3, 4, 1) := by kernel_rfl
theorem pl26 : placesOf Try.prog 26 = some [(0, 1), (1, 1), (2, 1)] := by kernel_rfl
theorem pl52 : placesOf Try.prog 52 = some [(0, 1), (1, 1), (2, 1)] := by kernel_rfl
theorem pl55 : placesOf Try.prog 55 = some [(0, 1), (1, 1), (2, 1), (3, 1)] := by kernel_rfl
theorem pl58 : placesOf Try.prog 58 = some [(0, 1), (1, 4)] := by kernel_rfl
theorem pl67 : placesOf Try.prog 67 = some [(0, 1), (1, 1)] := by kernel_rfl
theorem pl75 : placesOf Try.prog 75 = some [(0, 1)] := by kernel_rfl
theorem pl81 : placesOf Try.prog 81 = some [(0, 1), (1, 1), (2, 1)] := by kernel_rfl
theorem pl89 : placesOf Try.prog 89 = some [(0, 1), (1, 1), (2, 1)] := by kernel_rfl
theorem pl92 : placesOf Try.prog 92 = some [(0, 1), (1, 1), (2, 1), (3, 1)] := by kernel_rfl
theorem cal3 : Callable Try.prog 3 := callable_of Try.func3 rfl (by kernel_rfl)
theorem cal4 : Callable Try.prog 4 := callable_of Try.func4 rfl (by kernel_rfl)
theorem cal5 : Callable Try.prog 5 := callable_of Try.func5 rfl (by kernel_rfl)
theorem cal6 : Callable Try.prog 6 := callable_of Try.func6 rfl (by kernel_rfl)
theorem cal7 : Callable Try.prog 7 := callable_of Try.func7 rfl (by kernel_rfl)
theorem cal8 : Callable Try.prog 8 := callable_of Try.func8 rfl (by kernel_rfl)
theorem cal9 : Callable Try.prog 9 := callable_of Try.func9 rfl (by kernel_rfl)
theorem cal10 : Callable Try.prog 10 := callable_of Try.func10 rfl (by kernel_rfl)
theorem cal11 : Callable Try.prog 11 := callable_of Try.func11 rfl (by kernel_rfl)
theorem cal12 : Callable Try.prog 12 := callable_of Try.func12 rfl (by kernel_rfl)
theorem cal13 : Callable Try.prog 13 := callable_of Try.func13 rfl (by kernel_rfl)
theorem cal14 : Callable Try.prog 14 := callable_of Try.func14 rfl (by kernel_rfl)
theorem cal15 : Callable Try.prog 15 := callable_of Try.func15 rfl (by kernel_rfl)
theorem cal16 : Callable Try.prog 16 := callable_of Try.func16 rfl (by kernel_rfl)
theorem cal17 : Callable Try.prog 17 := callable_of Try.func17 rfl (by kernel_rfl)
theorem cal18 : Callable Try.prog 18 := callable_of Try.func18 rfl (by kernel_rfl)
theorem cal19 : Callable Try.prog 19 := callable_of Try.func19 rfl (by kernel_rfl)
theorem cal20 : Callable Try.prog 20 := callable_of Try.func20 rfl (by kernel_rfl)
theorem cal21 : Callable Try.prog 21 := callable_of Try.func21 rfl (by kernel_rfl)
theorem cal22 : Callable Try.prog 22 := callable_of Try.func22 rfl (by kernel_rfl)
theorem cal23 : Callable Try.prog 23 := callable_of Try.func23 rfl (by kernel_rfl)
theorem cal24 : Callable Try.prog 24 := callable_of Try.func24 rfl (by kernel_rfl)
theorem cal25 : Callable Try.prog 25 := callable_of Try.func25 rfl (by kernel_rfl)
theorem cal26 : Callable Try.prog 26 := callable_of Try.func26 rfl (by kernel_rfl)
theorem cal27 : Callable Try.prog 27 := callable_of Try.func27 rfl (by kernel_rfl)
theorem cal28 : Callable Try.prog 28 := callable_of Try.func28 rfl (by kernel_rfl)
theorem cal29 : Callable Try.prog 29 := callable_of Try.func29 rfl (by kernel_rfl)
theorem cal30 : Callable Try.prog 30 := callable_of Try.func30 rfl (by kernel_rfl)
theorem cal31 : Callable Try.prog 31 := callable_of Try.func31 rfl (by kernel_rfl)
theorem cal32 : Callable Try.prog 32 := callable_of Try.func32 rfl (by kernel_rfl)
theorem cal33 : Callable Try.prog 33 := callable_of Try.func33 rfl (by kernel_rfl)
theorem cal34 : Callable Try.prog 34 := callable_of Try.func34 rfl (by kernel_rfl)
theorem cal35 : Callable Try.prog 35 := callable_of Try.func35 rfl (by kernel_rfl)
theorem cal36 : Callable Try.prog 36 := callable_of Try.func36 rfl (by kernel_rfl)
theorem cal37 : Callable Try.prog 37 := callable_of Try.func37 rfl (by kernel_rfl)
theorem cal38 : Callable Try.prog 38 := callable_of Try.func38 rfl (by kernel_rfl)
theorem cal39 : Callable Try.prog 39 := callable_of Try.func39 rfl (by kernel_rfl)
theorem cal40 : Callable Try.prog 40 := callable_of Try.func40 rfl (by kernel_rfl)
theorem cal41 : Callable Try.prog 41 := callable_of Try.func41 rfl (by kernel_rfl)
theorem cal42 : Callable Try.prog 42 := callable_of Try.func42 rfl (by kernel_rfl)
theorem cal43 : Callable Try.prog 43 := callable_of Try.func43 rfl (by kernel_rfl)
theorem cal44 : Callable Try.prog 44 := callable_of Try.func44 rfl (by kernel_rfl)
theorem cal45 : Callable Try.prog 45 := callable_of Try.func45 rfl (by kernel_rfl)
theorem cal46 : Callable Try.prog 46 := callable_of Try.func46 rfl (by kernel_rfl)
theorem cal47 : Callable Try.prog 47 := callable_of Try.func47 rfl (by kernel_rfl)
theorem cal48 : Callable Try.prog 48 := callable_of Try.func48 rfl (by kernel_rfl)
theorem cal49 : Callable Try.prog 49 := callable_of Try.func49 rfl (by kernel_rfl)
theorem cal50 : Callable Try.prog 50 := callable_of Try.func50 rfl (by kernel_rfl)
theorem cal51 : Callable Try.prog 51 := callable_of Try.func51 rfl (by kernel_rfl)
theorem cal52 : Callable Try.prog 52 := callable_of Try.func52 rfl (by kernel_rfl)
theorem cal53 : Callable Try.prog 53 := callable_of Try.func53 rfl (by kernel_rfl)
theorem cal54 : Callable Try.prog 54 := callable_of Try.func54 rfl (by kernel_rfl)
theorem cal55 : Callable Try.prog 55 := callable_of Try.func55 rfl (by kernel_rfl)
theorem cal56 : Callable Try.prog 56 := callable_of Try.func56 rfl (by kernel_rfl)
theorem cal57 : Callable Try.prog 57 := callable_of Try.func57 rfl (by kernel_rfl)
theorem cal58 : Callable Try.prog 58 := callable_of Try.func58 rfl (by kernel_rfl)
theorem cal59 : Callable Try.prog 59 := callable_of Try.func59 rfl (by kernel_rfl)
theorem cal60 : Callable Try.prog 60 := callable_of Try.func60 rfl (by kernel_rfl)
theorem cal61 : Callable Try.prog 61 := callable_of Try.func61 rfl (by kernel_rfl)
theorem cal62 : Callable Try.prog 62 := callable_of Try.func62 rfl (by kernel_rfl)
theorem cal63 : Callable Try.prog 63 := callable_of Try.func63 rfl (by kernel_rfl)
theorem cal64 : Callable Try.prog 64 := callable_of Try.func64 rfl (by kernel_rfl)
theorem cal65 : Callable Try.prog 65 := callable_of Try.func65 rfl (by kernel_rfl)
theorem cal66 : Callable Try.prog 66 := callable_of Try.func66 rfl (by kernel_rfl)
theorem cal67 : Callable Try.prog 67 := callable_of Try.func67 rfl (by kernel_rfl)
theorem cal68 : Callable Try.prog 68 := callable_of Try.func68 rfl (by kernel_rfl)
theorem cal69 : Callable Try.prog 69 := callable_of Try.func69 rfl (by kernel_rfl)
theorem cal70 : Callable Try.prog 70 := callable_of Try.func70 rfl (by kernel_rfl)
theorem cal71 : Callable Try.prog 71 := callable_of Try.func71 rfl (by kernel_rfl)
theorem cal72 : Callable Try.prog 72 := callable_of Try.func72 rfl (by kernel_rfl)
theorem cal73 : Callable Try.prog 73 := callable_of Try.func73 rfl (by kernel_rfl)
theorem cal74 : Callable Try.prog 74 := callable_of Try.func74 rfl (by kernel_rfl)
theorem cal75 : Callable Try.prog 75 := callable_of Try.func75 rfl (by kernel_rfl)
theorem cal76 : Callable Try.prog 76 := callable_of Try.func76 rfl (by kernel_rfl)
theorem cal77 : Callable Try.prog 77 := callable_of Try.func77 rfl (by kernel_rfl)
theorem cal78 : Callable Try.prog 78 := callable_of Try.func78 rfl (by kernel_rfl)
theorem cal79 : Callable Try.prog 79 := callable_of Try.func79 rfl (by kernel_rfl)
theorem cal80 : Callable Try.prog 80 := callable_of Try.func80 rfl (by kernel_rfl)
theorem cal81 : Callable Try.prog 81 := callable_of Try.func81 rfl (by kernel_rfl)
theorem cal82 : Callable Try.prog 82 := callable_of Try.func82 rfl (by kernel_rfl)
theorem cal83 : Callable Try.prog 83 := callable_of Try.func83 rfl (by kernel_rfl)
theorem cal84 : Callable Try.prog 84 := callable_of Try.func84 rfl (by kernel_rfl)
theorem cal85 : Callable Try.prog 85 := callable_of Try.func85 rfl (by kernel_rfl)
theorem cal86 : Callable Try.prog 86 := callable_of Try.func86 rfl (by kernel_rfl)
theorem cal87 : Callable Try.prog 87 := callable_of Try.func87 rfl (by kernel_rfl)
theorem cal88 : Callable Try.prog 88 := callable_of Try.func88 rfl (by kernel_rfl)
theorem cal89 : Callable Try.prog 89 := callable_of Try.func89 rfl (by kernel_rfl)
theorem cal90 : Callable Try.prog 90 := callable_of Try.func90 rfl (by kernel_rfl)
theorem cal91 : Callable Try.prog 91 := callable_of Try.func91 rfl (by kernel_rfl)
theorem cal92 : Callable Try.prog 92 := callable_of Try.func92 rfl (by kernel_rfl)
theorem cal93 : Callable Try.prog 93 := callable_of Try.func93 rfl (by kernel_rfl)
theorem cal96 : Callable Try.prog 96 := callable_of Try.func96 rfl (by kernel_rfl)
theorem cal97 : Callable Try.prog 97 := callable_of Try.func97 rfl (by kernel_rfl)
theorem cal98 : Callable Try.prog 98 := callable_of Try.func98 rfl (by kernel_rfl)
def undL : List (Nat × TypeDesc) := [(2, .int .i64), (3, .int .i64), (4, .bool), (5, .int .u8), (6, .int .u8), (9, .string), (10, .string), (11, .string), (12, .int .u64), (15, .pointer 137), (16, .pointer 140), (17, .pointer 148), (21, .int .i32), (22, .slice 58), (23, .int .u32), (24, .int .i64), (30, .slice 23), (46, .slice 52), (50, .slice 5), (53, .int .u64), (82, .pointer 81), (85, .pointer 89), (131, .int .u64), (138, .array 0 16)]
theorem und {t : TypeId} {x : TypeDesc} (h : lkL undL t = some x) : Try.prog.underlying t = some x := look (f := Try.prog.underlying) undL ⟨Try.underlying2, Try.underlying3, Try.underlying4, Try.underlying5, Try.underlying6, Try.underlying9, Try.underlying10, Try.underlying11, Try.underlying12, Try.underlying15, Try.underlying16, Try.underlying17, Try.underlying21, Try.underlying22, Try.underlying23, Try.underlying24, Try.underlying30, Try.underlying46, Try.underlying50, Try.underlying53, Try.underlying82, Try.underlying85, Try.underlying131, Try.underlying138, trivial⟩ h
theorem fl67 : flatD Try.prog 67 = some [.int .u32, .int .i64] := by kernel_rfl
theorem fl75 : flatD Try.prog 75 = some [.int .i64] := by kernel_rfl
theorem fl92 : flatD Try.prog 92 = some [.int .i64, .string, .string, .bool] := by kernel_rfl
def flatL : List (Nat × List TypeDesc) := [(67, [.int .u32, .int .i64]), (75, [.int .i64]), (92, [.int .i64, .string, .string, .bool])]
theorem flat {t : TypeId} {x : List TypeDesc} (h : lkL flatL t = some x) : flatD Try.prog t = some x := look (f := flatD Try.prog) flatL ⟨fl67, fl75, fl92, trivial⟩ h
def aggL : List (Nat × Bool) := [(1, false), (2, false), (3, false), (4, false), (5, false), (6, false), (7, true), (8, true), (9, false), (10, false), (11, false), (12, false), (13, true), (14, true), (15, false), (16, false), (17, false), (18, true), (19, true), (20, false), (21, false), (22, false), (23, false), (24, false), (25, true), (26, true), (27, false), (28, false), (29, false), (30, false), (32, false), (33, false), (34, false), (36, false), (37, false), (38, false), (39, false), (40, false), (42, false), (43, false), (44, false), (45, false), (46, false), (48, false), (49, false), (50, false), (51, true), (52, true), (53, false), (54, true), (55, true), (57, true), (58, true), (61, false), (64, false), (65, false), (66, true), (67, true), (69, false), (70, false), (73, false), (74, true), (75, true), (76, false), (79, false), (80, true), (81, true), (82, false), (83, false), (84, false), (85, false), (88, true), (89, true), (91, true), (92, true), (93, false), (94, false), (95, false), (96, false), (97, false), (100, false), (101, false), (102, false), (103, false), (105, false), (108, false), (109, false), (110, false), (114, false), (117, false), (121, false), (123, false), (125, false), (126, false), (127, false), (128, false), (129, false), (131, false), (133, false), (135, false), (138, true), (139, true), (140, true), (149, false)]
theorem agg {t : TypeId} {x : Bool} (h : lkL aggL t = some x) : aggOf Try.prog t = some x := look (f := aggOf Try.prog) aggL ⟨g1, g2, g3, g4, g5, g6, g7, g8, g9, g10, g11, g12, g13, g14, g15, g16, g17, g18, g19, g20, g21, g22, g23, g24, g25, g26, g27, g28, g29, g30, g32, g33, g34, g36, g37, g38, g39, g40, g42, g43, g44, g45, g46, g48, g49, g50, g51, g52, g53, g54, g55, g57, g58, g61, g64, g65, g66, g67, g69, g70, g73, g74, g75, g76, g79, g80, g81, g82, g83, g84, g85, g88, g89, g91, g92, g93, g94, g95, g96, g97, g100, g101, g102, g103, g105, g108, g109, g110, g114, g117, g121, g123, g125, g126, g127, g128, g129, g131, g133, g135, g138, g139, g140, g149, trivial⟩ h
def szL : List (Nat × Nat) := [(1, 1), (2, 1), (3, 1), (4, 1), (5, 1), (6, 1), (7, 4), (8, 4), (9, 1), (10, 1), (11, 1), (12, 1), (13, 2), (14, 2), (15, 1), (16, 1), (17, 1), (18, 1), (19, 1), (20, 1), (21, 1), (22, 1), (23, 1), (24, 1), (25, 3), (26, 3), (27, 1), (28, 1), (29, 1), (30, 1), (32, 1), (33, 1), (34, 1), (36, 1), (37, 1), (38, 1), (39, 1), (40, 1), (42, 1), (43, 1), (44, 1), (45, 1), (46, 1), (48, 1), (49, 1), (50, 1), (51, 3), (52, 3), (53, 1), (54, 4), (55, 4), (57, 5), (58, 5), (61, 1), (64, 1), (65, 1), (66, 2), (67, 2), (69, 1), (70, 1), (73, 1), (74, 1), (75, 1), (76, 1), (79, 1), (80, 3), (81, 3), (82, 1), (83, 1), (84, 1), (85, 1), (88, 3), (89, 3), (91, 4), (92, 4), (93, 1), (94, 1), (95, 1), (96, 1), (97, 1), (100, 1), (101, 1), (102, 1), (103, 1), (105, 1), (108, 1), (109, 1), (110, 1), (114, 1), (117, 1), (121, 1), (123, 1), (125, 1), (126, 1), (127, 1), (128, 1), (129, 1), (131, 1), (133, 1), (135, 1), (138, 0), (139, 0), (140, 0), (149, 1)]
theorem sz {t : TypeId} {x : Nat} (h : lkL szL t = some x) : szOf Try.prog t = some x := look (f := szOf Try.prog) szL ⟨z1, z2, z3, z4, z5, z6, z7, z8, z9, z10, z11, z12, z13, z14, z15, z16, z17, z18, z19, z20, z21, z22, z23, z24, z25, z26, z27, z28, z29, z30, z32, z33, z34, z36, z37, z38, z39, z40, z42, z43, z44, z45, z46, z48, z49, z50, z51, z52, z53, z54, z55, z57, z58, z61, z64, z65, z66, z67, z69, z70, z73, z74, z75, z76, z79, z80, z81, z82, z83, z84, z85, z88, z89, z91, z92, z93, z94, z95, z96, z97, z100, z101, z102, z103, z105, z108, z109, z110, z114, z117, z121, z123, z125, z126, z127, z128, z129, z131, z133, z135, z138, z139, z140, z149, trivial⟩ h
def zrL : List (Nat × Value) := [(1, .nilFunc), (2, .int .i64 (0)), (3, .int .i64 (0)), (4, .bool false), (5, .int .u8 (0)), (6, .int .u8 (0)), (7, .agg [.int .i64 (0), .int .i64 (0), .bool false, .int .u8 (0)].toArray), (8, .agg [.int .i64 (0), .int .i64 (0), .bool false, .int .u8 (0)].toArray), (9, .string ⟨#[]⟩), (10, .string ⟨#[]⟩), (11, .string ⟨#[]⟩), (12, .int .u64 (0)), (13, .agg [.string ⟨#[]⟩, .int .u64 (0)].toArray), (14, .agg [.string ⟨#[]⟩, .int .u64 (0)].toArray), (15, .pointer none), (16, .pointer none), (17, .pointer none), (18, .agg [.pointer none].toArray), (19, .agg [.pointer none].toArray), (20, .nilIface), (21, .int .i32 (0)), (22, .slice none 0 0), (23, .int .u32 (0)), (24, .int .i64 (0)), (25, .agg [.slice none 0 0, .int .u32 (0), .int .i64 (0)].toArray), (26, .agg [.slice none 0 0, .int .u32 (0), .int .i64 (0)].toArray), (27, .nilFunc), (28, .nilFunc), (29, .nilFunc), (30, .slice none 0 0), (32, .nilFunc), (33, .nilFunc), (34, .nilFunc), (36, .nilFunc), (37, .nilFunc), (38, .nilFunc), (39, .nilFunc), (40, .nilFunc), (42, .nilFunc), (43, .nilFunc), (44, .nilFunc), (45, .nilFunc), (46, .slice none 0 0), (48, .nilFunc), (49, .nilFunc), (50, .slice none 0 0), (51, .agg [.bool false, .int .u32 (0), .slice none 0 0].toArray), (52, .agg [.bool false, .int .u32 (0), .slice none 0 0].toArray), (53, .int .u64 (0)), (54, .agg [.int .i64 (0), .int .u64 (0), .int .u32 (0), .slice none 0 0].toArray), (55, .agg [.int .i64 (0), .int .u64 (0), .int .u32 (0), .slice none 0 0].toArray), (57, .agg [.int .u32 (0), .int .i64 (0), .int .u64 (0), .int .u32 (0), .slice none 0 0].toArray), (58, .agg [.int .u32 (0), .int .i64 (0), .int .u64 (0), .int .u32 (0), .slice none 0 0].toArray), (61, .nilFunc), (64, .nilFunc), (65, .nilFunc), (66, .agg [.int .u32 (0), .int .i64 (0)].toArray), (67, .agg [.int .u32 (0), .int .i64 (0)].toArray), (69, .nilFunc), (70, .nilFunc), (73, .nilFunc), (74, .agg [.int .i64 (0)].toArray), (75, .agg [.int .i64 (0)].toArray), (76, .nilFunc), (79, .nilFunc), (80, .agg [.slice none 0 0, .slice none 0 0, .int .i64 (0)].toArray), (81, .agg [.slice none 0 0, .slice none 0 0, .int .i64 (0)].toArray), (82, .pointer none), (83, .nilFunc), (84, .nilFunc), (85, .pointer none), (88, .agg [.slice none 0 0, .slice none 0 0, .int .i64 (0)].toArray), (89, .agg [.slice none 0 0, .slice none 0 0, .int .i64 (0)].toArray), (91, .agg [.int .i64 (0), .string ⟨#[]⟩, .string ⟨#[]⟩, .bool false].toArray), (92, .agg [.int .i64 (0), .string ⟨#[]⟩, .string ⟨#[]⟩, .bool false].toArray), (93, .nilFunc), (94, .nilFunc), (95, .nilFunc), (96, .nilFunc), (97, .nilFunc), (100, .nilFunc), (101, .nilFunc), (102, .nilFunc), (103, .nilFunc), (105, .nilFunc), (108, .nilFunc), (109, .nilFunc), (110, .nilFunc), (114, .nilFunc), (117, .map none), (121, .nilFunc), (123, .nilFunc), (125, .nilFunc), (126, .nilFunc), (127, .nilFunc), (128, .nilFunc), (129, .nilFunc), (131, .int .u64 (0)), (133, .nilFunc), (135, .nilFunc), (138, .agg [].toArray), (139, .agg [].toArray), (140, .agg [].toArray), (149, .nilFunc)]
theorem zr {t : TypeId} {x : Value} (h : lkL zrL t = some x) : zrOf Try.prog t = some x := look (f := zrOf Try.prog) zrL ⟨zr1, zr2, zr3, zr4, zr5, zr6, zr7, zr8, zr9, zr10, zr11, zr12, zr13, zr14, zr15, zr16, zr17, zr18, zr19, zr20, zr21, zr22, zr23, zr24, zr25, zr26, zr27, zr28, zr29, zr30, zr32, zr33, zr34, zr36, zr37, zr38, zr39, zr40, zr42, zr43, zr44, zr45, zr46, zr48, zr49, zr50, zr51, zr52, zr53, zr54, zr55, zr57, zr58, zr61, zr64, zr65, zr66, zr67, zr69, zr70, zr73, zr74, zr75, zr76, zr79, zr80, zr81, zr82, zr83, zr84, zr85, zr88, zr89, zr91, zr92, zr93, zr94, zr95, zr96, zr97, zr100, zr101, zr102, zr103, zr105, zr108, zr109, zr110, zr114, zr117, zr121, zr123, zr125, zr126, zr127, zr128, zr129, zr131, zr133, zr135, zr138, zr139, zr140, zr149, trivial⟩ h
def bytL : List (Nat × Nat) := [(1, 8), (2, 8), (3, 8), (4, 1), (5, 1), (6, 1), (7, 24), (8, 24), (9, 16), (10, 16), (11, 16), (12, 8), (13, 24), (14, 24), (15, 8), (16, 8), (17, 8), (18, 8), (19, 8), (20, 16), (21, 4), (22, 24), (23, 4), (24, 8), (25, 40), (26, 40), (27, 8), (28, 8), (29, 8), (30, 24), (32, 8), (33, 8), (34, 8), (36, 8), (37, 8), (38, 8), (39, 8), (40, 8), (42, 8), (43, 8), (44, 8), (45, 8), (46, 24), (48, 8), (49, 8), (50, 24), (51, 32), (52, 32), (53, 8), (54, 48), (55, 48), (57, 56), (58, 56), (61, 8), (64, 8), (65, 8), (66, 16), (67, 16), (69, 8), (70, 8), (73, 8), (74, 8), (75, 8), (76, 8), (79, 8), (80, 56), (81, 56), (82, 8), (83, 8), (84, 8), (85, 8), (88, 56), (89, 56), (91, 48), (92, 48), (93, 8), (94, 8), (95, 8), (96, 8), (97, 8), (100, 8), (101, 8), (102, 8), (103, 8), (105, 8), (108, 8), (109, 8), (110, 8), (114, 8), (117, 8), (121, 8), (123, 8), (125, 8), (126, 8), (127, 8), (128, 8), (129, 8), (131, 8), (133, 8), (135, 8), (138, 0), (139, 0), (140, 0), (149, 8)]
theorem byt {t : TypeId} {x : Nat} (h : lkL bytL t = some x) : byOf Try.prog t = some x := look (f := byOf Try.prog) bytL ⟨by1, by2, by3, by4, by5, by6, by7, by8, by9, by10, by11, by12, by13, by14, by15, by16, by17, by18, by19, by20, by21, by22, by23, by24, by25, by26, by27, by28, by29, by30, by32, by33, by34, by36, by37, by38, by39, by40, by42, by43, by44, by45, by46, by48, by49, by50, by51, by52, by53, by54, by55, by57, by58, by61, by64, by65, by66, by67, by69, by70, by73, by74, by75, by76, by79, by80, by81, by82, by83, by84, by85, by88, by89, by91, by92, by93, by94, by95, by96, by97, by100, by101, by102, by103, by105, by108, by109, by110, by114, by117, by121, by123, by125, by126, by127, by128, by129, by131, by133, by135, by138, by139, by140, by149, trivial⟩ h
def lkP {α : Type} : List (Nat × Nat × α) → Nat → Nat → Option α
  | [], _, _ => none
  | (k, j, v) :: E, t, i => match Nat.beq k t && Nat.beq j i with
    | true => some v
    | false => lkP E t i
def allP {α : Type} (f : Nat → Nat → Option α) : List (Nat × Nat × α) → Prop
  | [] => True
  | p :: l => f p.1 p.2.1 = some p.2.2 ∧ allP f l
theorem lookP {α : Type} {f : Nat → Nat → Option α} : ∀ (l : List (Nat × Nat × α)), allP f l → ∀ {t i : Nat} {x : α}, lkP l t i = some x → f t i = some x
  | [], _, _, _, _, h => (Option.some_ne_none _ h.symm).elim
  | (k, j, v) :: E, hA, t, i, x, h => by
    unfold lkP at h
    cases hb : Nat.beq k t && Nat.beq j i with
    | true =>
      rw [hb] at h
      simp only [Bool.and_eq_true] at hb
      obtain rfl := Nat.eq_of_beq_eq_true hb.1
      obtain rfl := Nat.eq_of_beq_eq_true hb.2
      cases h
      exact hA.1
    | false =>
      rw [hb] at h
      exact lookP E hA.2 h
def foL : List (Nat × Nat × (Nat × Nat × Nat)) := [(26, 0, (0, 22, 1)), (26, 1, (1, 23, 1)), (26, 2, (2, 24, 1)), (52, 0, (0, 4, 1)), (52, 1, (1, 23, 1)), (52, 2, (2, 50, 1)), (55, 0, (0, 3, 1)), (55, 1, (1, 53, 1)), (55, 2, (2, 23, 1)), (55, 3, (3, 46, 1)), (58, 0, (0, 23, 1)), (58, 1, (1, 55, 4)), (67, 0, (0, 23, 1)), (67, 1, (1, 3, 1)), (75, 0, (0, 24, 1)), (81, 0, (0, 22, 1)), (81, 1, (1, 30, 1)), (81, 2, (2, 3, 1)), (89, 0, (0, 22, 1)), (89, 1, (1, 30, 1)), (89, 2, (2, 3, 1)), (92, 0, (0, 3, 1)), (92, 1, (1, 9, 1)), (92, 2, (2, 9, 1)), (92, 3, (3, 4, 1))]
theorem fo {t : TypeId} {i : Nat} {x : Nat × Nat × Nat} (h : lkP foL t i = some x) : fldOff Try.prog t i = some x := lookP (f := fldOff Try.prog) foL ⟨fo26_0, fo26_1, fo26_2, fo52_0, fo52_1, fo52_2, fo55_0, fo55_1, fo55_2, fo55_3, fo58_0, fo58_1, fo67_0, fo67_1, fo75_0, fo81_0, fo81_1, fo81_2, fo89_0, fo89_1, fo89_2, fo92_0, fo92_1, fo92_2, fo92_3, trivial⟩ h
def lkC : List Nat → Nat → Bool
  | [], _ => false
  | k :: E, t => match Nat.beq k t with
    | true => true
    | false => lkC E t
def allC (Q : Nat → Prop) : List Nat → Prop
  | [] => True
  | p :: l => Q p ∧ allC Q l
theorem lookC {Q : Nat → Prop} : ∀ (l : List Nat), allC Q l → ∀ {t : Nat}, lkC l t = true → Q t
  | [], _, _, h => (Bool.false_ne_true h).elim
  | k :: E, hA, t, h => by
    unfold lkC at h
    cases hb : Nat.beq k t with
    | true => obtain rfl := Nat.eq_of_beq_eq_true hb; exact hA.1
    | false => rw [hb] at h; exact lookC E hA.2 h
def calL : List Nat := [3, 4, 5, 6, 7, 8, 9, 10, 11, 12, 13, 14, 15, 16, 17, 18, 19, 20, 21, 22, 23, 24, 25, 26, 27, 28, 29, 30, 31, 32, 33, 34, 35, 36, 37, 38, 39, 40, 41, 42, 43, 44, 45, 46, 47, 48, 49, 50, 51, 52, 53, 54, 55, 56, 57, 58, 59, 60, 61, 62, 63, 64, 65, 66, 67, 68, 69, 70, 71, 72, 73, 74, 75, 76, 77, 78, 79, 80, 81, 82, 83, 84, 85, 86, 87, 88, 89, 90, 91, 92, 93, 96, 97, 98]
theorem cal {t : Nat} (h : lkC calL t = true) : Callable Try.prog t := lookC (Q := Callable Try.prog) calL ⟨cal3, cal4, cal5, cal6, cal7, cal8, cal9, cal10, cal11, cal12, cal13, cal14, cal15, cal16, cal17, cal18, cal19, cal20, cal21, cal22, cal23, cal24, cal25, cal26, cal27, cal28, cal29, cal30, cal31, cal32, cal33, cal34, cal35, cal36, cal37, cal38, cal39, cal40, cal41, cal42, cal43, cal44, cal45, cal46, cal47, cal48, cal49, cal50, cal51, cal52, cal53, cal54, cal55, cal56, cal57, cal58, cal59, cal60, cal61, cal62, cal63, cal64, cal65, cal66, cal67, cal68, cal69, cal70, cal71, cal72, cal73, cal74, cal75, cal76, cal77, cal78, cal79, cal80, cal81, cal82, cal83, cal84, cal85, cal86, cal87, cal88, cal89, cal90, cal91, cal92, cal93, cal96, cal97, cal98, trivial⟩ h
def plL : List (Nat × List (Nat × Nat)) := [(26, [(0, 1), (1, 1), (2, 1)]), (52, [(0, 1), (1, 1), (2, 1)]), (55, [(0, 1), (1, 1), (2, 1), (3, 1)]), (58, [(0, 1), (1, 4)]), (67, [(0, 1), (1, 1)]), (75, [(0, 1)]), (81, [(0, 1), (1, 1), (2, 1)]), (89, [(0, 1), (1, 1), (2, 1)]), (92, [(0, 1), (1, 1), (2, 1), (3, 1)])]
theorem pl {t : TypeId} {x : List (Nat × Nat)} (h : lkL plL t = some x) : placesOf Try.prog t = some x := look (f := placesOf Try.prog) plL ⟨pl26, pl52, pl55, pl58, pl67, pl75, pl81, pl89, pl92, trivial⟩ h
theorem mixed : Try.prog.follows .mixedOrders = true := by kernel_rfl
end Go.Proofs.Ytahdbncfegedjaa.Fx
