/-
  Closed facts on the types and the functions of this seat. Written by program (facts.py). Conditions: none.
-/
import Derived.Test.YtahdbncfegedjaaGreatKY
import Derived.Test.YtahdbncfegedjaaGreatProg
import Derived.KernelRfl
namespace Go.Proofs.YtahdbncfegedjaaGreat.Fx
open Go Go.K Go.Proofs
set_option linter.unusedVariables false
/-- a table, looked up -/
def lkL {α : Type} : List (Nat × α) → Nat → Option α
  | [], _ => none
  | (k, v) :: E, t => match Nat.beq k t with
    | true => some v
    | false => lkL E t
def allL {α : Type} (f : Nat → Option α) : List (Nat × α) → Prop
  | [] => True
  | p :: l => f p.1 = some p.2 ∧ allL f l
theorem look {α : Type} {f : Nat → Option α} : ∀ (l : List (Nat × α)), allL f l → ∀ {t : Nat} {x : α}, lkL l t = some x → f t = some x
  | [], _, _, _, h => (Option.some_ne_none _ h.symm).elim
  | (k, v) :: E, hA, t, x, h => by
    unfold lkL at h
    split at h
    · rename_i hb
      rw [← Nat.eq_of_beq_eq_true hb, ← h]
      exact hA.1
    · exact look E hA.2 h
theorem g1 : aggOf Tryz.prog 1 = some false := by kernel_rfl
theorem z1 : szOf Tryz.prog 1 = some 1 := by kernel_rfl
theorem by1 : byOf Tryz.prog 1 = some 8 := by kernel_rfl
theorem zr1 : zrOf Tryz.prog 1 = some (.nilFunc) := by kernel_rfl
theorem g2 : aggOf Tryz.prog 2 = some false := by kernel_rfl
theorem z2 : szOf Tryz.prog 2 = some 1 := by kernel_rfl
theorem by2 : byOf Tryz.prog 2 = some 8 := by kernel_rfl
theorem zr2 : zrOf Tryz.prog 2 = some (.int .i64 (0)) := by kernel_rfl
theorem g3 : aggOf Tryz.prog 3 = some false := by kernel_rfl
theorem z3 : szOf Tryz.prog 3 = some 1 := by kernel_rfl
theorem by3 : byOf Tryz.prog 3 = some 8 := by kernel_rfl
theorem zr3 : zrOf Tryz.prog 3 = some (.int .i64 (0)) := by kernel_rfl
theorem g4 : aggOf Tryz.prog 4 = some false := by kernel_rfl
theorem z4 : szOf Tryz.prog 4 = some 1 := by kernel_rfl
theorem by4 : byOf Tryz.prog 4 = some 1 := by kernel_rfl
theorem zr4 : zrOf Tryz.prog 4 = some (.bool false) := by kernel_rfl
theorem g5 : aggOf Tryz.prog 5 = some false := by kernel_rfl
theorem z5 : szOf Tryz.prog 5 = some 1 := by kernel_rfl
theorem by5 : byOf Tryz.prog 5 = some 1 := by kernel_rfl
theorem zr5 : zrOf Tryz.prog 5 = some (.int .u8 (0)) := by kernel_rfl
theorem g6 : aggOf Tryz.prog 6 = some false := by kernel_rfl
theorem z6 : szOf Tryz.prog 6 = some 1 := by kernel_rfl
theorem by6 : byOf Tryz.prog 6 = some 1 := by kernel_rfl
theorem zr6 : zrOf Tryz.prog 6 = some (.int .u8 (0)) := by kernel_rfl
theorem g7 : aggOf Tryz.prog 7 = some true := by kernel_rfl
theorem z7 : szOf Tryz.prog 7 = some 4 := by kernel_rfl
theorem by7 : byOf Tryz.prog 7 = some 24 := by kernel_rfl
theorem zr7 : zrOf Tryz.prog 7 = some (.agg [.int .i64 (0), .int .i64 (0), .bool false, .int .u8 (0)].toArray) := by kernel_rfl
theorem g8 : aggOf Tryz.prog 8 = some true := by kernel_rfl
theorem z8 : szOf Tryz.prog 8 = some 4 := by kernel_rfl
theorem by8 : byOf Tryz.prog 8 = some 24 := by kernel_rfl
theorem zr8 : zrOf Tryz.prog 8 = some (.agg [.int .i64 (0), .int .i64 (0), .bool false, .int .u8 (0)].toArray) := by kernel_rfl
theorem g9 : aggOf Tryz.prog 9 = some false := by kernel_rfl
theorem z9 : szOf Tryz.prog 9 = some 1 := by kernel_rfl
theorem by9 : byOf Tryz.prog 9 = some 16 := by kernel_rfl
theorem zr9 : zrOf Tryz.prog 9 = some (.string ⟨#[]⟩) := by kernel_rfl
theorem g10 : aggOf Tryz.prog 10 = some false := by kernel_rfl
theorem z10 : szOf Tryz.prog 10 = some 1 := by kernel_rfl
theorem by10 : byOf Tryz.prog 10 = some 16 := by kernel_rfl
theorem zr10 : zrOf Tryz.prog 10 = some (.string ⟨#[]⟩) := by kernel_rfl
theorem g11 : aggOf Tryz.prog 11 = some false := by kernel_rfl
theorem z11 : szOf Tryz.prog 11 = some 1 := by kernel_rfl
theorem by11 : byOf Tryz.prog 11 = some 16 := by kernel_rfl
theorem zr11 : zrOf Tryz.prog 11 = some (.string ⟨#[]⟩) := by kernel_rfl
theorem g12 : aggOf Tryz.prog 12 = some false := by kernel_rfl
theorem z12 : szOf Tryz.prog 12 = some 1 := by kernel_rfl
theorem by12 : byOf Tryz.prog 12 = some 8 := by kernel_rfl
theorem zr12 : zrOf Tryz.prog 12 = some (.int .u64 (0)) := by kernel_rfl
theorem g13 : aggOf Tryz.prog 13 = some true := by kernel_rfl
theorem z13 : szOf Tryz.prog 13 = some 2 := by kernel_rfl
theorem by13 : byOf Tryz.prog 13 = some 24 := by kernel_rfl
theorem zr13 : zrOf Tryz.prog 13 = some (.agg [.string ⟨#[]⟩, .int .u64 (0)].toArray) := by kernel_rfl
theorem g14 : aggOf Tryz.prog 14 = some true := by kernel_rfl
theorem z14 : szOf Tryz.prog 14 = some 2 := by kernel_rfl
theorem by14 : byOf Tryz.prog 14 = some 24 := by kernel_rfl
theorem zr14 : zrOf Tryz.prog 14 = some (.agg [.string ⟨#[]⟩, .int .u64 (0)].toArray) := by kernel_rfl
theorem g15 : aggOf Tryz.prog 15 = some false := by kernel_rfl
theorem z15 : szOf Tryz.prog 15 = some 1 := by kernel_rfl
theorem by15 : byOf Tryz.prog 15 = some 8 := by kernel_rfl
theorem zr15 : zrOf Tryz.prog 15 = some (.pointer none) := by kernel_rfl
theorem g16 : aggOf Tryz.prog 16 = some false := by kernel_rfl
theorem z16 : szOf Tryz.prog 16 = some 1 := by kernel_rfl
theorem by16 : byOf Tryz.prog 16 = some 8 := by kernel_rfl
theorem zr16 : zrOf Tryz.prog 16 = some (.pointer none) := by kernel_rfl
theorem g17 : aggOf Tryz.prog 17 = some false := by kernel_rfl
theorem z17 : szOf Tryz.prog 17 = some 1 := by kernel_rfl
theorem by17 : byOf Tryz.prog 17 = some 8 := by kernel_rfl
theorem zr17 : zrOf Tryz.prog 17 = some (.pointer none) := by kernel_rfl
theorem g18 : aggOf Tryz.prog 18 = some true := by kernel_rfl
theorem z18 : szOf Tryz.prog 18 = some 1 := by kernel_rfl
theorem by18 : byOf Tryz.prog 18 = some 8 := by kernel_rfl
theorem zr18 : zrOf Tryz.prog 18 = some (.agg [.pointer none].toArray) := by kernel_rfl
theorem g19 : aggOf Tryz.prog 19 = some true := by kernel_rfl
theorem z19 : szOf Tryz.prog 19 = some 1 := by kernel_rfl
theorem by19 : byOf Tryz.prog 19 = some 8 := by kernel_rfl
theorem zr19 : zrOf Tryz.prog 19 = some (.agg [.pointer none].toArray) := by kernel_rfl
theorem g20 : aggOf Tryz.prog 20 = some false := by kernel_rfl
theorem z20 : szOf Tryz.prog 20 = some 1 := by kernel_rfl
theorem by20 : byOf Tryz.prog 20 = some 16 := by kernel_rfl
theorem zr20 : zrOf Tryz.prog 20 = some (.nilIface) := by kernel_rfl
theorem g21 : aggOf Tryz.prog 21 = some false := by kernel_rfl
theorem z21 : szOf Tryz.prog 21 = some 1 := by kernel_rfl
theorem by21 : byOf Tryz.prog 21 = some 4 := by kernel_rfl
theorem zr21 : zrOf Tryz.prog 21 = some (.int .i32 (0)) := by kernel_rfl
theorem g22 : aggOf Tryz.prog 22 = some false := by kernel_rfl
theorem z22 : szOf Tryz.prog 22 = some 1 := by kernel_rfl
theorem by22 : byOf Tryz.prog 22 = some 24 := by kernel_rfl
theorem zr22 : zrOf Tryz.prog 22 = some (.slice none 0 0) := by kernel_rfl
theorem g23 : aggOf Tryz.prog 23 = some false := by kernel_rfl
theorem z23 : szOf Tryz.prog 23 = some 1 := by kernel_rfl
theorem by23 : byOf Tryz.prog 23 = some 4 := by kernel_rfl
theorem zr23 : zrOf Tryz.prog 23 = some (.int .u32 (0)) := by kernel_rfl
theorem g24 : aggOf Tryz.prog 24 = some false := by kernel_rfl
theorem z24 : szOf Tryz.prog 24 = some 1 := by kernel_rfl
theorem by24 : byOf Tryz.prog 24 = some 8 := by kernel_rfl
theorem zr24 : zrOf Tryz.prog 24 = some (.int .i64 (0)) := by kernel_rfl
theorem g25 : aggOf Tryz.prog 25 = some true := by kernel_rfl
theorem z25 : szOf Tryz.prog 25 = some 3 := by kernel_rfl
theorem by25 : byOf Tryz.prog 25 = some 40 := by kernel_rfl
theorem zr25 : zrOf Tryz.prog 25 = some (.agg [.slice none 0 0, .int .u32 (0), .int .i64 (0)].toArray) := by kernel_rfl
theorem g26 : aggOf Tryz.prog 26 = some true := by kernel_rfl
theorem z26 : szOf Tryz.prog 26 = some 3 := by kernel_rfl
theorem by26 : byOf Tryz.prog 26 = some 40 := by kernel_rfl
theorem zr26 : zrOf Tryz.prog 26 = some (.agg [.slice none 0 0, .int .u32 (0), .int .i64 (0)].toArray) := by kernel_rfl
theorem g27 : aggOf Tryz.prog 27 = some false := by kernel_rfl
theorem z27 : szOf Tryz.prog 27 = some 1 := by kernel_rfl
theorem by27 : byOf Tryz.prog 27 = some 8 := by kernel_rfl
theorem zr27 : zrOf Tryz.prog 27 = some (.nilFunc) := by kernel_rfl
theorem g28 : aggOf Tryz.prog 28 = some false := by kernel_rfl
theorem z28 : szOf Tryz.prog 28 = some 1 := by kernel_rfl
theorem by28 : byOf Tryz.prog 28 = some 8 := by kernel_rfl
theorem zr28 : zrOf Tryz.prog 28 = some (.nilFunc) := by kernel_rfl
theorem g29 : aggOf Tryz.prog 29 = some false := by kernel_rfl
theorem z29 : szOf Tryz.prog 29 = some 1 := by kernel_rfl
theorem by29 : byOf Tryz.prog 29 = some 8 := by kernel_rfl
theorem zr29 : zrOf Tryz.prog 29 = some (.nilFunc) := by kernel_rfl
theorem g30 : aggOf Tryz.prog 30 = some false := by kernel_rfl
theorem z30 : szOf Tryz.prog 30 = some 1 := by kernel_rfl
theorem by30 : byOf Tryz.prog 30 = some 24 := by kernel_rfl
theorem zr30 : zrOf Tryz.prog 30 = some (.slice none 0 0) := by kernel_rfl
theorem g32 : aggOf Tryz.prog 32 = some false := by kernel_rfl
theorem z32 : szOf Tryz.prog 32 = some 1 := by kernel_rfl
theorem by32 : byOf Tryz.prog 32 = some 8 := by kernel_rfl
theorem zr32 : zrOf Tryz.prog 32 = some (.nilFunc) := by kernel_rfl
theorem g33 : aggOf Tryz.prog 33 = some false := by kernel_rfl
theorem z33 : szOf Tryz.prog 33 = some 1 := by kernel_rfl
theorem by33 : byOf Tryz.prog 33 = some 8 := by kernel_rfl
theorem zr33 : zrOf Tryz.prog 33 = some (.nilFunc) := by kernel_rfl
theorem g34 : aggOf Tryz.prog 34 = some false := by kernel_rfl
theorem z34 : szOf Tryz.prog 34 = some 1 := by kernel_rfl
theorem by34 : byOf Tryz.prog 34 = some 8 := by kernel_rfl
theorem zr34 : zrOf Tryz.prog 34 = some (.nilFunc) := by kernel_rfl
theorem g35 : aggOf Tryz.prog 35 = some false := by kernel_rfl
theorem z35 : szOf Tryz.prog 35 = some 1 := by kernel_rfl
theorem by35 : byOf Tryz.prog 35 = some 24 := by kernel_rfl
theorem zr35 : zrOf Tryz.prog 35 = some (.slice none 0 0) := by kernel_rfl
theorem g37 : aggOf Tryz.prog 37 = some false := by kernel_rfl
theorem z37 : szOf Tryz.prog 37 = some 1 := by kernel_rfl
theorem by37 : byOf Tryz.prog 37 = some 8 := by kernel_rfl
theorem zr37 : zrOf Tryz.prog 37 = some (.nilFunc) := by kernel_rfl
theorem g38 : aggOf Tryz.prog 38 = some false := by kernel_rfl
theorem z38 : szOf Tryz.prog 38 = some 1 := by kernel_rfl
theorem by38 : byOf Tryz.prog 38 = some 8 := by kernel_rfl
theorem zr38 : zrOf Tryz.prog 38 = some (.nilFunc) := by kernel_rfl
theorem g39 : aggOf Tryz.prog 39 = some false := by kernel_rfl
theorem z39 : szOf Tryz.prog 39 = some 1 := by kernel_rfl
theorem by39 : byOf Tryz.prog 39 = some 8 := by kernel_rfl
theorem zr39 : zrOf Tryz.prog 39 = some (.nilFunc) := by kernel_rfl
theorem g40 : aggOf Tryz.prog 40 = some false := by kernel_rfl
theorem z40 : szOf Tryz.prog 40 = some 1 := by kernel_rfl
theorem by40 : byOf Tryz.prog 40 = some 8 := by kernel_rfl
theorem zr40 : zrOf Tryz.prog 40 = some (.nilFunc) := by kernel_rfl
theorem g41 : aggOf Tryz.prog 41 = some false := by kernel_rfl
theorem z41 : szOf Tryz.prog 41 = some 1 := by kernel_rfl
theorem by41 : byOf Tryz.prog 41 = some 8 := by kernel_rfl
theorem zr41 : zrOf Tryz.prog 41 = some (.nilFunc) := by kernel_rfl
theorem g42 : aggOf Tryz.prog 42 = some false := by kernel_rfl
theorem z42 : szOf Tryz.prog 42 = some 1 := by kernel_rfl
theorem by42 : byOf Tryz.prog 42 = some 8 := by kernel_rfl
theorem zr42 : zrOf Tryz.prog 42 = some (.nilFunc) := by kernel_rfl
theorem g43 : aggOf Tryz.prog 43 = some false := by kernel_rfl
theorem z43 : szOf Tryz.prog 43 = some 1 := by kernel_rfl
theorem by43 : byOf Tryz.prog 43 = some 8 := by kernel_rfl
theorem zr43 : zrOf Tryz.prog 43 = some (.nilFunc) := by kernel_rfl
theorem g44 : aggOf Tryz.prog 44 = some false := by kernel_rfl
theorem z44 : szOf Tryz.prog 44 = some 1 := by kernel_rfl
theorem by44 : byOf Tryz.prog 44 = some 8 := by kernel_rfl
theorem zr44 : zrOf Tryz.prog 44 = some (.nilFunc) := by kernel_rfl
theorem g45 : aggOf Tryz.prog 45 = some false := by kernel_rfl
theorem z45 : szOf Tryz.prog 45 = some 1 := by kernel_rfl
theorem by45 : byOf Tryz.prog 45 = some 8 := by kernel_rfl
theorem zr45 : zrOf Tryz.prog 45 = some (.nilFunc) := by kernel_rfl
theorem g46 : aggOf Tryz.prog 46 = some false := by kernel_rfl
theorem z46 : szOf Tryz.prog 46 = some 1 := by kernel_rfl
theorem by46 : byOf Tryz.prog 46 = some 8 := by kernel_rfl
theorem zr46 : zrOf Tryz.prog 46 = some (.nilFunc) := by kernel_rfl
theorem g47 : aggOf Tryz.prog 47 = some false := by kernel_rfl
theorem z47 : szOf Tryz.prog 47 = some 1 := by kernel_rfl
theorem by47 : byOf Tryz.prog 47 = some 8 := by kernel_rfl
theorem zr47 : zrOf Tryz.prog 47 = some (.nilFunc) := by kernel_rfl
theorem g49 : aggOf Tryz.prog 49 = some false := by kernel_rfl
theorem z49 : szOf Tryz.prog 49 = some 1 := by kernel_rfl
theorem by49 : byOf Tryz.prog 49 = some 8 := by kernel_rfl
theorem zr49 : zrOf Tryz.prog 49 = some (.nilFunc) := by kernel_rfl
theorem g50 : aggOf Tryz.prog 50 = some false := by kernel_rfl
theorem z50 : szOf Tryz.prog 50 = some 1 := by kernel_rfl
theorem by50 : byOf Tryz.prog 50 = some 8 := by kernel_rfl
theorem zr50 : zrOf Tryz.prog 50 = some (.nilFunc) := by kernel_rfl
theorem g52 : aggOf Tryz.prog 52 = some false := by kernel_rfl
theorem z52 : szOf Tryz.prog 52 = some 1 := by kernel_rfl
theorem by52 : byOf Tryz.prog 52 = some 8 := by kernel_rfl
theorem zr52 : zrOf Tryz.prog 52 = some (.nilFunc) := by kernel_rfl
theorem g53 : aggOf Tryz.prog 53 = some false := by kernel_rfl
theorem z53 : szOf Tryz.prog 53 = some 1 := by kernel_rfl
theorem by53 : byOf Tryz.prog 53 = some 8 := by kernel_rfl
theorem zr53 : zrOf Tryz.prog 53 = some (.nilFunc) := by kernel_rfl
theorem g55 : aggOf Tryz.prog 55 = some false := by kernel_rfl
theorem z55 : szOf Tryz.prog 55 = some 1 := by kernel_rfl
theorem by55 : byOf Tryz.prog 55 = some 8 := by kernel_rfl
theorem zr55 : zrOf Tryz.prog 55 = some (.nilFunc) := by kernel_rfl
theorem g57 : aggOf Tryz.prog 57 = some false := by kernel_rfl
theorem z57 : szOf Tryz.prog 57 = some 1 := by kernel_rfl
theorem by57 : byOf Tryz.prog 57 = some 8 := by kernel_rfl
theorem zr57 : zrOf Tryz.prog 57 = some (.nilFunc) := by kernel_rfl
theorem g58 : aggOf Tryz.prog 58 = some false := by kernel_rfl
theorem z58 : szOf Tryz.prog 58 = some 1 := by kernel_rfl
theorem by58 : byOf Tryz.prog 58 = some 8 := by kernel_rfl
theorem zr58 : zrOf Tryz.prog 58 = some (.nilFunc) := by kernel_rfl
theorem g59 : aggOf Tryz.prog 59 = some false := by kernel_rfl
theorem z59 : szOf Tryz.prog 59 = some 1 := by kernel_rfl
theorem by59 : byOf Tryz.prog 59 = some 24 := by kernel_rfl
theorem zr59 : zrOf Tryz.prog 59 = some (.slice none 0 0) := by kernel_rfl
theorem g60 : aggOf Tryz.prog 60 = some false := by kernel_rfl
theorem z60 : szOf Tryz.prog 60 = some 1 := by kernel_rfl
theorem by60 : byOf Tryz.prog 60 = some 8 := by kernel_rfl
theorem zr60 : zrOf Tryz.prog 60 = some (.int .u64 (0)) := by kernel_rfl
theorem g61 : aggOf Tryz.prog 61 = some true := by kernel_rfl
theorem z61 : szOf Tryz.prog 61 = some 4 := by kernel_rfl
theorem by61 : byOf Tryz.prog 61 = some 48 := by kernel_rfl
theorem zr61 : zrOf Tryz.prog 61 = some (.agg [.int .i64 (0), .int .u64 (0), .int .u32 (0), .slice none 0 0].toArray) := by kernel_rfl
theorem g62 : aggOf Tryz.prog 62 = some true := by kernel_rfl
theorem z62 : szOf Tryz.prog 62 = some 4 := by kernel_rfl
theorem by62 : byOf Tryz.prog 62 = some 48 := by kernel_rfl
theorem zr62 : zrOf Tryz.prog 62 = some (.agg [.int .i64 (0), .int .u64 (0), .int .u32 (0), .slice none 0 0].toArray) := by kernel_rfl
theorem g63 : aggOf Tryz.prog 63 = some true := by kernel_rfl
theorem z63 : szOf Tryz.prog 63 = some 5 := by kernel_rfl
theorem by63 : byOf Tryz.prog 63 = some 56 := by kernel_rfl
theorem zr63 : zrOf Tryz.prog 63 = some (.agg [.int .u32 (0), .int .i64 (0), .int .u64 (0), .int .u32 (0), .slice none 0 0].toArray) := by kernel_rfl
theorem g64 : aggOf Tryz.prog 64 = some true := by kernel_rfl
theorem z64 : szOf Tryz.prog 64 = some 5 := by kernel_rfl
theorem by64 : byOf Tryz.prog 64 = some 56 := by kernel_rfl
theorem zr64 : zrOf Tryz.prog 64 = some (.agg [.int .u32 (0), .int .i64 (0), .int .u64 (0), .int .u32 (0), .slice none 0 0].toArray) := by kernel_rfl
theorem g65 : aggOf Tryz.prog 65 = some false := by kernel_rfl
theorem z65 : szOf Tryz.prog 65 = some 1 := by kernel_rfl
theorem by65 : byOf Tryz.prog 65 = some 8 := by kernel_rfl
theorem zr65 : zrOf Tryz.prog 65 = some (.nilFunc) := by kernel_rfl
theorem g67 : aggOf Tryz.prog 67 = some false := by kernel_rfl
theorem z67 : szOf Tryz.prog 67 = some 1 := by kernel_rfl
theorem by67 : byOf Tryz.prog 67 = some 8 := by kernel_rfl
theorem zr67 : zrOf Tryz.prog 67 = some (.nilFunc) := by kernel_rfl
theorem g68 : aggOf Tryz.prog 68 = some false := by kernel_rfl
theorem z68 : szOf Tryz.prog 68 = some 1 := by kernel_rfl
theorem by68 : byOf Tryz.prog 68 = some 24 := by kernel_rfl
theorem zr68 : zrOf Tryz.prog 68 = some (.slice none 0 0) := by kernel_rfl
theorem g69 : aggOf Tryz.prog 69 = some true := by kernel_rfl
theorem z69 : szOf Tryz.prog 69 = some 4 := by kernel_rfl
theorem by69 : byOf Tryz.prog 69 = some 48 := by kernel_rfl
theorem zr69 : zrOf Tryz.prog 69 = some (.agg [.int .i64 (0), .int .i64 (0), .int .u32 (0), .slice none 0 0].toArray) := by kernel_rfl
theorem g70 : aggOf Tryz.prog 70 = some true := by kernel_rfl
theorem z70 : szOf Tryz.prog 70 = some 4 := by kernel_rfl
theorem by70 : byOf Tryz.prog 70 = some 48 := by kernel_rfl
theorem zr70 : zrOf Tryz.prog 70 = some (.agg [.int .i64 (0), .int .i64 (0), .int .u32 (0), .slice none 0 0].toArray) := by kernel_rfl
theorem g74 : aggOf Tryz.prog 74 = some true := by kernel_rfl
theorem z74 : szOf Tryz.prog 74 = some 3 := by kernel_rfl
theorem by74 : byOf Tryz.prog 74 = some 32 := by kernel_rfl
theorem zr74 : zrOf Tryz.prog 74 = some (.agg [.bool false, .int .u32 (0), .slice none 0 0].toArray) := by kernel_rfl
theorem g76 : aggOf Tryz.prog 76 = some false := by kernel_rfl
theorem z76 : szOf Tryz.prog 76 = some 1 := by kernel_rfl
theorem by76 : byOf Tryz.prog 76 = some 8 := by kernel_rfl
theorem zr76 : zrOf Tryz.prog 76 = some (.nilFunc) := by kernel_rfl
theorem g77 : aggOf Tryz.prog 77 = some false := by kernel_rfl
theorem z77 : szOf Tryz.prog 77 = some 1 := by kernel_rfl
theorem by77 : byOf Tryz.prog 77 = some 8 := by kernel_rfl
theorem zr77 : zrOf Tryz.prog 77 = some (.nilFunc) := by kernel_rfl
theorem g79 : aggOf Tryz.prog 79 = some false := by kernel_rfl
theorem z79 : szOf Tryz.prog 79 = some 1 := by kernel_rfl
theorem by79 : byOf Tryz.prog 79 = some 8 := by kernel_rfl
theorem zr79 : zrOf Tryz.prog 79 = some (.nilFunc) := by kernel_rfl
theorem g80 : aggOf Tryz.prog 80 = some true := by kernel_rfl
theorem z80 : szOf Tryz.prog 80 = some 4 := by kernel_rfl
theorem by80 : byOf Tryz.prog 80 = some 48 := by kernel_rfl
theorem zr80 : zrOf Tryz.prog 80 = some (.agg [.int .i64 (0), .string ⟨#[]⟩, .string ⟨#[]⟩, .bool false].toArray) := by kernel_rfl
theorem g81 : aggOf Tryz.prog 81 = some true := by kernel_rfl
theorem z81 : szOf Tryz.prog 81 = some 4 := by kernel_rfl
theorem by81 : byOf Tryz.prog 81 = some 48 := by kernel_rfl
theorem zr81 : zrOf Tryz.prog 81 = some (.agg [.int .i64 (0), .string ⟨#[]⟩, .string ⟨#[]⟩, .bool false].toArray) := by kernel_rfl
theorem g82 : aggOf Tryz.prog 82 = some false := by kernel_rfl
theorem z82 : szOf Tryz.prog 82 = some 1 := by kernel_rfl
theorem by82 : byOf Tryz.prog 82 = some 8 := by kernel_rfl
theorem zr82 : zrOf Tryz.prog 82 = some (.nilFunc) := by kernel_rfl
theorem g83 : aggOf Tryz.prog 83 = some false := by kernel_rfl
theorem z83 : szOf Tryz.prog 83 = some 1 := by kernel_rfl
theorem by83 : byOf Tryz.prog 83 = some 8 := by kernel_rfl
theorem zr83 : zrOf Tryz.prog 83 = some (.nilFunc) := by kernel_rfl
theorem g84 : aggOf Tryz.prog 84 = some false := by kernel_rfl
theorem z84 : szOf Tryz.prog 84 = some 1 := by kernel_rfl
theorem by84 : byOf Tryz.prog 84 = some 8 := by kernel_rfl
theorem zr84 : zrOf Tryz.prog 84 = some (.nilFunc) := by kernel_rfl
theorem g85 : aggOf Tryz.prog 85 = some false := by kernel_rfl
theorem z85 : szOf Tryz.prog 85 = some 1 := by kernel_rfl
theorem by85 : byOf Tryz.prog 85 = some 24 := by kernel_rfl
theorem zr85 : zrOf Tryz.prog 85 = some (.slice none 0 0) := by kernel_rfl
theorem g89 : aggOf Tryz.prog 89 = some true := by kernel_rfl
theorem z89 : szOf Tryz.prog 89 = some 9 := by kernel_rfl
theorem by89 : byOf Tryz.prog 89 = some 104 := by kernel_rfl
theorem zr89 : zrOf Tryz.prog 89 = some (.agg [.int .u32 (0), .int .i64 (0), .int .u64 (0), .int .u32 (0), .slice none 0 0, .int .i64 (0), .string ⟨#[]⟩, .string ⟨#[]⟩, .bool false].toArray) := by kernel_rfl
theorem g90 : aggOf Tryz.prog 90 = some false := by kernel_rfl
theorem z90 : szOf Tryz.prog 90 = some 1 := by kernel_rfl
theorem by90 : byOf Tryz.prog 90 = some 8 := by kernel_rfl
theorem zr90 : zrOf Tryz.prog 90 = some (.nilFunc) := by kernel_rfl
theorem g92 : aggOf Tryz.prog 92 = some false := by kernel_rfl
theorem z92 : szOf Tryz.prog 92 = some 1 := by kernel_rfl
theorem by92 : byOf Tryz.prog 92 = some 8 := by kernel_rfl
theorem zr92 : zrOf Tryz.prog 92 = some (.nilFunc) := by kernel_rfl
theorem g93 : aggOf Tryz.prog 93 = some false := by kernel_rfl
theorem z93 : szOf Tryz.prog 93 = some 1 := by kernel_rfl
theorem by93 : byOf Tryz.prog 93 = some 8 := by kernel_rfl
theorem zr93 : zrOf Tryz.prog 93 = some (.nilFunc) := by kernel_rfl
theorem g95 : aggOf Tryz.prog 95 = some false := by kernel_rfl
theorem z95 : szOf Tryz.prog 95 = some 1 := by kernel_rfl
theorem by95 : byOf Tryz.prog 95 = some 8 := by kernel_rfl
theorem zr95 : zrOf Tryz.prog 95 = some (.nilFunc) := by kernel_rfl
theorem g96 : aggOf Tryz.prog 96 = some false := by kernel_rfl
theorem z96 : szOf Tryz.prog 96 = some 1 := by kernel_rfl
theorem by96 : byOf Tryz.prog 96 = some 8 := by kernel_rfl
theorem zr96 : zrOf Tryz.prog 96 = some (.nilFunc) := by kernel_rfl
theorem g98 : aggOf Tryz.prog 98 = some false := by kernel_rfl
theorem z98 : szOf Tryz.prog 98 = some 1 := by kernel_rfl
theorem by98 : byOf Tryz.prog 98 = some 8 := by kernel_rfl
theorem zr98 : zrOf Tryz.prog 98 = some (.nilFunc) := by kernel_rfl
theorem g99 : aggOf Tryz.prog 99 = some false := by kernel_rfl
theorem z99 : szOf Tryz.prog 99 = some 1 := by kernel_rfl
theorem by99 : byOf Tryz.prog 99 = some 8 := by kernel_rfl
theorem zr99 : zrOf Tryz.prog 99 = some (.nilFunc) := by kernel_rfl
theorem g100 : aggOf Tryz.prog 100 = some false := by kernel_rfl
theorem z100 : szOf Tryz.prog 100 = some 1 := by kernel_rfl
theorem by100 : byOf Tryz.prog 100 = some 8 := by kernel_rfl
theorem zr100 : zrOf Tryz.prog 100 = some (.nilFunc) := by kernel_rfl
theorem g102 : aggOf Tryz.prog 102 = some true := by kernel_rfl
theorem z102 : szOf Tryz.prog 102 = some 3 := by kernel_rfl
theorem by102 : byOf Tryz.prog 102 = some 56 := by kernel_rfl
theorem zr102 : zrOf Tryz.prog 102 = some (.agg [.slice none 0 0, .slice none 0 0, .int .i64 (0)].toArray) := by kernel_rfl
theorem g103 : aggOf Tryz.prog 103 = some true := by kernel_rfl
theorem z103 : szOf Tryz.prog 103 = some 3 := by kernel_rfl
theorem by103 : byOf Tryz.prog 103 = some 56 := by kernel_rfl
theorem zr103 : zrOf Tryz.prog 103 = some (.agg [.slice none 0 0, .slice none 0 0, .int .i64 (0)].toArray) := by kernel_rfl
theorem g104 : aggOf Tryz.prog 104 = some false := by kernel_rfl
theorem z104 : szOf Tryz.prog 104 = some 1 := by kernel_rfl
theorem by104 : byOf Tryz.prog 104 = some 8 := by kernel_rfl
theorem zr104 : zrOf Tryz.prog 104 = some (.pointer none) := by kernel_rfl
theorem g109 : aggOf Tryz.prog 109 = some false := by kernel_rfl
theorem z109 : szOf Tryz.prog 109 = some 1 := by kernel_rfl
theorem by109 : byOf Tryz.prog 109 = some 8 := by kernel_rfl
theorem zr109 : zrOf Tryz.prog 109 = some (.nilFunc) := by kernel_rfl
theorem g110 : aggOf Tryz.prog 110 = some false := by kernel_rfl
theorem z110 : szOf Tryz.prog 110 = some 1 := by kernel_rfl
theorem by110 : byOf Tryz.prog 110 = some 8 := by kernel_rfl
theorem zr110 : zrOf Tryz.prog 110 = some (.nilFunc) := by kernel_rfl
theorem g111 : aggOf Tryz.prog 111 = some false := by kernel_rfl
theorem z111 : szOf Tryz.prog 111 = some 1 := by kernel_rfl
theorem by111 : byOf Tryz.prog 111 = some 8 := by kernel_rfl
theorem zr111 : zrOf Tryz.prog 111 = some (.nilFunc) := by kernel_rfl
theorem g113 : aggOf Tryz.prog 113 = some true := by kernel_rfl
theorem z113 : szOf Tryz.prog 113 = some 2 := by kernel_rfl
theorem by113 : byOf Tryz.prog 113 = some 16 := by kernel_rfl
theorem zr113 : zrOf Tryz.prog 113 = some (.agg [.int .u32 (0), .int .i64 (0)].toArray) := by kernel_rfl
theorem g118 : aggOf Tryz.prog 118 = some false := by kernel_rfl
theorem z118 : szOf Tryz.prog 118 = some 1 := by kernel_rfl
theorem by118 : byOf Tryz.prog 118 = some 8 := by kernel_rfl
theorem zr118 : zrOf Tryz.prog 118 = some (.nilFunc) := by kernel_rfl
theorem g119 : aggOf Tryz.prog 119 = some true := by kernel_rfl
theorem z119 : szOf Tryz.prog 119 = some 1 := by kernel_rfl
theorem by119 : byOf Tryz.prog 119 = some 8 := by kernel_rfl
theorem zr119 : zrOf Tryz.prog 119 = some (.agg [.int .i64 (0)].toArray) := by kernel_rfl
theorem g120 : aggOf Tryz.prog 120 = some true := by kernel_rfl
theorem z120 : szOf Tryz.prog 120 = some 1 := by kernel_rfl
theorem by120 : byOf Tryz.prog 120 = some 8 := by kernel_rfl
theorem zr120 : zrOf Tryz.prog 120 = some (.agg [.int .i64 (0)].toArray) := by kernel_rfl
theorem g121 : aggOf Tryz.prog 121 = some false := by kernel_rfl
theorem z121 : szOf Tryz.prog 121 = some 1 := by kernel_rfl
theorem by121 : byOf Tryz.prog 121 = some 8 := by kernel_rfl
theorem zr121 : zrOf Tryz.prog 121 = some (.nilFunc) := by kernel_rfl
theorem g123 : aggOf Tryz.prog 123 = some false := by kernel_rfl
theorem z123 : szOf Tryz.prog 123 = some 1 := by kernel_rfl
theorem by123 : byOf Tryz.prog 123 = some 8 := by kernel_rfl
theorem zr123 : zrOf Tryz.prog 123 = some (.nilFunc) := by kernel_rfl
theorem g126 : aggOf Tryz.prog 126 = some false := by kernel_rfl
theorem z126 : szOf Tryz.prog 126 = some 1 := by kernel_rfl
theorem by126 : byOf Tryz.prog 126 = some 8 := by kernel_rfl
theorem zr126 : zrOf Tryz.prog 126 = some (.nilFunc) := by kernel_rfl
theorem g127 : aggOf Tryz.prog 127 = some false := by kernel_rfl
theorem z127 : szOf Tryz.prog 127 = some 1 := by kernel_rfl
theorem by127 : byOf Tryz.prog 127 = some 8 := by kernel_rfl
theorem zr127 : zrOf Tryz.prog 127 = some (.nilFunc) := by kernel_rfl
theorem g129 : aggOf Tryz.prog 129 = some false := by kernel_rfl
theorem z129 : szOf Tryz.prog 129 = some 1 := by kernel_rfl
theorem by129 : byOf Tryz.prog 129 = some 8 := by kernel_rfl
theorem zr129 : zrOf Tryz.prog 129 = some (.nilFunc) := by kernel_rfl
theorem g130 : aggOf Tryz.prog 130 = some false := by kernel_rfl
theorem z130 : szOf Tryz.prog 130 = some 1 := by kernel_rfl
theorem by130 : byOf Tryz.prog 130 = some 8 := by kernel_rfl
theorem zr130 : zrOf Tryz.prog 130 = some (.map none) := by kernel_rfl
theorem g131 : aggOf Tryz.prog 131 = some false := by kernel_rfl
theorem z131 : szOf Tryz.prog 131 = some 1 := by kernel_rfl
theorem by131 : byOf Tryz.prog 131 = some 8 := by kernel_rfl
theorem zr131 : zrOf Tryz.prog 131 = some (.nilFunc) := by kernel_rfl
theorem g133 : aggOf Tryz.prog 133 = some false := by kernel_rfl
theorem z133 : szOf Tryz.prog 133 = some 1 := by kernel_rfl
theorem by133 : byOf Tryz.prog 133 = some 8 := by kernel_rfl
theorem zr133 : zrOf Tryz.prog 133 = some (.nilFunc) := by kernel_rfl
theorem g134 : aggOf Tryz.prog 134 = some false := by kernel_rfl
theorem z134 : szOf Tryz.prog 134 = some 1 := by kernel_rfl
theorem by134 : byOf Tryz.prog 134 = some 8 := by kernel_rfl
theorem zr134 : zrOf Tryz.prog 134 = some (.nilFunc) := by kernel_rfl
theorem g135 : aggOf Tryz.prog 135 = some false := by kernel_rfl
theorem z135 : szOf Tryz.prog 135 = some 1 := by kernel_rfl
theorem by135 : byOf Tryz.prog 135 = some 8 := by kernel_rfl
theorem zr135 : zrOf Tryz.prog 135 = some (.nilFunc) := by kernel_rfl
theorem g136 : aggOf Tryz.prog 136 = some false := by kernel_rfl
theorem z136 : szOf Tryz.prog 136 = some 1 := by kernel_rfl
theorem by136 : byOf Tryz.prog 136 = some 8 := by kernel_rfl
theorem zr136 : zrOf Tryz.prog 136 = some (.int .u64 (0)) := by kernel_rfl
theorem g139 : aggOf Tryz.prog 139 = some false := by kernel_rfl
theorem z139 : szOf Tryz.prog 139 = some 1 := by kernel_rfl
theorem by139 : byOf Tryz.prog 139 = some 8 := by kernel_rfl
theorem zr139 : zrOf Tryz.prog 139 = some (.nilFunc) := by kernel_rfl
theorem g140 : aggOf Tryz.prog 140 = some false := by kernel_rfl
theorem z140 : szOf Tryz.prog 140 = some 1 := by kernel_rfl
theorem by140 : byOf Tryz.prog 140 = some 8 := by kernel_rfl
theorem zr140 : zrOf Tryz.prog 140 = some (.nilFunc) := by kernel_rfl
theorem g141 : aggOf Tryz.prog 141 = some false := by kernel_rfl
theorem z141 : szOf Tryz.prog 141 = some 1 := by kernel_rfl
theorem by141 : byOf Tryz.prog 141 = some 8 := by kernel_rfl
theorem zr141 : zrOf Tryz.prog 141 = some (.nilFunc) := by kernel_rfl
theorem g143 : aggOf Tryz.prog 143 = some false := by kernel_rfl
theorem z143 : szOf Tryz.prog 143 = some 1 := by kernel_rfl
theorem by143 : byOf Tryz.prog 143 = some 8 := by kernel_rfl
theorem zr143 : zrOf Tryz.prog 143 = some (.nilFunc) := by kernel_rfl
theorem g144 : aggOf Tryz.prog 144 = some false := by kernel_rfl
theorem z144 : szOf Tryz.prog 144 = some 1 := by kernel_rfl
theorem by144 : byOf Tryz.prog 144 = some 8 := by kernel_rfl
theorem zr144 : zrOf Tryz.prog 144 = some (.nilFunc) := by kernel_rfl
theorem g145 : aggOf Tryz.prog 145 = some false := by kernel_rfl
theorem z145 : szOf Tryz.prog 145 = some 1 := by kernel_rfl
theorem by145 : byOf Tryz.prog 145 = some 8 := by kernel_rfl
theorem zr145 : zrOf Tryz.prog 145 = some (.nilFunc) := by kernel_rfl
theorem g148 : aggOf Tryz.prog 148 = some false := by kernel_rfl
theorem z148 : szOf Tryz.prog 148 = some 1 := by kernel_rfl
theorem by148 : byOf Tryz.prog 148 = some 8 := by kernel_rfl
theorem zr148 : zrOf Tryz.prog 148 = some (.nilFunc) := by kernel_rfl
theorem g149 : aggOf Tryz.prog 149 = some false := by kernel_rfl
theorem z149 : szOf Tryz.prog 149 = some 1 := by kernel_rfl
theorem by149 : byOf Tryz.prog 149 = some 8 := by kernel_rfl
theorem zr149 : zrOf Tryz.prog 149 = some (.nilFunc) := by kernel_rfl
theorem g151 : aggOf Tryz.prog 151 = some false := by kernel_rfl
theorem z151 : szOf Tryz.prog 151 = some 1 := by kernel_rfl
theorem by151 : byOf Tryz.prog 151 = some 8 := by kernel_rfl
theorem zr151 : zrOf Tryz.prog 151 = some (.nilFunc) := by kernel_rfl
theorem g155 : aggOf Tryz.prog 155 = some false := by kernel_rfl
theorem z155 : szOf Tryz.prog 155 = some 1 := by kernel_rfl
theorem by155 : byOf Tryz.prog 155 = some 8 := by kernel_rfl
theorem zr155 : zrOf Tryz.prog 155 = some (.nilFunc) := by kernel_rfl
theorem g157 : aggOf Tryz.prog 157 = some false := by kernel_rfl
theorem z157 : szOf Tryz.prog 157 = some 1 := by kernel_rfl
theorem by157 : byOf Tryz.prog 157 = some 8 := by kernel_rfl
theorem zr157 : zrOf Tryz.prog 157 = some (.nilFunc) := by kernel_rfl
theorem g158 : aggOf Tryz.prog 158 = some false := by kernel_rfl
theorem z158 : szOf Tryz.prog 158 = some 1 := by kernel_rfl
theorem by158 : byOf Tryz.prog 158 = some 8 := by kernel_rfl
theorem zr158 : zrOf Tryz.prog 158 = some (.nilFunc) := by kernel_rfl
theorem g159 : aggOf Tryz.prog 159 = some false := by kernel_rfl
theorem z159 : szOf Tryz.prog 159 = some 1 := by kernel_rfl
theorem by159 : byOf Tryz.prog 159 = some 8 := by kernel_rfl
theorem zr159 : zrOf Tryz.prog 159 = some (.nilFunc) := by kernel_rfl
theorem g163 : aggOf Tryz.prog 163 = some false := by kernel_rfl
theorem z163 : szOf Tryz.prog 163 = some 1 := by kernel_rfl
theorem by163 : byOf Tryz.prog 163 = some 8 := by kernel_rfl
theorem zr163 : zrOf Tryz.prog 163 = some (.int .i64 (0)) := by kernel_rfl
theorem g168 : aggOf Tryz.prog 168 = some false := by kernel_rfl
theorem z168 : szOf Tryz.prog 168 = some 1 := by kernel_rfl
theorem by168 : byOf Tryz.prog 168 = some 8 := by kernel_rfl
theorem zr168 : zrOf Tryz.prog 168 = some (.nilFunc) := by kernel_rfl
theorem g169 : aggOf Tryz.prog 169 = some false := by kernel_rfl
theorem z169 : szOf Tryz.prog 169 = some 1 := by kernel_rfl
theorem by169 : byOf Tryz.prog 169 = some 8 := by kernel_rfl
theorem zr169 : zrOf Tryz.prog 169 = some (.nilFunc) := by kernel_rfl
theorem g170 : aggOf Tryz.prog 170 = some false := by kernel_rfl
theorem z170 : szOf Tryz.prog 170 = some 1 := by kernel_rfl
theorem by170 : byOf Tryz.prog 170 = some 8 := by kernel_rfl
theorem zr170 : zrOf Tryz.prog 170 = some (.nilFunc) := by kernel_rfl
theorem g171 : aggOf Tryz.prog 171 = some false := by kernel_rfl
theorem z171 : szOf Tryz.prog 171 = some 1 := by kernel_rfl
theorem by171 : byOf Tryz.prog 171 = some 8 := by kernel_rfl
theorem zr171 : zrOf Tryz.prog 171 = some (.nilFunc) := by kernel_rfl
theorem g172 : aggOf Tryz.prog 172 = some false := by kernel_rfl
theorem z172 : szOf Tryz.prog 172 = some 1 := by kernel_rfl
theorem by172 : byOf Tryz.prog 172 = some 8 := by kernel_rfl
theorem zr172 : zrOf Tryz.prog 172 = some (.nilFunc) := by kernel_rfl
theorem g173 : aggOf Tryz.prog 173 = some false := by kernel_rfl
theorem z173 : szOf Tryz.prog 173 = some 1 := by kernel_rfl
theorem by173 : byOf Tryz.prog 173 = some 8 := by kernel_rfl
theorem zr173 : zrOf Tryz.prog 173 = some (.nilFunc) := by kernel_rfl
theorem g174 : aggOf Tryz.prog 174 = some false := by kernel_rfl
theorem z174 : szOf Tryz.prog 174 = some 1 := by kernel_rfl
theorem by174 : byOf Tryz.prog 174 = some 8 := by kernel_rfl
theorem zr174 : zrOf Tryz.prog 174 = some (.nilFunc) := by kernel_rfl
theorem g178 : aggOf Tryz.prog 178 = some false := by kernel_rfl
theorem z178 : szOf Tryz.prog 178 = some 1 := by kernel_rfl
theorem by178 : byOf Tryz.prog 178 = some 8 := by kernel_rfl
theorem zr178 : zrOf Tryz.prog 178 = some (.nilFunc) := by kernel_rfl
theorem g184 : aggOf Tryz.prog 184 = some false := by kernel_rfl
theorem z184 : szOf Tryz.prog 184 = some 1 := by kernel_rfl
theorem by184 : byOf Tryz.prog 184 = some 8 := by kernel_rfl
theorem zr184 : zrOf Tryz.prog 184 = some (.int .u64 (0)) := by kernel_rfl
theorem g186 : aggOf Tryz.prog 186 = some false := by kernel_rfl
theorem z186 : szOf Tryz.prog 186 = some 1 := by kernel_rfl
theorem by186 : byOf Tryz.prog 186 = some 8 := by kernel_rfl
theorem zr186 : zrOf Tryz.prog 186 = some (.nilFunc) := by kernel_rfl
theorem g188 : aggOf Tryz.prog 188 = some false := by kernel_rfl
theorem z188 : szOf Tryz.prog 188 = some 1 := by kernel_rfl
theorem by188 : byOf Tryz.prog 188 = some 8 := by kernel_rfl
theorem zr188 : zrOf Tryz.prog 188 = some (.pointer none) := by kernel_rfl
theorem g190 : aggOf Tryz.prog 190 = some false := by kernel_rfl
theorem z190 : szOf Tryz.prog 190 = some 1 := by kernel_rfl
theorem by190 : byOf Tryz.prog 190 = some 8 := by kernel_rfl
theorem zr190 : zrOf Tryz.prog 190 = some (.nilFunc) := by kernel_rfl
theorem g192 : aggOf Tryz.prog 192 = some false := by kernel_rfl
theorem z192 : szOf Tryz.prog 192 = some 1 := by kernel_rfl
theorem by192 : byOf Tryz.prog 192 = some 8 := by kernel_rfl
theorem zr192 : zrOf Tryz.prog 192 = some (.pointer none) := by kernel_rfl
theorem g194 : aggOf Tryz.prog 194 = some false := by kernel_rfl
theorem z194 : szOf Tryz.prog 194 = some 1 := by kernel_rfl
theorem by194 : byOf Tryz.prog 194 = some 8 := by kernel_rfl
theorem zr194 : zrOf Tryz.prog 194 = some (.nilFunc) := by kernel_rfl
theorem g196 : aggOf Tryz.prog 196 = some false := by kernel_rfl
theorem z196 : szOf Tryz.prog 196 = some 1 := by kernel_rfl
theorem by196 : byOf Tryz.prog 196 = some 8 := by kernel_rfl
theorem zr196 : zrOf Tryz.prog 196 = some (.nilFunc) := by kernel_rfl
theorem g204 : aggOf Tryz.prog 204 = some false := by kernel_rfl
theorem z204 : szOf Tryz.prog 204 = some 1 := by kernel_rfl
theorem by204 : byOf Tryz.prog 204 = some 8 := by kernel_rfl
theorem zr204 : zrOf Tryz.prog 204 = some (.nilFunc) := by kernel_rfl
theorem fo26_0 : fldOff Tryz.prog 26 0 = some (0, 22, 1) := by kernel_rfl
theorem fo26_1 : fldOff Tryz.prog 26 1 = some (1, 23, 1) := by kernel_rfl
theorem fo26_2 : fldOff Tryz.prog 26 2 = some (2, 24, 1) := by kernel_rfl
theorem fo62_0 : fldOff Tryz.prog 62 0 = some (0, 3, 1) := by kernel_rfl
theorem fo62_1 : fldOff Tryz.prog 62 1 = some (1, 60, 1) := by kernel_rfl
theorem fo62_2 : fldOff Tryz.prog 62 2 = some (2, 23, 1) := by kernel_rfl
theorem fo62_3 : fldOff Tryz.prog 62 3 = some (3, 30, 1) := by kernel_rfl
theorem fo64_0 : fldOff Tryz.prog 64 0 = some (0, 23, 1) := by kernel_rfl
theorem fo64_1 : fldOff Tryz.prog 64 1 = some (1, 62, 4) := by kernel_rfl
theorem fo70_0 : fldOff Tryz.prog 70 0 = some (0, 3, 1) := by kernel_rfl
theorem fo70_1 : fldOff Tryz.prog 70 1 = some (1, 3, 1) := by kernel_rfl
theorem fo70_2 : fldOff Tryz.prog 70 2 = some (2, 23, 1) := by kernel_rfl
theorem fo70_3 : fldOff Tryz.prog 70 3 = some (3, 68, 1) := by kernel_rfl
theorem fo74_0 : fldOff Tryz.prog 74 0 = some (0, 4, 1) := by kernel_rfl
theorem fo74_1 : fldOff Tryz.prog 74 1 = some (1, 23, 1) := by kernel_rfl
theorem fo74_2 : fldOff Tryz.prog 74 2 = some (2, 68, 1) := by kernel_rfl
theorem fo81_0 : fldOff Tryz.prog 81 0 = some (0, 3, 1) := by kernel_rfl
theorem fo81_1 : fldOff Tryz.prog 81 1 = some (1, 9, 1) := by kernel_rfl
theorem fo81_2 : fldOff Tryz.prog 81 2 = some (2, 9, 1) := by kernel_rfl
theorem fo81_3 : fldOff Tryz.prog 81 3 = some (3, 4, 1) := by kernel_rfl
theorem fo89_0 : fldOff Tryz.prog 89 0 = some (0, 23, 1) := by kernel_rfl
theorem fo89_1 : fldOff Tryz.prog 89 1 = some (1, 62, 4) := by kernel_rfl
theorem fo89_2 : fldOff Tryz.prog 89 2 = some (5, 3, 1) := by kernel_rfl
theorem fo89_3 : fldOff Tryz.prog 89 3 = some (6, 9, 1) := by kernel_rfl
theorem fo89_4 : fldOff Tryz.prog 89 4 = some (7, 9, 1) := by kernel_rfl
theorem fo89_5 : fldOff Tryz.prog 89 5 = some (8, 4, 1) := by kernel_rfl
theorem fo103_0 : fldOff Tryz.prog 103 0 = some (0, 22, 1) := by kernel_rfl
theorem fo103_1 : fldOff Tryz.prog 103 1 = some (1, 35, 1) := by kernel_rfl
theorem fo103_2 : fldOff Tryz.prog 103 2 = some (2, 3, 1) := by kernel_rfl
theorem fo113_0 : fldOff Tryz.prog 113 0 = some (0, 23, 1) := by kernel_rfl
theorem fo113_1 : fldOff Tryz.prog 113 1 = some (1, 3, 1) := by kernel_rfl
theorem fo120_0 : fldOff Tryz.prog 120 0 = some (0, 24, 1) := by kernel_rfl
theorem pl26 : placesOf Tryz.prog 26 = some [(0, 1), (1, 1), (2, 1)] := by kernel_rfl
theorem pl62 : placesOf Tryz.prog 62 = some [(0, 1), (1, 1), (2, 1), (3, 1)] := by kernel_rfl
theorem pl64 : placesOf Tryz.prog 64 = some [(0, 1), (1, 4)] := by kernel_rfl
theorem pl70 : placesOf Tryz.prog 70 = some [(0, 1), (1, 1), (2, 1), (3, 1)] := by kernel_rfl
theorem pl74 : placesOf Tryz.prog 74 = some [(0, 1), (1, 1), (2, 1)] := by kernel_rfl
theorem pl81 : placesOf Tryz.prog 81 = some [(0, 1), (1, 1), (2, 1), (3, 1)] := by kernel_rfl
theorem pl89 : placesOf Tryz.prog 89 = some [(0, 1), (1, 4), (5, 1), (6, 1), (7, 1), (8, 1)] := by kernel_rfl
theorem pl103 : placesOf Tryz.prog 103 = some [(0, 1), (1, 1), (2, 1)] := by kernel_rfl
theorem pl113 : placesOf Tryz.prog 113 = some [(0, 1), (1, 1)] := by kernel_rfl
theorem pl120 : placesOf Tryz.prog 120 = some [(0, 1)] := by kernel_rfl
theorem cal3 : Callable Tryz.prog 3 := callable_of Tryz.func3 rfl (by kernel_rfl)
theorem cal4 : Callable Tryz.prog 4 := callable_of Tryz.func4 rfl (by kernel_rfl)
theorem cal5 : Callable Tryz.prog 5 := callable_of Tryz.func5 rfl (by kernel_rfl)
theorem cal6 : Callable Tryz.prog 6 := callable_of Tryz.func6 rfl (by kernel_rfl)
theorem cal7 : Callable Tryz.prog 7 := callable_of Tryz.func7 rfl (by kernel_rfl)
theorem cal8 : Callable Tryz.prog 8 := callable_of Tryz.func8 rfl (by kernel_rfl)
theorem cal9 : Callable Tryz.prog 9 := callable_of Tryz.func9 rfl (by kernel_rfl)
theorem cal10 : Callable Tryz.prog 10 := callable_of Tryz.func10 rfl (by kernel_rfl)
theorem cal11 : Callable Tryz.prog 11 := callable_of Tryz.func11 rfl (by kernel_rfl)
theorem cal12 : Callable Tryz.prog 12 := callable_of Tryz.func12 rfl (by kernel_rfl)
theorem cal13 : Callable Tryz.prog 13 := callable_of Tryz.func13 rfl (by kernel_rfl)
theorem cal14 : Callable Tryz.prog 14 := callable_of Tryz.func14 rfl (by kernel_rfl)
theorem cal15 : Callable Tryz.prog 15 := callable_of Tryz.func15 rfl (by kernel_rfl)
theorem cal16 : Callable Tryz.prog 16 := callable_of Tryz.func16 rfl (by kernel_rfl)
theorem cal17 : Callable Tryz.prog 17 := callable_of Tryz.func17 rfl (by kernel_rfl)
theorem cal18 : Callable Tryz.prog 18 := callable_of Tryz.func18 rfl (by kernel_rfl)
theorem cal19 : Callable Tryz.prog 19 := callable_of Tryz.func19 rfl (by kernel_rfl)
theorem cal20 : Callable Tryz.prog 20 := callable_of Tryz.func20 rfl (by kernel_rfl)
theorem cal21 : Callable Tryz.prog 21 := callable_of Tryz.func21 rfl (by kernel_rfl)
theorem cal22 : Callable Tryz.prog 22 := callable_of Tryz.func22 rfl (by kernel_rfl)
theorem cal23 : Callable Tryz.prog 23 := callable_of Tryz.func23 rfl (by kernel_rfl)
theorem cal24 : Callable Tryz.prog 24 := callable_of Tryz.func24 rfl (by kernel_rfl)
theorem cal25 : Callable Tryz.prog 25 := callable_of Tryz.func25 rfl (by kernel_rfl)
theorem cal26 : Callable Tryz.prog 26 := callable_of Tryz.func26 rfl (by kernel_rfl)
theorem cal27 : Callable Tryz.prog 27 := callable_of Tryz.func27 rfl (by kernel_rfl)
theorem cal28 : Callable Tryz.prog 28 := callable_of Tryz.func28 rfl (by kernel_rfl)
theorem cal29 : Callable Tryz.prog 29 := callable_of Tryz.func29 rfl (by kernel_rfl)
theorem cal30 : Callable Tryz.prog 30 := callable_of Tryz.func30 rfl (by kernel_rfl)
theorem cal31 : Callable Tryz.prog 31 := callable_of Tryz.func31 rfl (by kernel_rfl)
theorem cal32 : Callable Tryz.prog 32 := callable_of Tryz.func32 rfl (by kernel_rfl)
theorem cal33 : Callable Tryz.prog 33 := callable_of Tryz.func33 rfl (by kernel_rfl)
theorem cal34 : Callable Tryz.prog 34 := callable_of Tryz.func34 rfl (by kernel_rfl)
theorem cal35 : Callable Tryz.prog 35 := callable_of Tryz.func35 rfl (by kernel_rfl)
theorem cal36 : Callable Tryz.prog 36 := callable_of Tryz.func36 rfl (by kernel_rfl)
theorem cal37 : Callable Tryz.prog 37 := callable_of Tryz.func37 rfl (by kernel_rfl)
theorem cal38 : Callable Tryz.prog 38 := callable_of Tryz.func38 rfl (by kernel_rfl)
theorem cal39 : Callable Tryz.prog 39 := callable_of Tryz.func39 rfl (by kernel_rfl)
theorem cal40 : Callable Tryz.prog 40 := callable_of Tryz.func40 rfl (by kernel_rfl)
theorem cal41 : Callable Tryz.prog 41 := callable_of Tryz.func41 rfl (by kernel_rfl)
theorem cal42 : Callable Tryz.prog 42 := callable_of Tryz.func42 rfl (by kernel_rfl)
theorem cal43 : Callable Tryz.prog 43 := callable_of Tryz.func43 rfl (by kernel_rfl)
theorem cal44 : Callable Tryz.prog 44 := callable_of Tryz.func44 rfl (by kernel_rfl)
theorem cal45 : Callable Tryz.prog 45 := callable_of Tryz.func45 rfl (by kernel_rfl)
theorem cal46 : Callable Tryz.prog 46 := callable_of Tryz.func46 rfl (by kernel_rfl)
theorem cal47 : Callable Tryz.prog 47 := callable_of Tryz.func47 rfl (by kernel_rfl)
theorem cal48 : Callable Tryz.prog 48 := callable_of Tryz.func48 rfl (by kernel_rfl)
theorem cal49 : Callable Tryz.prog 49 := callable_of Tryz.func49 rfl (by kernel_rfl)
theorem cal50 : Callable Tryz.prog 50 := callable_of Tryz.func50 rfl (by kernel_rfl)
theorem cal51 : Callable Tryz.prog 51 := callable_of Tryz.func51 rfl (by kernel_rfl)
theorem cal52 : Callable Tryz.prog 52 := callable_of Tryz.func52 rfl (by kernel_rfl)
theorem cal53 : Callable Tryz.prog 53 := callable_of Tryz.func53 rfl (by kernel_rfl)
theorem cal54 : Callable Tryz.prog 54 := callable_of Tryz.func54 rfl (by kernel_rfl)
theorem cal55 : Callable Tryz.prog 55 := callable_of Tryz.func55 rfl (by kernel_rfl)
theorem cal56 : Callable Tryz.prog 56 := callable_of Tryz.func56 rfl (by kernel_rfl)
theorem cal57 : Callable Tryz.prog 57 := callable_of Tryz.func57 rfl (by kernel_rfl)
theorem cal58 : Callable Tryz.prog 58 := callable_of Tryz.func58 rfl (by kernel_rfl)
theorem cal59 : Callable Tryz.prog 59 := callable_of Tryz.func59 rfl (by kernel_rfl)
theorem cal60 : Callable Tryz.prog 60 := callable_of Tryz.func60 rfl (by kernel_rfl)
theorem cal61 : Callable Tryz.prog 61 := callable_of Tryz.func61 rfl (by kernel_rfl)
theorem cal62 : Callable Tryz.prog 62 := callable_of Tryz.func62 rfl (by kernel_rfl)
theorem cal63 : Callable Tryz.prog 63 := callable_of Tryz.func63 rfl (by kernel_rfl)
theorem cal64 : Callable Tryz.prog 64 := callable_of Tryz.func64 rfl (by kernel_rfl)
theorem cal65 : Callable Tryz.prog 65 := callable_of Tryz.func65 rfl (by kernel_rfl)
theorem cal66 : Callable Tryz.prog 66 := callable_of Tryz.func66 rfl (by kernel_rfl)
theorem cal67 : Callable Tryz.prog 67 := callable_of Tryz.func67 rfl (by kernel_rfl)
theorem cal68 : Callable Tryz.prog 68 := callable_of Tryz.func68 rfl (by kernel_rfl)
theorem cal69 : Callable Tryz.prog 69 := callable_of Tryz.func69 rfl (by kernel_rfl)
theorem cal70 : Callable Tryz.prog 70 := callable_of Tryz.func70 rfl (by kernel_rfl)
theorem cal71 : Callable Tryz.prog 71 := callable_of Tryz.func71 rfl (by kernel_rfl)
theorem cal72 : Callable Tryz.prog 72 := callable_of Tryz.func72 rfl (by kernel_rfl)
theorem cal73 : Callable Tryz.prog 73 := callable_of Tryz.func73 rfl (by kernel_rfl)
theorem cal74 : Callable Tryz.prog 74 := callable_of Tryz.func74 rfl (by kernel_rfl)
theorem cal75 : Callable Tryz.prog 75 := callable_of Tryz.func75 rfl (by kernel_rfl)
theorem cal76 : Callable Tryz.prog 76 := callable_of Tryz.func76 rfl (by kernel_rfl)
theorem cal77 : Callable Tryz.prog 77 := callable_of Tryz.func77 rfl (by kernel_rfl)
theorem cal78 : Callable Tryz.prog 78 := callable_of Tryz.func78 rfl (by kernel_rfl)
theorem cal79 : Callable Tryz.prog 79 := callable_of Tryz.func79 rfl (by kernel_rfl)
theorem cal80 : Callable Tryz.prog 80 := callable_of Tryz.func80 rfl (by kernel_rfl)
theorem cal81 : Callable Tryz.prog 81 := callable_of Tryz.func81 rfl (by kernel_rfl)
theorem cal82 : Callable Tryz.prog 82 := callable_of Tryz.func82 rfl (by kernel_rfl)
theorem cal83 : Callable Tryz.prog 83 := callable_of Tryz.func83 rfl (by kernel_rfl)
theorem cal84 : Callable Tryz.prog 84 := callable_of Tryz.func84 rfl (by kernel_rfl)
theorem cal85 : Callable Tryz.prog 85 := callable_of Tryz.func85 rfl (by kernel_rfl)
theorem cal86 : Callable Tryz.prog 86 := callable_of Tryz.func86 rfl (by kernel_rfl)
theorem cal87 : Callable Tryz.prog 87 := callable_of Tryz.func87 rfl (by kernel_rfl)
theorem cal88 : Callable Tryz.prog 88 := callable_of Tryz.func88 rfl (by kernel_rfl)
theorem cal89 : Callable Tryz.prog 89 := callable_of Tryz.func89 rfl (by kernel_rfl)
theorem cal90 : Callable Tryz.prog 90 := callable_of Tryz.func90 rfl (by kernel_rfl)
theorem cal91 : Callable Tryz.prog 91 := callable_of Tryz.func91 rfl (by kernel_rfl)
theorem cal92 : Callable Tryz.prog 92 := callable_of Tryz.func92 rfl (by kernel_rfl)
theorem cal93 : Callable Tryz.prog 93 := callable_of Tryz.func93 rfl (by kernel_rfl)
theorem cal94 : Callable Tryz.prog 94 := callable_of Tryz.func94 rfl (by kernel_rfl)
theorem cal95 : Callable Tryz.prog 95 := callable_of Tryz.func95 rfl (by kernel_rfl)
theorem cal96 : Callable Tryz.prog 96 := callable_of Tryz.func96 rfl (by kernel_rfl)
theorem cal97 : Callable Tryz.prog 97 := callable_of Tryz.func97 rfl (by kernel_rfl)
theorem cal98 : Callable Tryz.prog 98 := callable_of Tryz.func98 rfl (by kernel_rfl)
theorem cal99 : Callable Tryz.prog 99 := callable_of Tryz.func99 rfl (by kernel_rfl)
theorem cal100 : Callable Tryz.prog 100 := callable_of Tryz.func100 rfl (by kernel_rfl)
theorem cal101 : Callable Tryz.prog 101 := callable_of Tryz.func101 rfl (by kernel_rfl)
theorem cal102 : Callable Tryz.prog 102 := callable_of Tryz.func102 rfl (by kernel_rfl)
theorem cal103 : Callable Tryz.prog 103 := callable_of Tryz.func103 rfl (by kernel_rfl)
theorem cal104 : Callable Tryz.prog 104 := callable_of Tryz.func104 rfl (by kernel_rfl)
theorem cal105 : Callable Tryz.prog 105 := callable_of Tryz.func105 rfl (by kernel_rfl)
theorem cal106 : Callable Tryz.prog 106 := callable_of Tryz.func106 rfl (by kernel_rfl)
theorem cal107 : Callable Tryz.prog 107 := callable_of Tryz.func107 rfl (by kernel_rfl)
theorem cal108 : Callable Tryz.prog 108 := callable_of Tryz.func108 rfl (by kernel_rfl)
theorem cal109 : Callable Tryz.prog 109 := callable_of Tryz.func109 rfl (by kernel_rfl)
theorem cal110 : Callable Tryz.prog 110 := callable_of Tryz.func110 rfl (by kernel_rfl)
theorem cal111 : Callable Tryz.prog 111 := callable_of Tryz.func111 rfl (by kernel_rfl)
theorem cal112 : Callable Tryz.prog 112 := callable_of Tryz.func112 rfl (by kernel_rfl)
theorem cal113 : Callable Tryz.prog 113 := callable_of Tryz.func113 rfl (by kernel_rfl)
theorem cal114 : Callable Tryz.prog 114 := callable_of Tryz.func114 rfl (by kernel_rfl)
theorem cal115 : Callable Tryz.prog 115 := callable_of Tryz.func115 rfl (by kernel_rfl)
theorem cal116 : Callable Tryz.prog 116 := callable_of Tryz.func116 rfl (by kernel_rfl)
theorem cal117 : Callable Tryz.prog 117 := callable_of Tryz.func117 rfl (by kernel_rfl)
theorem cal118 : Callable Tryz.prog 118 := callable_of Tryz.func118 rfl (by kernel_rfl)
theorem cal119 : Callable Tryz.prog 119 := callable_of Tryz.func119 rfl (by kernel_rfl)
theorem cal120 : Callable Tryz.prog 120 := callable_of Tryz.func120 rfl (by kernel_rfl)
theorem cal121 : Callable Tryz.prog 121 := callable_of Tryz.func121 rfl (by kernel_rfl)
theorem cal122 : Callable Tryz.prog 122 := callable_of Tryz.func122 rfl (by kernel_rfl)
theorem cal123 : Callable Tryz.prog 123 := callable_of Tryz.func123 rfl (by kernel_rfl)
theorem cal124 : Callable Tryz.prog 124 := callable_of Tryz.func124 rfl (by kernel_rfl)
theorem cal125 : Callable Tryz.prog 125 := callable_of Tryz.func125 rfl (by kernel_rfl)
theorem cal126 : Callable Tryz.prog 126 := callable_of Tryz.func126 rfl (by kernel_rfl)
theorem cal127 : Callable Tryz.prog 127 := callable_of Tryz.func127 rfl (by kernel_rfl)
theorem cal128 : Callable Tryz.prog 128 := callable_of Tryz.func128 rfl (by kernel_rfl)
theorem cal129 : Callable Tryz.prog 129 := callable_of Tryz.func129 rfl (by kernel_rfl)
theorem cal130 : Callable Tryz.prog 130 := callable_of Tryz.func130 rfl (by kernel_rfl)
theorem cal131 : Callable Tryz.prog 131 := callable_of Tryz.func131 rfl (by kernel_rfl)
theorem cal132 : Callable Tryz.prog 132 := callable_of Tryz.func132 rfl (by kernel_rfl)
theorem cal133 : Callable Tryz.prog 133 := callable_of Tryz.func133 rfl (by kernel_rfl)
theorem cal134 : Callable Tryz.prog 134 := callable_of Tryz.func134 rfl (by kernel_rfl)
theorem cal135 : Callable Tryz.prog 135 := callable_of Tryz.func135 rfl (by kernel_rfl)
theorem cal136 : Callable Tryz.prog 136 := callable_of Tryz.func136 rfl (by kernel_rfl)
theorem cal137 : Callable Tryz.prog 137 := callable_of Tryz.func137 rfl (by kernel_rfl)
theorem cal138 : Callable Tryz.prog 138 := callable_of Tryz.func138 rfl (by kernel_rfl)
theorem cal139 : Callable Tryz.prog 139 := callable_of Tryz.func139 rfl (by kernel_rfl)
theorem cal142 : Callable Tryz.prog 142 := callable_of Tryz.func142 rfl (by kernel_rfl)
theorem cal143 : Callable Tryz.prog 143 := callable_of Tryz.func143 rfl (by kernel_rfl)
theorem cal144 : Callable Tryz.prog 144 := callable_of Tryz.func144 rfl (by kernel_rfl)
theorem cal145 : Callable Tryz.prog 145 := callable_of Tryz.func145 rfl (by kernel_rfl)
theorem cal146 : Callable Tryz.prog 146 := callable_of Tryz.func146 rfl (by kernel_rfl)
theorem cal147 : Callable Tryz.prog 147 := callable_of Tryz.func147 rfl (by kernel_rfl)
theorem cal148 : Callable Tryz.prog 148 := callable_of Tryz.func148 rfl (by kernel_rfl)
theorem cal149 : Callable Tryz.prog 149 := callable_of Tryz.func149 rfl (by kernel_rfl)
theorem cal150 : Callable Tryz.prog 150 := callable_of Tryz.func150 rfl (by kernel_rfl)
theorem cal151 : Callable Tryz.prog 151 := callable_of Tryz.func151 rfl (by kernel_rfl)
theorem cal152 : Callable Tryz.prog 152 := callable_of Tryz.func152 rfl (by kernel_rfl)
theorem cal153 : Callable Tryz.prog 153 := callable_of Tryz.func153 rfl (by kernel_rfl)
theorem cal154 : Callable Tryz.prog 154 := callable_of Tryz.func154 rfl (by kernel_rfl)
theorem cal155 : Callable Tryz.prog 155 := callable_of Tryz.func155 rfl (by kernel_rfl)
theorem cal156 : Callable Tryz.prog 156 := callable_of Tryz.func156 rfl (by kernel_rfl)
def undL : List (Nat × TypeDesc) := [(2, .int .i64), (3, .int .i64), (4, .bool), (5, .int .u8), (6, .int .u8), (9, .string), (10, .string), (11, .string), (12, .int .u64), (15, .pointer 198), (16, .pointer 201), (17, .pointer 209), (21, .int .i32), (22, .slice 64), (23, .int .u32), (24, .int .i64), (30, .slice 74), (35, .slice 23), (59, .slice 9), (60, .int .u64), (68, .slice 5), (85, .slice 89), (104, .pointer 103), (136, .int .u64), (163, .int .i64), (184, .int .u64), (188, .pointer 3), (192, .pointer 184)]
theorem und {t : TypeId} {x : TypeDesc} (h : lkL undL t = some x) : Tryz.prog.underlying t = some x := look (f := Tryz.prog.underlying) undL ⟨Tryz.underlying2, Tryz.underlying3, Tryz.underlying4, Tryz.underlying5, Tryz.underlying6, Tryz.underlying9, Tryz.underlying10, Tryz.underlying11, Tryz.underlying12, Tryz.underlying15, Tryz.underlying16, Tryz.underlying17, Tryz.underlying21, Tryz.underlying22, Tryz.underlying23, Tryz.underlying24, Tryz.underlying30, Tryz.underlying35, Tryz.underlying59, Tryz.underlying60, Tryz.underlying68, Tryz.underlying85, Tryz.underlying104, Tryz.underlying136, Tryz.underlying163, Tryz.underlying184, Tryz.underlying188, Tryz.underlying192, trivial⟩ h
theorem fl81 : flatD Tryz.prog 81 = some [.int .i64, .string, .string, .bool] := by kernel_rfl
theorem fl113 : flatD Tryz.prog 113 = some [.int .u32, .int .i64] := by kernel_rfl
theorem fl120 : flatD Tryz.prog 120 = some [.int .i64] := by kernel_rfl
def flatL : List (Nat × List TypeDesc) := [(81, [.int .i64, .string, .string, .bool]), (113, [.int .u32, .int .i64]), (120, [.int .i64])]
theorem flat {t : TypeId} {x : List TypeDesc} (h : lkL flatL t = some x) : flatD Tryz.prog t = some x := look (f := flatD Tryz.prog) flatL ⟨fl81, fl113, fl120, trivial⟩ h
def aggL : List (Nat × Bool) := [(1, false), (2, false), (3, false), (4, false), (5, false), (6, false), (7, true), (8, true), (9, false), (10, false), (11, false), (12, false), (13, true), (14, true), (15, false), (16, false), (17, false), (18, true), (19, true), (20, false), (21, false), (22, false), (23, false), (24, false), (25, true), (26, true), (27, false), (28, false), (29, false), (30, false), (32, false), (33, false), (34, false), (35, false), (37, false), (38, false), (39, false), (40, false), (41, false), (42, false), (43, false), (44, false), (45, false), (46, false), (47, false), (49, false), (50, false), (52, false), (53, false), (55, false), (57, false), (58, false), (59, false), (60, false), (61, true), (62, true), (63, true), (64, true), (65, false), (67, false), (68, false), (69, true), (70, true), (74, true), (76, false), (77, false), (79, false), (80, true), (81, true), (82, false), (83, false), (84, false), (85, false), (89, true), (90, false), (92, false), (93, false), (95, false), (96, false), (98, false), (99, false), (100, false), (102, true), (103, true), (104, false), (109, false), (110, false), (111, false), (113, true), (118, false), (119, true), (120, true), (121, false), (123, false), (126, false), (127, false), (129, false), (130, false), (131, false), (133, false), (134, false), (135, false), (136, false), (139, false), (140, false), (141, false), (143, false), (144, false), (145, false), (148, false), (149, false), (151, false), (155, false), (157, false), (158, false), (159, false), (163, false), (168, false), (169, false), (170, false), (171, false), (172, false), (173, false), (174, false), (178, false), (184, false), (186, false), (188, false), (190, false), (192, false), (194, false), (196, false), (204, false)]
theorem agg {t : TypeId} {x : Bool} (h : lkL aggL t = some x) : aggOf Tryz.prog t = some x := look (f := aggOf Tryz.prog) aggL ⟨g1, g2, g3, g4, g5, g6, g7, g8, g9, g10, g11, g12, g13, g14, g15, g16, g17, g18, g19, g20, g21, g22, g23, g24, g25, g26, g27, g28, g29, g30, g32, g33, g34, g35, g37, g38, g39, g40, g41, g42, g43, g44, g45, g46, g47, g49, g50, g52, g53, g55, g57, g58, g59, g60, g61, g62, g63, g64, g65, g67, g68, g69, g70, g74, g76, g77, g79, g80, g81, g82, g83, g84, g85, g89, g90, g92, g93, g95, g96, g98, g99, g100, g102, g103, g104, g109, g110, g111, g113, g118, g119, g120, g121, g123, g126, g127, g129, g130, g131, g133, g134, g135, g136, g139, g140, g141, g143, g144, g145, g148, g149, g151, g155, g157, g158, g159, g163, g168, g169, g170, g171, g172, g173, g174, g178, g184, g186, g188, g190, g192, g194, g196, g204, trivial⟩ h
def szL : List (Nat × Nat) := [(1, 1), (2, 1), (3, 1), (4, 1), (5, 1), (6, 1), (7, 4), (8, 4), (9, 1), (10, 1), (11, 1), (12, 1), (13, 2), (14, 2), (15, 1), (16, 1), (17, 1), (18, 1), (19, 1), (20, 1), (21, 1), (22, 1), (23, 1), (24, 1), (25, 3), (26, 3), (27, 1), (28, 1), (29, 1), (30, 1), (32, 1), (33, 1), (34, 1), (35, 1), (37, 1), (38, 1), (39, 1), (40, 1), (41, 1), (42, 1), (43, 1), (44, 1), (45, 1), (46, 1), (47, 1), (49, 1), (50, 1), (52, 1), (53, 1), (55, 1), (57, 1), (58, 1), (59, 1), (60, 1), (61, 4), (62, 4), (63, 5), (64, 5), (65, 1), (67, 1), (68, 1), (69, 4), (70, 4), (74, 3), (76, 1), (77, 1), (79, 1), (80, 4), (81, 4), (82, 1), (83, 1), (84, 1), (85, 1), (89, 9), (90, 1), (92, 1), (93, 1), (95, 1), (96, 1), (98, 1), (99, 1), (100, 1), (102, 3), (103, 3), (104, 1), (109, 1), (110, 1), (111, 1), (113, 2), (118, 1), (119, 1), (120, 1), (121, 1), (123, 1), (126, 1), (127, 1), (129, 1), (130, 1), (131, 1), (133, 1), (134, 1), (135, 1), (136, 1), (139, 1), (140, 1), (141, 1), (143, 1), (144, 1), (145, 1), (148, 1), (149, 1), (151, 1), (155, 1), (157, 1), (158, 1), (159, 1), (163, 1), (168, 1), (169, 1), (170, 1), (171, 1), (172, 1), (173, 1), (174, 1), (178, 1), (184, 1), (186, 1), (188, 1), (190, 1), (192, 1), (194, 1), (196, 1), (204, 1)]
theorem sz {t : TypeId} {x : Nat} (h : lkL szL t = some x) : szOf Tryz.prog t = some x := look (f := szOf Tryz.prog) szL ⟨z1, z2, z3, z4, z5, z6, z7, z8, z9, z10, z11, z12, z13, z14, z15, z16, z17, z18, z19, z20, z21, z22, z23, z24, z25, z26, z27, z28, z29, z30, z32, z33, z34, z35, z37, z38, z39, z40, z41, z42, z43, z44, z45, z46, z47, z49, z50, z52, z53, z55, z57, z58, z59, z60, z61, z62, z63, z64, z65, z67, z68, z69, z70, z74, z76, z77, z79, z80, z81, z82, z83, z84, z85, z89, z90, z92, z93, z95, z96, z98, z99, z100, z102, z103, z104, z109, z110, z111, z113, z118, z119, z120, z121, z123, z126, z127, z129, z130, z131, z133, z134, z135, z136, z139, z140, z141, z143, z144, z145, z148, z149, z151, z155, z157, z158, z159, z163, z168, z169, z170, z171, z172, z173, z174, z178, z184, z186, z188, z190, z192, z194, z196, z204, trivial⟩ h
def zrL : List (Nat × Value) := [(1, .nilFunc), (2, .int .i64 (0)), (3, .int .i64 (0)), (4, .bool false), (5, .int .u8 (0)), (6, .int .u8 (0)), (7, .agg [.int .i64 (0), .int .i64 (0), .bool false, .int .u8 (0)].toArray), (8, .agg [.int .i64 (0), .int .i64 (0), .bool false, .int .u8 (0)].toArray), (9, .string ⟨#[]⟩), (10, .string ⟨#[]⟩), (11, .string ⟨#[]⟩), (12, .int .u64 (0)), (13, .agg [.string ⟨#[]⟩, .int .u64 (0)].toArray), (14, .agg [.string ⟨#[]⟩, .int .u64 (0)].toArray), (15, .pointer none), (16, .pointer none), (17, .pointer none), (18, .agg [.pointer none].toArray), (19, .agg [.pointer none].toArray), (20, .nilIface), (21, .int .i32 (0)), (22, .slice none 0 0), (23, .int .u32 (0)), (24, .int .i64 (0)), (25, .agg [.slice none 0 0, .int .u32 (0), .int .i64 (0)].toArray), (26, .agg [.slice none 0 0, .int .u32 (0), .int .i64 (0)].toArray), (27, .nilFunc), (28, .nilFunc), (29, .nilFunc), (30, .slice none 0 0), (32, .nilFunc), (33, .nilFunc), (34, .nilFunc), (35, .slice none 0 0), (37, .nilFunc), (38, .nilFunc), (39, .nilFunc), (40, .nilFunc), (41, .nilFunc), (42, .nilFunc), (43, .nilFunc), (44, .nilFunc), (45, .nilFunc), (46, .nilFunc), (47, .nilFunc), (49, .nilFunc), (50, .nilFunc), (52, .nilFunc), (53, .nilFunc), (55, .nilFunc), (57, .nilFunc), (58, .nilFunc), (59, .slice none 0 0), (60, .int .u64 (0)), (61, .agg [.int .i64 (0), .int .u64 (0), .int .u32 (0), .slice none 0 0].toArray), (62, .agg [.int .i64 (0), .int .u64 (0), .int .u32 (0), .slice none 0 0].toArray), (63, .agg [.int .u32 (0), .int .i64 (0), .int .u64 (0), .int .u32 (0), .slice none 0 0].toArray), (64, .agg [.int .u32 (0), .int .i64 (0), .int .u64 (0), .int .u32 (0), .slice none 0 0].toArray), (65, .nilFunc), (67, .nilFunc), (68, .slice none 0 0), (69, .agg [.int .i64 (0), .int .i64 (0), .int .u32 (0), .slice none 0 0].toArray), (70, .agg [.int .i64 (0), .int .i64 (0), .int .u32 (0), .slice none 0 0].toArray), (74, .agg [.bool false, .int .u32 (0), .slice none 0 0].toArray), (76, .nilFunc), (77, .nilFunc), (79, .nilFunc), (80, .agg [.int .i64 (0), .string ⟨#[]⟩, .string ⟨#[]⟩, .bool false].toArray), (81, .agg [.int .i64 (0), .string ⟨#[]⟩, .string ⟨#[]⟩, .bool false].toArray), (82, .nilFunc), (83, .nilFunc), (84, .nilFunc), (85, .slice none 0 0), (89, .agg [.int .u32 (0), .int .i64 (0), .int .u64 (0), .int .u32 (0), .slice none 0 0, .int .i64 (0), .string ⟨#[]⟩, .string ⟨#[]⟩, .bool false].toArray), (90, .nilFunc), (92, .nilFunc), (93, .nilFunc), (95, .nilFunc), (96, .nilFunc), (98, .nilFunc), (99, .nilFunc), (100, .nilFunc), (102, .agg [.slice none 0 0, .slice none 0 0, .int .i64 (0)].toArray), (103, .agg [.slice none 0 0, .slice none 0 0, .int .i64 (0)].toArray), (104, .pointer none), (109, .nilFunc), (110, .nilFunc), (111, .nilFunc), (113, .agg [.int .u32 (0), .int .i64 (0)].toArray), (118, .nilFunc), (119, .agg [.int .i64 (0)].toArray), (120, .agg [.int .i64 (0)].toArray), (121, .nilFunc), (123, .nilFunc), (126, .nilFunc), (127, .nilFunc), (129, .nilFunc), (130, .map none), (131, .nilFunc), (133, .nilFunc), (134, .nilFunc), (135, .nilFunc), (136, .int .u64 (0)), (139, .nilFunc), (140, .nilFunc), (141, .nilFunc), (143, .nilFunc), (144, .nilFunc), (145, .nilFunc), (148, .nilFunc), (149, .nilFunc), (151, .nilFunc), (155, .nilFunc), (157, .nilFunc), (158, .nilFunc), (159, .nilFunc), (163, .int .i64 (0)), (168, .nilFunc), (169, .nilFunc), (170, .nilFunc), (171, .nilFunc), (172, .nilFunc), (173, .nilFunc), (174, .nilFunc), (178, .nilFunc), (184, .int .u64 (0)), (186, .nilFunc), (188, .pointer none), (190, .nilFunc), (192, .pointer none), (194, .nilFunc), (196, .nilFunc), (204, .nilFunc)]
theorem zr {t : TypeId} {x : Value} (h : lkL zrL t = some x) : zrOf Tryz.prog t = some x := look (f := zrOf Tryz.prog) zrL ⟨zr1, zr2, zr3, zr4, zr5, zr6, zr7, zr8, zr9, zr10, zr11, zr12, zr13, zr14, zr15, zr16, zr17, zr18, zr19, zr20, zr21, zr22, zr23, zr24, zr25, zr26, zr27, zr28, zr29, zr30, zr32, zr33, zr34, zr35, zr37, zr38, zr39, zr40, zr41, zr42, zr43, zr44, zr45, zr46, zr47, zr49, zr50, zr52, zr53, zr55, zr57, zr58, zr59, zr60, zr61, zr62, zr63, zr64, zr65, zr67, zr68, zr69, zr70, zr74, zr76, zr77, zr79, zr80, zr81, zr82, zr83, zr84, zr85, zr89, zr90, zr92, zr93, zr95, zr96, zr98, zr99, zr100, zr102, zr103, zr104, zr109, zr110, zr111, zr113, zr118, zr119, zr120, zr121, zr123, zr126, zr127, zr129, zr130, zr131, zr133, zr134, zr135, zr136, zr139, zr140, zr141, zr143, zr144, zr145, zr148, zr149, zr151, zr155, zr157, zr158, zr159, zr163, zr168, zr169, zr170, zr171, zr172, zr173, zr174, zr178, zr184, zr186, zr188, zr190, zr192, zr194, zr196, zr204, trivial⟩ h
def bytL : List (Nat × Nat) := [(1, 8), (2, 8), (3, 8), (4, 1), (5, 1), (6, 1), (7, 24), (8, 24), (9, 16), (10, 16), (11, 16), (12, 8), (13, 24), (14, 24), (15, 8), (16, 8), (17, 8), (18, 8), (19, 8), (20, 16), (21, 4), (22, 24), (23, 4), (24, 8), (25, 40), (26, 40), (27, 8), (28, 8), (29, 8), (30, 24), (32, 8), (33, 8), (34, 8), (35, 24), (37, 8), (38, 8), (39, 8), (40, 8), (41, 8), (42, 8), (43, 8), (44, 8), (45, 8), (46, 8), (47, 8), (49, 8), (50, 8), (52, 8), (53, 8), (55, 8), (57, 8), (58, 8), (59, 24), (60, 8), (61, 48), (62, 48), (63, 56), (64, 56), (65, 8), (67, 8), (68, 24), (69, 48), (70, 48), (74, 32), (76, 8), (77, 8), (79, 8), (80, 48), (81, 48), (82, 8), (83, 8), (84, 8), (85, 24), (89, 104), (90, 8), (92, 8), (93, 8), (95, 8), (96, 8), (98, 8), (99, 8), (100, 8), (102, 56), (103, 56), (104, 8), (109, 8), (110, 8), (111, 8), (113, 16), (118, 8), (119, 8), (120, 8), (121, 8), (123, 8), (126, 8), (127, 8), (129, 8), (130, 8), (131, 8), (133, 8), (134, 8), (135, 8), (136, 8), (139, 8), (140, 8), (141, 8), (143, 8), (144, 8), (145, 8), (148, 8), (149, 8), (151, 8), (155, 8), (157, 8), (158, 8), (159, 8), (163, 8), (168, 8), (169, 8), (170, 8), (171, 8), (172, 8), (173, 8), (174, 8), (178, 8), (184, 8), (186, 8), (188, 8), (190, 8), (192, 8), (194, 8), (196, 8), (204, 8)]
theorem byt {t : TypeId} {x : Nat} (h : lkL bytL t = some x) : byOf Tryz.prog t = some x := look (f := byOf Tryz.prog) bytL ⟨by1, by2, by3, by4, by5, by6, by7, by8, by9, by10, by11, by12, by13, by14, by15, by16, by17, by18, by19, by20, by21, by22, by23, by24, by25, by26, by27, by28, by29, by30, by32, by33, by34, by35, by37, by38, by39, by40, by41, by42, by43, by44, by45, by46, by47, by49, by50, by52, by53, by55, by57, by58, by59, by60, by61, by62, by63, by64, by65, by67, by68, by69, by70, by74, by76, by77, by79, by80, by81, by82, by83, by84, by85, by89, by90, by92, by93, by95, by96, by98, by99, by100, by102, by103, by104, by109, by110, by111, by113, by118, by119, by120, by121, by123, by126, by127, by129, by130, by131, by133, by134, by135, by136, by139, by140, by141, by143, by144, by145, by148, by149, by151, by155, by157, by158, by159, by163, by168, by169, by170, by171, by172, by173, by174, by178, by184, by186, by188, by190, by192, by194, by196, by204, trivial⟩ h
def lkP {α : Type} : List (Nat × Nat × α) → Nat → Nat → Option α
  | [], _, _ => none
  | (k, j, v) :: E, t, i => match Nat.beq k t && Nat.beq j i with
    | true => some v
    | false => lkP E t i
def allP {α : Type} (f : Nat → Nat → Option α) : List (Nat × Nat × α) → Prop
  | [] => True
  | p :: l => f p.1 p.2.1 = some p.2.2 ∧ allP f l
theorem lookP {α : Type} {f : Nat → Nat → Option α} : ∀ (l : List (Nat × Nat × α)), allP f l → ∀ {t i : Nat} {x : α}, lkP l t i = some x → f t i = some x
  | [], _, _, _, _, h => (Option.some_ne_none _ h.symm).elim
  | (k, j, v) :: E, hA, t, i, x, h => by
    unfold lkP at h
    cases hb : Nat.beq k t && Nat.beq j i with
    | true =>
      rw [hb] at h
      simp only [Bool.and_eq_true] at hb
      obtain rfl := Nat.eq_of_beq_eq_true hb.1
      obtain rfl := Nat.eq_of_beq_eq_true hb.2
      cases h
      exact hA.1
    | false =>
      rw [hb] at h
      exact lookP E hA.2 h
def foL : List (Nat × Nat × (Nat × Nat × Nat)) := [(26, 0, (0, 22, 1)), (26, 1, (1, 23, 1)), (26, 2, (2, 24, 1)), (62, 0, (0, 3, 1)), (62, 1, (1, 60, 1)), (62, 2, (2, 23, 1)), (62, 3, (3, 30, 1)), (64, 0, (0, 23, 1)), (64, 1, (1, 62, 4)), (70, 0, (0, 3, 1)), (70, 1, (1, 3, 1)), (70, 2, (2, 23, 1)), (70, 3, (3, 68, 1)), (74, 0, (0, 4, 1)), (74, 1, (1, 23, 1)), (74, 2, (2, 68, 1)), (81, 0, (0, 3, 1)), (81, 1, (1, 9, 1)), (81, 2, (2, 9, 1)), (81, 3, (3, 4, 1)), (89, 0, (0, 23, 1)), (89, 1, (1, 62, 4)), (89, 2, (5, 3, 1)), (89, 3, (6, 9, 1)), (89, 4, (7, 9, 1)), (89, 5, (8, 4, 1)), (103, 0, (0, 22, 1)), (103, 1, (1, 35, 1)), (103, 2, (2, 3, 1)), (113, 0, (0, 23, 1)), (113, 1, (1, 3, 1)), (120, 0, (0, 24, 1))]
theorem fo {t : TypeId} {i : Nat} {x : Nat × Nat × Nat} (h : lkP foL t i = some x) : fldOff Tryz.prog t i = some x := lookP (f := fldOff Tryz.prog) foL ⟨fo26_0, fo26_1, fo26_2, fo62_0, fo62_1, fo62_2, fo62_3, fo64_0, fo64_1, fo70_0, fo70_1, fo70_2, fo70_3, fo74_0, fo74_1, fo74_2, fo81_0, fo81_1, fo81_2, fo81_3, fo89_0, fo89_1, fo89_2, fo89_3, fo89_4, fo89_5, fo103_0, fo103_1, fo103_2, fo113_0, fo113_1, fo120_0, trivial⟩ h
def lkC : List Nat → Nat → Bool
  | [], _ => false
  | k :: E, t => match Nat.beq k t with
    | true => true
    | false => lkC E t
def allC (Q : Nat → Prop) : List Nat → Prop
  | [] => True
  | p :: l => Q p ∧ allC Q l
theorem lookC {Q : Nat → Prop} : ∀ (l : List Nat), allC Q l → ∀ {t : Nat}, lkC l t = true → Q t
  | [], _, _, h => (Bool.false_ne_true h).elim
  | k :: E, hA, t, h => by
    unfold lkC at h
    cases hb : Nat.beq k t with
    | true => obtain rfl := Nat.eq_of_beq_eq_true hb; exact hA.1
    | false => rw [hb] at h; exact lookC E hA.2 h
def calL : List Nat := [3, 4, 5, 6, 7, 8, 9, 10, 11, 12, 13, 14, 15, 16, 17, 18, 19, 20, 21, 22, 23, 24, 25, 26, 27, 28, 29, 30, 31, 32, 33, 34, 35, 36, 37, 38, 39, 40, 41, 42, 43, 44, 45, 46, 47, 48, 49, 50, 51, 52, 53, 54, 55, 56, 57, 58, 59, 60, 61, 62, 63, 64, 65, 66, 67, 68, 69, 70, 71, 72, 73, 74, 75, 76, 77, 78, 79, 80, 81, 82, 83, 84, 85, 86, 87, 88, 89, 90, 91, 92, 93, 94, 95, 96, 97, 98, 99, 100, 101, 102, 103, 104, 105, 106, 107, 108, 109, 110, 111, 112, 113, 114, 115, 116, 117, 118, 119, 120, 121, 122, 123, 124, 125, 126, 127, 128, 129, 130, 131, 132, 133, 134, 135, 136, 137, 138, 139, 142, 143, 144, 145, 146, 147, 148, 149, 150, 151, 152, 153, 154, 155, 156]
theorem cal {t : Nat} (h : lkC calL t = true) : Callable Tryz.prog t := lookC (Q := Callable Tryz.prog) calL ⟨cal3, cal4, cal5, cal6, cal7, cal8, cal9, cal10, cal11, cal12, cal13, cal14, cal15, cal16, cal17, cal18, cal19, cal20, cal21, cal22, cal23, cal24, cal25, cal26, cal27, cal28, cal29, cal30, cal31, cal32, cal33, cal34, cal35, cal36, cal37, cal38, cal39, cal40, cal41, cal42, cal43, cal44, cal45, cal46, cal47, cal48, cal49, cal50, cal51, cal52, cal53, cal54, cal55, cal56, cal57, cal58, cal59, cal60, cal61, cal62, cal63, cal64, cal65, cal66, cal67, cal68, cal69, cal70, cal71, cal72, cal73, cal74, cal75, cal76, cal77, cal78, cal79, cal80, cal81, cal82, cal83, cal84, cal85, cal86, cal87, cal88, cal89, cal90, cal91, cal92, cal93, cal94, cal95, cal96, cal97, cal98, cal99, cal100, cal101, cal102, cal103, cal104, cal105, cal106, cal107, cal108, cal109, cal110, cal111, cal112, cal113, cal114, cal115, cal116, cal117, cal118, cal119, cal120, cal121, cal122, cal123, cal124, cal125, cal126, cal127, cal128, cal129, cal130, cal131, cal132, cal133, cal134, cal135, cal136, cal137, cal138, cal139, cal142, cal143, cal144, cal145, cal146, cal147, cal148, cal149, cal150, cal151, cal152, cal153, cal154, cal155, cal156, trivial⟩ h
def plL : List (Nat × List (Nat × Nat)) := [(26, [(0, 1), (1, 1), (2, 1)]), (62, [(0, 1), (1, 1), (2, 1), (3, 1)]), (64, [(0, 1), (1, 4)]), (70, [(0, 1), (1, 1), (2, 1), (3, 1)]), (74, [(0, 1), (1, 1), (2, 1)]), (81, [(0, 1), (1, 1), (2, 1), (3, 1)]), (89, [(0, 1), (1, 4), (5, 1), (6, 1), (7, 1), (8, 1)]), (103, [(0, 1), (1, 1), (2, 1)]), (113, [(0, 1), (1, 1)]), (120, [(0, 1)])]
theorem pl {t : TypeId} {x : List (Nat × Nat)} (h : lkL plL t = some x) : placesOf Tryz.prog t = some x := look (f := placesOf Tryz.prog) plL ⟨pl26, pl62, pl64, pl70, pl74, pl81, pl89, pl103, pl113, pl120, trivial⟩ h
theorem mixed : Tryz.prog.follows .mixedOrders = true := by kernel_rfl
end Go.Proofs.YtahdbncfegedjaaGreat.Fx
