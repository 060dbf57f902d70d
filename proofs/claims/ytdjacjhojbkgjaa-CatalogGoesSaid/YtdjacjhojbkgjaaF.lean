/-
  Closed facts on the types and the functions of this seat. Written by program (facts.py). Conditions: none.
-/
import Derived.Test.YtdjacjhojbkgjaaKY
import Derived.Test.YtdjacjhojbkgjaaProg
import Derived.KernelRfl
namespace Go.Proofs.Ytdjacjhojbkgjaa.Fx
open Go Go.K Go.Proofs
set_option linter.unusedVariables false
/-- a table, looked up -/
def lkL {α : Type} : List (Nat × α) → Nat → Option α
  | [], _ => none
  | (k, v) :: E, t => match Nat.beq k t with
    | true => some v
    | false => lkL E t
def allL {α : Type} (f : Nat → Option α) : List (Nat × α) → Prop
  | [] => True
  | p :: l => f p.1 = some p.2 ∧ allL f l
theorem look {α : Type} {f : Nat → Option α} : ∀ (l : List (Nat × α)), allL f l → ∀ {t : Nat} {x : α}, lkL l t = some x → f t = some x
  | [], _, _, _, h => (Option.some_ne_none _ h.symm).elim
  | (k, v) :: E, hA, t, x, h => by
    unfold lkL at h
    split at h
    · rename_i hb
      rw [← Nat.eq_of_beq_eq_true hb, ← h]
      exact hA.1
    · exact look E hA.2 h
theorem g1 : aggOf Try.prog 1 = some false := by kernel_rfl
theorem z1 : szOf Try.prog 1 = some 1 := by kernel_rfl
theorem by1 : byOf Try.prog 1 = some 8 := by kernel_rfl
theorem zr1 : zrOf Try.prog 1 = some (.nilFunc) := by kernel_rfl
theorem g2 : aggOf Try.prog 2 = some false := by kernel_rfl
theorem z2 : szOf Try.prog 2 = some 1 := by kernel_rfl
theorem by2 : byOf Try.prog 2 = some 8 := by kernel_rfl
theorem zr2 : zrOf Try.prog 2 = some (.int .i64 (0)) := by kernel_rfl
theorem g3 : aggOf Try.prog 3 = some false := by kernel_rfl
theorem z3 : szOf Try.prog 3 = some 1 := by kernel_rfl
theorem by3 : byOf Try.prog 3 = some 8 := by kernel_rfl
theorem zr3 : zrOf Try.prog 3 = some (.int .i64 (0)) := by kernel_rfl
theorem g4 : aggOf Try.prog 4 = some false := by kernel_rfl
theorem z4 : szOf Try.prog 4 = some 1 := by kernel_rfl
theorem by4 : byOf Try.prog 4 = some 1 := by kernel_rfl
theorem zr4 : zrOf Try.prog 4 = some (.bool false) := by kernel_rfl
theorem g5 : aggOf Try.prog 5 = some false := by kernel_rfl
theorem z5 : szOf Try.prog 5 = some 1 := by kernel_rfl
theorem by5 : byOf Try.prog 5 = some 1 := by kernel_rfl
theorem zr5 : zrOf Try.prog 5 = some (.int .u8 (0)) := by kernel_rfl
theorem g6 : aggOf Try.prog 6 = some false := by kernel_rfl
theorem z6 : szOf Try.prog 6 = some 1 := by kernel_rfl
theorem by6 : byOf Try.prog 6 = some 1 := by kernel_rfl
theorem zr6 : zrOf Try.prog 6 = some (.int .u8 (0)) := by kernel_rfl
theorem g7 : aggOf Try.prog 7 = some true := by kernel_rfl
theorem z7 : szOf Try.prog 7 = some 4 := by kernel_rfl
theorem by7 : byOf Try.prog 7 = some 24 := by kernel_rfl
theorem zr7 : zrOf Try.prog 7 = some (.agg [.int .i64 (0), .int .i64 (0), .bool false, .int .u8 (0)].toArray) := by kernel_rfl
theorem g8 : aggOf Try.prog 8 = some true := by kernel_rfl
theorem z8 : szOf Try.prog 8 = some 4 := by kernel_rfl
theorem by8 : byOf Try.prog 8 = some 24 := by kernel_rfl
theorem zr8 : zrOf Try.prog 8 = some (.agg [.int .i64 (0), .int .i64 (0), .bool false, .int .u8 (0)].toArray) := by kernel_rfl
theorem g9 : aggOf Try.prog 9 = some false := by kernel_rfl
theorem z9 : szOf Try.prog 9 = some 1 := by kernel_rfl
theorem by9 : byOf Try.prog 9 = some 16 := by kernel_rfl
theorem zr9 : zrOf Try.prog 9 = some (.string ⟨#[]⟩) := by kernel_rfl
theorem g10 : aggOf Try.prog 10 = some false := by kernel_rfl
theorem z10 : szOf Try.prog 10 = some 1 := by kernel_rfl
theorem by10 : byOf Try.prog 10 = some 16 := by kernel_rfl
theorem zr10 : zrOf Try.prog 10 = some (.string ⟨#[]⟩) := by kernel_rfl
theorem g11 : aggOf Try.prog 11 = some false := by kernel_rfl
theorem z11 : szOf Try.prog 11 = some 1 := by kernel_rfl
theorem by11 : byOf Try.prog 11 = some 16 := by kernel_rfl
theorem zr11 : zrOf Try.prog 11 = some (.string ⟨#[]⟩) := by kernel_rfl
theorem g12 : aggOf Try.prog 12 = some false := by kernel_rfl
theorem z12 : szOf Try.prog 12 = some 1 := by kernel_rfl
theorem by12 : byOf Try.prog 12 = some 8 := by kernel_rfl
theorem zr12 : zrOf Try.prog 12 = some (.int .u64 (0)) := by kernel_rfl
theorem g13 : aggOf Try.prog 13 = some true := by kernel_rfl
theorem z13 : szOf Try.prog 13 = some 2 := by kernel_rfl
theorem by13 : byOf Try.prog 13 = some 24 := by kernel_rfl
theorem zr13 : zrOf Try.prog 13 = some (.agg [.string ⟨#[]⟩, .int .u64 (0)].toArray) := by kernel_rfl
theorem g14 : aggOf Try.prog 14 = some true := by kernel_rfl
theorem z14 : szOf Try.prog 14 = some 2 := by kernel_rfl
theorem by14 : byOf Try.prog 14 = some 24 := by kernel_rfl
theorem zr14 : zrOf Try.prog 14 = some (.agg [.string ⟨#[]⟩, .int .u64 (0)].toArray) := by kernel_rfl
theorem g15 : aggOf Try.prog 15 = some false := by kernel_rfl
theorem z15 : szOf Try.prog 15 = some 1 := by kernel_rfl
theorem by15 : byOf Try.prog 15 = some 8 := by kernel_rfl
theorem zr15 : zrOf Try.prog 15 = some (.pointer none) := by kernel_rfl
theorem g16 : aggOf Try.prog 16 = some false := by kernel_rfl
theorem z16 : szOf Try.prog 16 = some 1 := by kernel_rfl
theorem by16 : byOf Try.prog 16 = some 8 := by kernel_rfl
theorem zr16 : zrOf Try.prog 16 = some (.pointer none) := by kernel_rfl
theorem g17 : aggOf Try.prog 17 = some false := by kernel_rfl
theorem z17 : szOf Try.prog 17 = some 1 := by kernel_rfl
theorem by17 : byOf Try.prog 17 = some 8 := by kernel_rfl
theorem zr17 : zrOf Try.prog 17 = some (.pointer none) := by kernel_rfl
theorem g18 : aggOf Try.prog 18 = some true := by kernel_rfl
theorem z18 : szOf Try.prog 18 = some 1 := by kernel_rfl
theorem by18 : byOf Try.prog 18 = some 8 := by kernel_rfl
theorem zr18 : zrOf Try.prog 18 = some (.agg [.pointer none].toArray) := by kernel_rfl
theorem g19 : aggOf Try.prog 19 = some true := by kernel_rfl
theorem z19 : szOf Try.prog 19 = some 1 := by kernel_rfl
theorem by19 : byOf Try.prog 19 = some 8 := by kernel_rfl
theorem zr19 : zrOf Try.prog 19 = some (.agg [.pointer none].toArray) := by kernel_rfl
theorem g20 : aggOf Try.prog 20 = some false := by kernel_rfl
theorem z20 : szOf Try.prog 20 = some 1 := by kernel_rfl
theorem by20 : byOf Try.prog 20 = some 16 := by kernel_rfl
theorem zr20 : zrOf Try.prog 20 = some (.nilIface) := by kernel_rfl
theorem g21 : aggOf Try.prog 21 = some false := by kernel_rfl
theorem z21 : szOf Try.prog 21 = some 1 := by kernel_rfl
theorem by21 : byOf Try.prog 21 = some 4 := by kernel_rfl
theorem zr21 : zrOf Try.prog 21 = some (.int .i32 (0)) := by kernel_rfl
theorem g22 : aggOf Try.prog 22 = some false := by kernel_rfl
theorem z22 : szOf Try.prog 22 = some 1 := by kernel_rfl
theorem by22 : byOf Try.prog 22 = some 24 := by kernel_rfl
theorem zr22 : zrOf Try.prog 22 = some (.slice none 0 0) := by kernel_rfl
theorem g23 : aggOf Try.prog 23 = some false := by kernel_rfl
theorem z23 : szOf Try.prog 23 = some 1 := by kernel_rfl
theorem by23 : byOf Try.prog 23 = some 24 := by kernel_rfl
theorem zr23 : zrOf Try.prog 23 = some (.slice none 0 0) := by kernel_rfl
theorem g24 : aggOf Try.prog 24 = some true := by kernel_rfl
theorem z24 : szOf Try.prog 24 = some 2 := by kernel_rfl
theorem by24 : byOf Try.prog 24 = some 48 := by kernel_rfl
theorem zr24 : zrOf Try.prog 24 = some (.agg [.slice none 0 0, .slice none 0 0].toArray) := by kernel_rfl
theorem g25 : aggOf Try.prog 25 = some true := by kernel_rfl
theorem z25 : szOf Try.prog 25 = some 2 := by kernel_rfl
theorem by25 : byOf Try.prog 25 = some 48 := by kernel_rfl
theorem zr25 : zrOf Try.prog 25 = some (.agg [.slice none 0 0, .slice none 0 0].toArray) := by kernel_rfl
theorem g26 : aggOf Try.prog 26 = some false := by kernel_rfl
theorem z26 : szOf Try.prog 26 = some 1 := by kernel_rfl
theorem by26 : byOf Try.prog 26 = some 8 := by kernel_rfl
theorem zr26 : zrOf Try.prog 26 = some (.nilFunc) := by kernel_rfl
theorem g27 : aggOf Try.prog 27 = some false := by kernel_rfl
theorem z27 : szOf Try.prog 27 = some 1 := by kernel_rfl
theorem by27 : byOf Try.prog 27 = some 8 := by kernel_rfl
theorem zr27 : zrOf Try.prog 27 = some (.nilFunc) := by kernel_rfl
theorem g28 : aggOf Try.prog 28 = some false := by kernel_rfl
theorem z28 : szOf Try.prog 28 = some 1 := by kernel_rfl
theorem by28 : byOf Try.prog 28 = some 24 := by kernel_rfl
theorem zr28 : zrOf Try.prog 28 = some (.slice none 0 0) := by kernel_rfl
theorem g29 : aggOf Try.prog 29 = some false := by kernel_rfl
theorem z29 : szOf Try.prog 29 = some 1 := by kernel_rfl
theorem by29 : byOf Try.prog 29 = some 8 := by kernel_rfl
theorem zr29 : zrOf Try.prog 29 = some (.int .i64 (0)) := by kernel_rfl
theorem g31 : aggOf Try.prog 31 = some false := by kernel_rfl
theorem z31 : szOf Try.prog 31 = some 1 := by kernel_rfl
theorem by31 : byOf Try.prog 31 = some 8 := by kernel_rfl
theorem zr31 : zrOf Try.prog 31 = some (.nilFunc) := by kernel_rfl
theorem g32 : aggOf Try.prog 32 = some false := by kernel_rfl
theorem z32 : szOf Try.prog 32 = some 1 := by kernel_rfl
theorem by32 : byOf Try.prog 32 = some 8 := by kernel_rfl
theorem zr32 : zrOf Try.prog 32 = some (.nilFunc) := by kernel_rfl
theorem g33 : aggOf Try.prog 33 = some false := by kernel_rfl
theorem z33 : szOf Try.prog 33 = some 1 := by kernel_rfl
theorem by33 : byOf Try.prog 33 = some 24 := by kernel_rfl
theorem zr33 : zrOf Try.prog 33 = some (.slice none 0 0) := by kernel_rfl
theorem g34 : aggOf Try.prog 34 = some false := by kernel_rfl
theorem z34 : szOf Try.prog 34 = some 1 := by kernel_rfl
theorem by34 : byOf Try.prog 34 = some 8 := by kernel_rfl
theorem zr34 : zrOf Try.prog 34 = some (.nilFunc) := by kernel_rfl
theorem g35 : aggOf Try.prog 35 = some true := by kernel_rfl
theorem z35 : szOf Try.prog 35 = some 3 := by kernel_rfl
theorem by35 : byOf Try.prog 35 = some 32 := by kernel_rfl
theorem zr35 : zrOf Try.prog 35 = some (.agg [.string ⟨#[]⟩, .int .i64 (0), .bool false].toArray) := by kernel_rfl
theorem g36 : aggOf Try.prog 36 = some true := by kernel_rfl
theorem z36 : szOf Try.prog 36 = some 3 := by kernel_rfl
theorem by36 : byOf Try.prog 36 = some 32 := by kernel_rfl
theorem zr36 : zrOf Try.prog 36 = some (.agg [.string ⟨#[]⟩, .int .i64 (0), .bool false].toArray) := by kernel_rfl
theorem g37 : aggOf Try.prog 37 = some false := by kernel_rfl
theorem z37 : szOf Try.prog 37 = some 1 := by kernel_rfl
theorem by37 : byOf Try.prog 37 = some 8 := by kernel_rfl
theorem zr37 : zrOf Try.prog 37 = some (.nilFunc) := by kernel_rfl
theorem g38 : aggOf Try.prog 38 = some false := by kernel_rfl
theorem z38 : szOf Try.prog 38 = some 1 := by kernel_rfl
theorem by38 : byOf Try.prog 38 = some 8 := by kernel_rfl
theorem zr38 : zrOf Try.prog 38 = some (.nilFunc) := by kernel_rfl
theorem g39 : aggOf Try.prog 39 = some false := by kernel_rfl
theorem z39 : szOf Try.prog 39 = some 1 := by kernel_rfl
theorem by39 : byOf Try.prog 39 = some 8 := by kernel_rfl
theorem zr39 : zrOf Try.prog 39 = some (.nilFunc) := by kernel_rfl
theorem g40 : aggOf Try.prog 40 = some false := by kernel_rfl
theorem z40 : szOf Try.prog 40 = some 1 := by kernel_rfl
theorem by40 : byOf Try.prog 40 = some 8 := by kernel_rfl
theorem zr40 : zrOf Try.prog 40 = some (.nilFunc) := by kernel_rfl
theorem g42 : aggOf Try.prog 42 = some false := by kernel_rfl
theorem z42 : szOf Try.prog 42 = some 1 := by kernel_rfl
theorem by42 : byOf Try.prog 42 = some 8 := by kernel_rfl
theorem zr42 : zrOf Try.prog 42 = some (.nilFunc) := by kernel_rfl
theorem g43 : aggOf Try.prog 43 = some false := by kernel_rfl
theorem z43 : szOf Try.prog 43 = some 1 := by kernel_rfl
theorem by43 : byOf Try.prog 43 = some 8 := by kernel_rfl
theorem zr43 : zrOf Try.prog 43 = some (.nilFunc) := by kernel_rfl
theorem g44 : aggOf Try.prog 44 = some false := by kernel_rfl
theorem z44 : szOf Try.prog 44 = some 1 := by kernel_rfl
theorem by44 : byOf Try.prog 44 = some 4 := by kernel_rfl
theorem zr44 : zrOf Try.prog 44 = some (.int .u32 (0)) := by kernel_rfl
theorem g46 : aggOf Try.prog 46 = some true := by kernel_rfl
theorem z46 : szOf Try.prog 46 = some 4 := by kernel_rfl
theorem by46 : byOf Try.prog 46 = some 56 := by kernel_rfl
theorem zr46 : zrOf Try.prog 46 = some (.agg [.int .u32 (0), .string ⟨#[]⟩, .slice none 0 0, .int .u32 (0)].toArray) := by kernel_rfl
theorem g48 : aggOf Try.prog 48 = some false := by kernel_rfl
theorem z48 : szOf Try.prog 48 = some 1 := by kernel_rfl
theorem by48 : byOf Try.prog 48 = some 8 := by kernel_rfl
theorem zr48 : zrOf Try.prog 48 = some (.nilFunc) := by kernel_rfl
theorem g51 : aggOf Try.prog 51 = some false := by kernel_rfl
theorem z51 : szOf Try.prog 51 = some 1 := by kernel_rfl
theorem by51 : byOf Try.prog 51 = some 24 := by kernel_rfl
theorem zr51 : zrOf Try.prog 51 = some (.slice none 0 0) := by kernel_rfl
theorem g52 : aggOf Try.prog 52 = some true := by kernel_rfl
theorem z52 : szOf Try.prog 52 = some 6 := by kernel_rfl
theorem by52 : byOf Try.prog 52 = some 56 := by kernel_rfl
theorem zr52 : zrOf Try.prog 52 = some (.agg [.int .u32 (0), .int .u32 (0), .string ⟨#[]⟩, .slice none 0 0, .bool false, .int .u32 (0)].toArray) := by kernel_rfl
theorem g53 : aggOf Try.prog 53 = some true := by kernel_rfl
theorem z53 : szOf Try.prog 53 = some 6 := by kernel_rfl
theorem by53 : byOf Try.prog 53 = some 56 := by kernel_rfl
theorem zr53 : zrOf Try.prog 53 = some (.agg [.int .u32 (0), .int .u32 (0), .string ⟨#[]⟩, .slice none 0 0, .bool false, .int .u32 (0)].toArray) := by kernel_rfl
theorem g55 : aggOf Try.prog 55 = some false := by kernel_rfl
theorem z55 : szOf Try.prog 55 = some 1 := by kernel_rfl
theorem by55 : byOf Try.prog 55 = some 8 := by kernel_rfl
theorem zr55 : zrOf Try.prog 55 = some (.nilFunc) := by kernel_rfl
theorem g56 : aggOf Try.prog 56 = some false := by kernel_rfl
theorem z56 : szOf Try.prog 56 = some 1 := by kernel_rfl
theorem by56 : byOf Try.prog 56 = some 8 := by kernel_rfl
theorem zr56 : zrOf Try.prog 56 = some (.nilFunc) := by kernel_rfl
theorem g57 : aggOf Try.prog 57 = some false := by kernel_rfl
theorem z57 : szOf Try.prog 57 = some 1 := by kernel_rfl
theorem by57 : byOf Try.prog 57 = some 8 := by kernel_rfl
theorem zr57 : zrOf Try.prog 57 = some (.nilFunc) := by kernel_rfl
theorem g59 : aggOf Try.prog 59 = some false := by kernel_rfl
theorem z59 : szOf Try.prog 59 = some 1 := by kernel_rfl
theorem by59 : byOf Try.prog 59 = some 8 := by kernel_rfl
theorem zr59 : zrOf Try.prog 59 = some (.nilFunc) := by kernel_rfl
theorem g60 : aggOf Try.prog 60 = some false := by kernel_rfl
theorem z60 : szOf Try.prog 60 = some 1 := by kernel_rfl
theorem by60 : byOf Try.prog 60 = some 24 := by kernel_rfl
theorem zr60 : zrOf Try.prog 60 = some (.slice none 0 0) := by kernel_rfl
theorem g62 : aggOf Try.prog 62 = some false := by kernel_rfl
theorem z62 : szOf Try.prog 62 = some 1 := by kernel_rfl
theorem by62 : byOf Try.prog 62 = some 8 := by kernel_rfl
theorem zr62 : zrOf Try.prog 62 = some (.nilFunc) := by kernel_rfl
theorem g63 : aggOf Try.prog 63 = some true := by kernel_rfl
theorem z63 : szOf Try.prog 63 = some 7 := by kernel_rfl
theorem by63 : byOf Try.prog 63 = some 96 := by kernel_rfl
theorem zr63 : zrOf Try.prog 63 = some (.agg [.int .i64 (0), .string ⟨#[]⟩, .string ⟨#[]⟩, .slice none 0 0, .slice none 0 0, .bool false, .int .u32 (0)].toArray) := by kernel_rfl
theorem g64 : aggOf Try.prog 64 = some true := by kernel_rfl
theorem z64 : szOf Try.prog 64 = some 7 := by kernel_rfl
theorem by64 : byOf Try.prog 64 = some 96 := by kernel_rfl
theorem zr64 : zrOf Try.prog 64 = some (.agg [.int .i64 (0), .string ⟨#[]⟩, .string ⟨#[]⟩, .slice none 0 0, .slice none 0 0, .bool false, .int .u32 (0)].toArray) := by kernel_rfl
theorem g65 : aggOf Try.prog 65 = some false := by kernel_rfl
theorem z65 : szOf Try.prog 65 = some 1 := by kernel_rfl
theorem by65 : byOf Try.prog 65 = some 24 := by kernel_rfl
theorem zr65 : zrOf Try.prog 65 = some (.slice none 0 0) := by kernel_rfl
theorem g66 : aggOf Try.prog 66 = some false := by kernel_rfl
theorem z66 : szOf Try.prog 66 = some 1 := by kernel_rfl
theorem by66 : byOf Try.prog 66 = some 8 := by kernel_rfl
theorem zr66 : zrOf Try.prog 66 = some (.nilFunc) := by kernel_rfl
theorem g67 : aggOf Try.prog 67 = some false := by kernel_rfl
theorem z67 : szOf Try.prog 67 = some 1 := by kernel_rfl
theorem by67 : byOf Try.prog 67 = some 8 := by kernel_rfl
theorem zr67 : zrOf Try.prog 67 = some (.map none) := by kernel_rfl
theorem g68 : aggOf Try.prog 68 = some false := by kernel_rfl
theorem z68 : szOf Try.prog 68 = some 1 := by kernel_rfl
theorem by68 : byOf Try.prog 68 = some 8 := by kernel_rfl
theorem zr68 : zrOf Try.prog 68 = some (.nilFunc) := by kernel_rfl
theorem g69 : aggOf Try.prog 69 = some false := by kernel_rfl
theorem z69 : szOf Try.prog 69 = some 1 := by kernel_rfl
theorem by69 : byOf Try.prog 69 = some 8 := by kernel_rfl
theorem zr69 : zrOf Try.prog 69 = some (.nilFunc) := by kernel_rfl
theorem g74 : aggOf Try.prog 74 = some false := by kernel_rfl
theorem z74 : szOf Try.prog 74 = some 1 := by kernel_rfl
theorem by74 : byOf Try.prog 74 = some 8 := by kernel_rfl
theorem zr74 : zrOf Try.prog 74 = some (.nilFunc) := by kernel_rfl
theorem g77 : aggOf Try.prog 77 = some false := by kernel_rfl
theorem z77 : szOf Try.prog 77 = some 1 := by kernel_rfl
theorem by77 : byOf Try.prog 77 = some 8 := by kernel_rfl
theorem zr77 : zrOf Try.prog 77 = some (.nilFunc) := by kernel_rfl
theorem g79 : aggOf Try.prog 79 = some false := by kernel_rfl
theorem z79 : szOf Try.prog 79 = some 1 := by kernel_rfl
theorem by79 : byOf Try.prog 79 = some 8 := by kernel_rfl
theorem zr79 : zrOf Try.prog 79 = some (.nilFunc) := by kernel_rfl
theorem g80 : aggOf Try.prog 80 = some false := by kernel_rfl
theorem z80 : szOf Try.prog 80 = some 1 := by kernel_rfl
theorem by80 : byOf Try.prog 80 = some 8 := by kernel_rfl
theorem zr80 : zrOf Try.prog 80 = some (.nilFunc) := by kernel_rfl
theorem g81 : aggOf Try.prog 81 = some false := by kernel_rfl
theorem z81 : szOf Try.prog 81 = some 1 := by kernel_rfl
theorem by81 : byOf Try.prog 81 = some 8 := by kernel_rfl
theorem zr81 : zrOf Try.prog 81 = some (.nilFunc) := by kernel_rfl
theorem g82 : aggOf Try.prog 82 = some false := by kernel_rfl
theorem z82 : szOf Try.prog 82 = some 1 := by kernel_rfl
theorem by82 : byOf Try.prog 82 = some 24 := by kernel_rfl
theorem zr82 : zrOf Try.prog 82 = some (.slice none 0 0) := by kernel_rfl
theorem g83 : aggOf Try.prog 83 = some false := by kernel_rfl
theorem z83 : szOf Try.prog 83 = some 1 := by kernel_rfl
theorem by83 : byOf Try.prog 83 = some 8 := by kernel_rfl
theorem zr83 : zrOf Try.prog 83 = some (.nilFunc) := by kernel_rfl
theorem g84 : aggOf Try.prog 84 = some false := by kernel_rfl
theorem z84 : szOf Try.prog 84 = some 1 := by kernel_rfl
theorem by84 : byOf Try.prog 84 = some 8 := by kernel_rfl
theorem zr84 : zrOf Try.prog 84 = some (.nilFunc) := by kernel_rfl
theorem g86 : aggOf Try.prog 86 = some false := by kernel_rfl
theorem z86 : szOf Try.prog 86 = some 1 := by kernel_rfl
theorem by86 : byOf Try.prog 86 = some 8 := by kernel_rfl
theorem zr86 : zrOf Try.prog 86 = some (.nilFunc) := by kernel_rfl
theorem g87 : aggOf Try.prog 87 = some false := by kernel_rfl
theorem z87 : szOf Try.prog 87 = some 1 := by kernel_rfl
theorem by87 : byOf Try.prog 87 = some 8 := by kernel_rfl
theorem zr87 : zrOf Try.prog 87 = some (.nilFunc) := by kernel_rfl
theorem g89 : aggOf Try.prog 89 = some true := by kernel_rfl
theorem z89 : szOf Try.prog 89 = some 3 := by kernel_rfl
theorem by89 : byOf Try.prog 89 = some 32 := by kernel_rfl
theorem zr89 : zrOf Try.prog 89 = some (.agg [.int .i64 (0), .int .i64 (0), .string ⟨#[]⟩].toArray) := by kernel_rfl
theorem g90 : aggOf Try.prog 90 = some false := by kernel_rfl
theorem z90 : szOf Try.prog 90 = some 1 := by kernel_rfl
theorem by90 : byOf Try.prog 90 = some 8 := by kernel_rfl
theorem zr90 : zrOf Try.prog 90 = some (.nilFunc) := by kernel_rfl
theorem g91 : aggOf Try.prog 91 = some false := by kernel_rfl
theorem z91 : szOf Try.prog 91 = some 1 := by kernel_rfl
theorem by91 : byOf Try.prog 91 = some 8 := by kernel_rfl
theorem zr91 : zrOf Try.prog 91 = some (.nilFunc) := by kernel_rfl
theorem g94 : aggOf Try.prog 94 = some false := by kernel_rfl
theorem z94 : szOf Try.prog 94 = some 1 := by kernel_rfl
theorem by94 : byOf Try.prog 94 = some 8 := by kernel_rfl
theorem zr94 : zrOf Try.prog 94 = some (.nilFunc) := by kernel_rfl
theorem g96 : aggOf Try.prog 96 = some false := by kernel_rfl
theorem z96 : szOf Try.prog 96 = some 1 := by kernel_rfl
theorem by96 : byOf Try.prog 96 = some 8 := by kernel_rfl
theorem zr96 : zrOf Try.prog 96 = some (.pointer none) := by kernel_rfl
theorem g99 : aggOf Try.prog 99 = some false := by kernel_rfl
theorem z99 : szOf Try.prog 99 = some 1 := by kernel_rfl
theorem by99 : byOf Try.prog 99 = some 8 := by kernel_rfl
theorem zr99 : zrOf Try.prog 99 = some (.nilFunc) := by kernel_rfl
theorem g103 : aggOf Try.prog 103 = some false := by kernel_rfl
theorem z103 : szOf Try.prog 103 = some 1 := by kernel_rfl
theorem by103 : byOf Try.prog 103 = some 8 := by kernel_rfl
theorem zr103 : zrOf Try.prog 103 = some (.nilFunc) := by kernel_rfl
theorem g106 : aggOf Try.prog 106 = some false := by kernel_rfl
theorem z106 : szOf Try.prog 106 = some 1 := by kernel_rfl
theorem by106 : byOf Try.prog 106 = some 8 := by kernel_rfl
theorem zr106 : zrOf Try.prog 106 = some (.nilFunc) := by kernel_rfl
theorem g109 : aggOf Try.prog 109 = some false := by kernel_rfl
theorem z109 : szOf Try.prog 109 = some 1 := by kernel_rfl
theorem by109 : byOf Try.prog 109 = some 8 := by kernel_rfl
theorem zr109 : zrOf Try.prog 109 = some (.nilFunc) := by kernel_rfl
theorem g111 : aggOf Try.prog 111 = some false := by kernel_rfl
theorem z111 : szOf Try.prog 111 = some 1 := by kernel_rfl
theorem by111 : byOf Try.prog 111 = some 8 := by kernel_rfl
theorem zr111 : zrOf Try.prog 111 = some (.nilFunc) := by kernel_rfl
theorem g112 : aggOf Try.prog 112 = some false := by kernel_rfl
theorem z112 : szOf Try.prog 112 = some 1 := by kernel_rfl
theorem by112 : byOf Try.prog 112 = some 8 := by kernel_rfl
theorem zr112 : zrOf Try.prog 112 = some (.nilFunc) := by kernel_rfl
theorem g114 : aggOf Try.prog 114 = some false := by kernel_rfl
theorem z114 : szOf Try.prog 114 = some 1 := by kernel_rfl
theorem by114 : byOf Try.prog 114 = some 8 := by kernel_rfl
theorem zr114 : zrOf Try.prog 114 = some (.nilFunc) := by kernel_rfl
theorem g119 : aggOf Try.prog 119 = some false := by kernel_rfl
theorem z119 : szOf Try.prog 119 = some 1 := by kernel_rfl
theorem by119 : byOf Try.prog 119 = some 8 := by kernel_rfl
theorem zr119 : zrOf Try.prog 119 = some (.nilFunc) := by kernel_rfl
theorem g120 : aggOf Try.prog 120 = some false := by kernel_rfl
theorem z120 : szOf Try.prog 120 = some 1 := by kernel_rfl
theorem by120 : byOf Try.prog 120 = some 8 := by kernel_rfl
theorem zr120 : zrOf Try.prog 120 = some (.int .u64 (0)) := by kernel_rfl
theorem g121 : aggOf Try.prog 121 = some false := by kernel_rfl
theorem z121 : szOf Try.prog 121 = some 1 := by kernel_rfl
theorem by121 : byOf Try.prog 121 = some 8 := by kernel_rfl
theorem zr121 : zrOf Try.prog 121 = some (.nilFunc) := by kernel_rfl
theorem g122 : aggOf Try.prog 122 = some false := by kernel_rfl
theorem z122 : szOf Try.prog 122 = some 1 := by kernel_rfl
theorem by122 : byOf Try.prog 122 = some 8 := by kernel_rfl
theorem zr122 : zrOf Try.prog 122 = some (.nilFunc) := by kernel_rfl
theorem g126 : aggOf Try.prog 126 = some false := by kernel_rfl
theorem z126 : szOf Try.prog 126 = some 1 := by kernel_rfl
theorem by126 : byOf Try.prog 126 = some 8 := by kernel_rfl
theorem zr126 : zrOf Try.prog 126 = some (.int .i64 (0)) := by kernel_rfl
theorem g129 : aggOf Try.prog 129 = some false := by kernel_rfl
theorem z129 : szOf Try.prog 129 = some 1 := by kernel_rfl
theorem by129 : byOf Try.prog 129 = some 8 := by kernel_rfl
theorem zr129 : zrOf Try.prog 129 = some (.nilFunc) := by kernel_rfl
theorem g130 : aggOf Try.prog 130 = some false := by kernel_rfl
theorem z130 : szOf Try.prog 130 = some 1 := by kernel_rfl
theorem by130 : byOf Try.prog 130 = some 8 := by kernel_rfl
theorem zr130 : zrOf Try.prog 130 = some (.nilFunc) := by kernel_rfl
theorem g132 : aggOf Try.prog 132 = some false := by kernel_rfl
theorem z132 : szOf Try.prog 132 = some 1 := by kernel_rfl
theorem by132 : byOf Try.prog 132 = some 8 := by kernel_rfl
theorem zr132 : zrOf Try.prog 132 = some (.nilFunc) := by kernel_rfl
theorem g134 : aggOf Try.prog 134 = some false := by kernel_rfl
theorem z134 : szOf Try.prog 134 = some 1 := by kernel_rfl
theorem by134 : byOf Try.prog 134 = some 8 := by kernel_rfl
theorem zr134 : zrOf Try.prog 134 = some (.nilFunc) := by kernel_rfl
theorem g135 : aggOf Try.prog 135 = some false := by kernel_rfl
theorem z135 : szOf Try.prog 135 = some 1 := by kernel_rfl
theorem by135 : byOf Try.prog 135 = some 8 := by kernel_rfl
theorem zr135 : zrOf Try.prog 135 = some (.int .u64 (0)) := by kernel_rfl
theorem g137 : aggOf Try.prog 137 = some false := by kernel_rfl
theorem z137 : szOf Try.prog 137 = some 1 := by kernel_rfl
theorem by137 : byOf Try.prog 137 = some 8 := by kernel_rfl
theorem zr137 : zrOf Try.prog 137 = some (.nilFunc) := by kernel_rfl
theorem g138 : aggOf Try.prog 138 = some false := by kernel_rfl
theorem z138 : szOf Try.prog 138 = some 1 := by kernel_rfl
theorem by138 : byOf Try.prog 138 = some 8 := by kernel_rfl
theorem zr138 : zrOf Try.prog 138 = some (.int .u64 (0)) := by kernel_rfl
theorem g141 : aggOf Try.prog 141 = some false := by kernel_rfl
theorem z141 : szOf Try.prog 141 = some 1 := by kernel_rfl
theorem by141 : byOf Try.prog 141 = some 8 := by kernel_rfl
theorem zr141 : zrOf Try.prog 141 = some (.nilFunc) := by kernel_rfl
theorem g142 : aggOf Try.prog 142 = some false := by kernel_rfl
theorem z142 : szOf Try.prog 142 = some 1 := by kernel_rfl
theorem by142 : byOf Try.prog 142 = some 8 := by kernel_rfl
theorem zr142 : zrOf Try.prog 142 = some (.pointer none) := by kernel_rfl
theorem g143 : aggOf Try.prog 143 = some false := by kernel_rfl
theorem z143 : szOf Try.prog 143 = some 1 := by kernel_rfl
theorem by143 : byOf Try.prog 143 = some 8 := by kernel_rfl
theorem zr143 : zrOf Try.prog 143 = some (.nilFunc) := by kernel_rfl
theorem g146 : aggOf Try.prog 146 = some false := by kernel_rfl
theorem z146 : szOf Try.prog 146 = some 1 := by kernel_rfl
theorem by146 : byOf Try.prog 146 = some 8 := by kernel_rfl
theorem zr146 : zrOf Try.prog 146 = some (.pointer none) := by kernel_rfl
theorem g148 : aggOf Try.prog 148 = some false := by kernel_rfl
theorem z148 : szOf Try.prog 148 = some 1 := by kernel_rfl
theorem by148 : byOf Try.prog 148 = some 8 := by kernel_rfl
theorem zr148 : zrOf Try.prog 148 = some (.nilFunc) := by kernel_rfl
theorem g152 : aggOf Try.prog 152 = some true := by kernel_rfl
theorem z152 : szOf Try.prog 152 = some 0 := by kernel_rfl
theorem by152 : byOf Try.prog 152 = some 0 := by kernel_rfl
theorem zr152 : zrOf Try.prog 152 = some (.agg [].toArray) := by kernel_rfl
theorem g154 : aggOf Try.prog 154 = some true := by kernel_rfl
theorem z154 : szOf Try.prog 154 = some 0 := by kernel_rfl
theorem by154 : byOf Try.prog 154 = some 0 := by kernel_rfl
theorem zr154 : zrOf Try.prog 154 = some (.agg [].toArray) := by kernel_rfl
theorem g159 : aggOf Try.prog 159 = some false := by kernel_rfl
theorem z159 : szOf Try.prog 159 = some 1 := by kernel_rfl
theorem by159 : byOf Try.prog 159 = some 8 := by kernel_rfl
theorem zr159 : zrOf Try.prog 159 = some (.pointer none) := by kernel_rfl
theorem g161 : aggOf Try.prog 161 = some false := by kernel_rfl
theorem z161 : szOf Try.prog 161 = some 1 := by kernel_rfl
theorem by161 : byOf Try.prog 161 = some 4 := by kernel_rfl
theorem zr161 : zrOf Try.prog 161 = some (.int .i32 (0)) := by kernel_rfl
theorem fo25_0 : fldOff Try.prog 25 0 = some (0, 22, 1) := by kernel_rfl
theorem fo25_1 : fldOff Try.prog 25 1 = some (1, 23, 1) := by kernel_rfl
theorem fo36_0 : fldOff Try.prog 36 0 = some (0, 9, 1) := by kernel_rfl
theorem fo36_1 : fldOff Try.prog 36 1 = some (1, 3, 1) := by kernel_rfl
theorem fo36_2 : fldOff Try.prog 36 2 = some (2, 4, 1) := by kernel_rfl
theorem fo46_0 : fldOff Try.prog 46 0 = some (0, 44, 1) := by kernel_rfl
theorem fo46_1 : fldOff Try.prog 46 1 = some (1, 9, 1) := by kernel_rfl
theorem fo46_2 : fldOff Try.prog 46 2 = some (2, 33, 1) := by kernel_rfl
theorem fo46_3 : fldOff Try.prog 46 3 = some (3, 44, 1) := by kernel_rfl
theorem fo53_0 : fldOff Try.prog 53 0 = some (0, 44, 1) := by kernel_rfl
theorem fo53_1 : fldOff Try.prog 53 1 = some (1, 44, 1) := by kernel_rfl
theorem fo53_2 : fldOff Try.prog 53 2 = some (2, 9, 1) := by kernel_rfl
theorem fo53_3 : fldOff Try.prog 53 3 = some (3, 51, 1) := by kernel_rfl
theorem fo53_4 : fldOff Try.prog 53 4 = some (4, 4, 1) := by kernel_rfl
theorem fo53_5 : fldOff Try.prog 53 5 = some (5, 44, 1) := by kernel_rfl
theorem fo64_0 : fldOff Try.prog 64 0 = some (0, 3, 1) := by kernel_rfl
theorem fo64_1 : fldOff Try.prog 64 1 = some (1, 9, 1) := by kernel_rfl
theorem fo64_2 : fldOff Try.prog 64 2 = some (2, 9, 1) := by kernel_rfl
theorem fo64_3 : fldOff Try.prog 64 3 = some (3, 33, 1) := by kernel_rfl
theorem fo64_4 : fldOff Try.prog 64 4 = some (4, 51, 1) := by kernel_rfl
theorem fo64_5 : fldOff Try.prog 64 5 = some (5, 4, 1) := by kernel_rfl
theorem fo64_6 : fldOff Try.prog 64 6 = some (6, 44, 1) := by kernel_rfl
theorem fo89_0 : fldOff Try.prog 89 0 = some (0, 3, 1) := by kernel_rfl
theorem fo89_1 : fldOff Try.prog 89 1 = some (1, 2, 1) := by kernel_rfl
theorem fo89_2 : fldOff Try.prog 89 2 = some (2, 9, 1) := by kernel_rfl
theorem pl25 : placesOf Try.prog 25 = some [(0, 1), (1, 1)] := by kernel_rfl
theorem pl36 : placesOf Try.prog 36 = some [(0, 1), (1, 1), (2, 1)] := by kernel_rfl
theorem pl46 : placesOf Try.prog 46 = some [(0, 1), (1, 1), (2, 1), (3, 1)] := by kernel_rfl
theorem pl53 : placesOf Try.prog 53 = some [(0, 1), (1, 1), (2, 1), (3, 1), (4, 1), (5, 1)] := by kernel_rfl
theorem pl89 : placesOf Try.prog 89 = some [(0, 1), (1, 1), (2, 1)] := by kernel_rfl
theorem cal3 : Callable Try.prog 3 := callable_of Try.func3 rfl (by kernel_rfl)
theorem cal4 : Callable Try.prog 4 := callable_of Try.func4 rfl (by kernel_rfl)
theorem cal5 : Callable Try.prog 5 := callable_of Try.func5 rfl (by kernel_rfl)
theorem cal6 : Callable Try.prog 6 := callable_of Try.func6 rfl (by kernel_rfl)
theorem cal7 : Callable Try.prog 7 := callable_of Try.func7 rfl (by kernel_rfl)
theorem cal8 : Callable Try.prog 8 := callable_of Try.func8 rfl (by kernel_rfl)
theorem cal9 : Callable Try.prog 9 := callable_of Try.func9 rfl (by kernel_rfl)
theorem cal10 : Callable Try.prog 10 := callable_of Try.func10 rfl (by kernel_rfl)
theorem cal11 : Callable Try.prog 11 := callable_of Try.func11 rfl (by kernel_rfl)
theorem cal12 : Callable Try.prog 12 := callable_of Try.func12 rfl (by kernel_rfl)
theorem cal13 : Callable Try.prog 13 := callable_of Try.func13 rfl (by kernel_rfl)
theorem cal14 : Callable Try.prog 14 := callable_of Try.func14 rfl (by kernel_rfl)
theorem cal15 : Callable Try.prog 15 := callable_of Try.func15 rfl (by kernel_rfl)
theorem cal16 : Callable Try.prog 16 := callable_of Try.func16 rfl (by kernel_rfl)
theorem cal17 : Callable Try.prog 17 := callable_of Try.func17 rfl (by kernel_rfl)
theorem cal18 : Callable Try.prog 18 := callable_of Try.func18 rfl (by kernel_rfl)
theorem cal19 : Callable Try.prog 19 := callable_of Try.func19 rfl (by kernel_rfl)
theorem cal20 : Callable Try.prog 20 := callable_of Try.func20 rfl (by kernel_rfl)
theorem cal21 : Callable Try.prog 21 := callable_of Try.func21 rfl (by kernel_rfl)
theorem cal22 : Callable Try.prog 22 := callable_of Try.func22 rfl (by kernel_rfl)
theorem cal23 : Callable Try.prog 23 := callable_of Try.func23 rfl (by kernel_rfl)
theorem cal24 : Callable Try.prog 24 := callable_of Try.func24 rfl (by kernel_rfl)
theorem cal25 : Callable Try.prog 25 := callable_of Try.func25 rfl (by kernel_rfl)
theorem cal26 : Callable Try.prog 26 := callable_of Try.func26 rfl (by kernel_rfl)
theorem cal27 : Callable Try.prog 27 := callable_of Try.func27 rfl (by kernel_rfl)
theorem cal28 : Callable Try.prog 28 := callable_of Try.func28 rfl (by kernel_rfl)
theorem cal29 : Callable Try.prog 29 := callable_of Try.func29 rfl (by kernel_rfl)
theorem cal30 : Callable Try.prog 30 := callable_of Try.func30 rfl (by kernel_rfl)
theorem cal31 : Callable Try.prog 31 := callable_of Try.func31 rfl (by kernel_rfl)
theorem cal32 : Callable Try.prog 32 := callable_of Try.func32 rfl (by kernel_rfl)
theorem cal33 : Callable Try.prog 33 := callable_of Try.func33 rfl (by kernel_rfl)
theorem cal34 : Callable Try.prog 34 := callable_of Try.func34 rfl (by kernel_rfl)
theorem cal35 : Callable Try.prog 35 := callable_of Try.func35 rfl (by kernel_rfl)
theorem cal36 : Callable Try.prog 36 := callable_of Try.func36 rfl (by kernel_rfl)
theorem cal37 : Callable Try.prog 37 := callable_of Try.func37 rfl (by kernel_rfl)
theorem cal38 : Callable Try.prog 38 := callable_of Try.func38 rfl (by kernel_rfl)
theorem cal39 : Callable Try.prog 39 := callable_of Try.func39 rfl (by kernel_rfl)
theorem cal40 : Callable Try.prog 40 := callable_of Try.func40 rfl (by kernel_rfl)
theorem cal41 : Callable Try.prog 41 := callable_of Try.func41 rfl (by kernel_rfl)
theorem cal42 : Callable Try.prog 42 := callable_of Try.func42 rfl (by kernel_rfl)
theorem cal43 : Callable Try.prog 43 := callable_of Try.func43 rfl (by kernel_rfl)
theorem cal44 : Callable Try.prog 44 := callable_of Try.func44 rfl (by kernel_rfl)
theorem cal45 : Callable Try.prog 45 := callable_of Try.func45 rfl (by kernel_rfl)
theorem cal46 : Callable Try.prog 46 := callable_of Try.func46 rfl (by kernel_rfl)
theorem cal47 : Callable Try.prog 47 := callable_of Try.func47 rfl (by kernel_rfl)
theorem cal48 : Callable Try.prog 48 := callable_of Try.func48 rfl (by kernel_rfl)
theorem cal49 : Callable Try.prog 49 := callable_of Try.func49 rfl (by kernel_rfl)
theorem cal50 : Callable Try.prog 50 := callable_of Try.func50 rfl (by kernel_rfl)
theorem cal51 : Callable Try.prog 51 := callable_of Try.func51 rfl (by kernel_rfl)
theorem cal52 : Callable Try.prog 52 := callable_of Try.func52 rfl (by kernel_rfl)
theorem cal53 : Callable Try.prog 53 := callable_of Try.func53 rfl (by kernel_rfl)
theorem cal54 : Callable Try.prog 54 := callable_of Try.func54 rfl (by kernel_rfl)
theorem cal55 : Callable Try.prog 55 := callable_of Try.func55 rfl (by kernel_rfl)
theorem cal56 : Callable Try.prog 56 := callable_of Try.func56 rfl (by kernel_rfl)
theorem cal57 : Callable Try.prog 57 := callable_of Try.func57 rfl (by kernel_rfl)
theorem cal58 : Callable Try.prog 58 := callable_of Try.func58 rfl (by kernel_rfl)
theorem cal59 : Callable Try.prog 59 := callable_of Try.func59 rfl (by kernel_rfl)
theorem cal60 : Callable Try.prog 60 := callable_of Try.func60 rfl (by kernel_rfl)
theorem cal61 : Callable Try.prog 61 := callable_of Try.func61 rfl (by kernel_rfl)
theorem cal62 : Callable Try.prog 62 := callable_of Try.func62 rfl (by kernel_rfl)
theorem cal63 : Callable Try.prog 63 := callable_of Try.func63 rfl (by kernel_rfl)
theorem cal64 : Callable Try.prog 64 := callable_of Try.func64 rfl (by kernel_rfl)
theorem cal65 : Callable Try.prog 65 := callable_of Try.func65 rfl (by kernel_rfl)
theorem cal66 : Callable Try.prog 66 := callable_of Try.func66 rfl (by kernel_rfl)
theorem cal67 : Callable Try.prog 67 := callable_of Try.func67 rfl (by kernel_rfl)
theorem cal68 : Callable Try.prog 68 := callable_of Try.func68 rfl (by kernel_rfl)
theorem cal69 : Callable Try.prog 69 := callable_of Try.func69 rfl (by kernel_rfl)
theorem cal70 : Callable Try.prog 70 := callable_of Try.func70 rfl (by kernel_rfl)
theorem cal71 : Callable Try.prog 71 := callable_of Try.func71 rfl (by kernel_rfl)
theorem cal72 : Callable Try.prog 72 := callable_of Try.func72 rfl (by kernel_rfl)
theorem cal73 : Callable Try.prog 73 := callable_of Try.func73 rfl (by kernel_rfl)
theorem cal74 : Callable Try.prog 74 := callable_of Try.func74 rfl (by kernel_rfl)
theorem cal75 : Callable Try.prog 75 := callable_of Try.func75 rfl (by kernel_rfl)
theorem cal76 : Callable Try.prog 76 := callable_of Try.func76 rfl (by kernel_rfl)
theorem cal77 : Callable Try.prog 77 := callable_of Try.func77 rfl (by kernel_rfl)
theorem cal78 : Callable Try.prog 78 := callable_of Try.func78 rfl (by kernel_rfl)
theorem cal79 : Callable Try.prog 79 := callable_of Try.func79 rfl (by kernel_rfl)
theorem cal80 : Callable Try.prog 80 := callable_of Try.func80 rfl (by kernel_rfl)
theorem cal81 : Callable Try.prog 81 := callable_of Try.func81 rfl (by kernel_rfl)
theorem cal82 : Callable Try.prog 82 := callable_of Try.func82 rfl (by kernel_rfl)
theorem cal83 : Callable Try.prog 83 := callable_of Try.func83 rfl (by kernel_rfl)
theorem cal84 : Callable Try.prog 84 := callable_of Try.func84 rfl (by kernel_rfl)
theorem cal85 : Callable Try.prog 85 := callable_of Try.func85 rfl (by kernel_rfl)
theorem cal86 : Callable Try.prog 86 := callable_of Try.func86 rfl (by kernel_rfl)
theorem cal87 : Callable Try.prog 87 := callable_of Try.func87 rfl (by kernel_rfl)
theorem cal88 : Callable Try.prog 88 := callable_of Try.func88 rfl (by kernel_rfl)
theorem cal89 : Callable Try.prog 89 := callable_of Try.func89 rfl (by kernel_rfl)
theorem cal90 : Callable Try.prog 90 := callable_of Try.func90 rfl (by kernel_rfl)
theorem cal91 : Callable Try.prog 91 := callable_of Try.func91 rfl (by kernel_rfl)
theorem cal92 : Callable Try.prog 92 := callable_of Try.func92 rfl (by kernel_rfl)
theorem cal93 : Callable Try.prog 93 := callable_of Try.func93 rfl (by kernel_rfl)
theorem cal94 : Callable Try.prog 94 := callable_of Try.func94 rfl (by kernel_rfl)
theorem cal95 : Callable Try.prog 95 := callable_of Try.func95 rfl (by kernel_rfl)
theorem cal96 : Callable Try.prog 96 := callable_of Try.func96 rfl (by kernel_rfl)
theorem cal97 : Callable Try.prog 97 := callable_of Try.func97 rfl (by kernel_rfl)
theorem cal98 : Callable Try.prog 98 := callable_of Try.func98 rfl (by kernel_rfl)
theorem cal99 : Callable Try.prog 99 := callable_of Try.func99 rfl (by kernel_rfl)
theorem cal100 : Callable Try.prog 100 := callable_of Try.func100 rfl (by kernel_rfl)
theorem cal101 : Callable Try.prog 101 := callable_of Try.func101 rfl (by kernel_rfl)
theorem cal102 : Callable Try.prog 102 := callable_of Try.func102 rfl (by kernel_rfl)
theorem cal103 : Callable Try.prog 103 := callable_of Try.func103 rfl (by kernel_rfl)
theorem cal104 : Callable Try.prog 104 := callable_of Try.func104 rfl (by kernel_rfl)
theorem cal105 : Callable Try.prog 105 := callable_of Try.func105 rfl (by kernel_rfl)
theorem cal106 : Callable Try.prog 106 := callable_of Try.func106 rfl (by kernel_rfl)
theorem cal107 : Callable Try.prog 107 := callable_of Try.func107 rfl (by kernel_rfl)
theorem cal108 : Callable Try.prog 108 := callable_of Try.func108 rfl (by kernel_rfl)
theorem cal109 : Callable Try.prog 109 := callable_of Try.func109 rfl (by kernel_rfl)
theorem cal110 : Callable Try.prog 110 := callable_of Try.func110 rfl (by kernel_rfl)
theorem cal111 : Callable Try.prog 111 := callable_of Try.func111 rfl (by kernel_rfl)
theorem cal112 : Callable Try.prog 112 := callable_of Try.func112 rfl (by kernel_rfl)
theorem cal113 : Callable Try.prog 113 := callable_of Try.func113 rfl (by kernel_rfl)
theorem cal114 : Callable Try.prog 114 := callable_of Try.func114 rfl (by kernel_rfl)
theorem cal115 : Callable Try.prog 115 := callable_of Try.func115 rfl (by kernel_rfl)
theorem cal116 : Callable Try.prog 116 := callable_of Try.func116 rfl (by kernel_rfl)
def undL : List (Nat × TypeDesc) := [(2, .int .i64), (3, .int .i64), (4, .bool), (5, .int .u8), (6, .int .u8), (9, .string), (10, .string), (11, .string), (12, .int .u64), (15, .pointer 151), (16, .pointer 154), (17, .pointer 163), (21, .int .i32), (22, .slice 46), (23, .slice 53), (28, .slice 65), (29, .int .i64), (33, .slice 36), (44, .int .u32), (51, .slice 3), (60, .slice 64), (65, .slice 89), (82, .slice 44), (96, .pointer 25), (120, .int .u64), (126, .int .i64), (135, .int .u64), (138, .int .u64), (142, .pointer 3), (146, .pointer 138), (152, .array 0 16), (159, .pointer 5), (161, .int .i32)]
theorem und {t : TypeId} {x : TypeDesc} (h : lkL undL t = some x) : Try.prog.underlying t = some x := look (f := Try.prog.underlying) undL ⟨Try.underlying2, Try.underlying3, Try.underlying4, Try.underlying5, Try.underlying6, Try.underlying9, Try.underlying10, Try.underlying11, Try.underlying12, Try.underlying15, Try.underlying16, Try.underlying17, Try.underlying21, Try.underlying22, Try.underlying23, Try.underlying28, Try.underlying29, Try.underlying33, Try.underlying44, Try.underlying51, Try.underlying60, Try.underlying65, Try.underlying82, Try.underlying96, Try.underlying120, Try.underlying126, Try.underlying135, Try.underlying138, Try.underlying142, Try.underlying146, Try.underlying152, Try.underlying159, Try.underlying161, trivial⟩ h
theorem fl36 : flatD Try.prog 36 = some [.string, .int .i64, .bool] := by kernel_rfl
theorem fl89 : flatD Try.prog 89 = some [.int .i64, .int .i64, .string] := by kernel_rfl
def flatL : List (Nat × List TypeDesc) := [(36, [.string, .int .i64, .bool]), (89, [.int .i64, .int .i64, .string])]
theorem flat {t : TypeId} {x : List TypeDesc} (h : lkL flatL t = some x) : flatD Try.prog t = some x := look (f := flatD Try.prog) flatL ⟨fl36, fl89, trivial⟩ h
def aggL : List (Nat × Bool) := [(1, false), (2, false), (3, false), (4, false), (5, false), (6, false), (7, true), (8, true), (9, false), (10, false), (11, false), (12, false), (13, true), (14, true), (15, false), (16, false), (17, false), (18, true), (19, true), (20, false), (21, false), (22, false), (23, false), (24, true), (25, true), (26, false), (27, false), (28, false), (29, false), (31, false), (32, false), (33, false), (34, false), (35, true), (36, true), (37, false), (38, false), (39, false), (40, false), (42, false), (43, false), (44, false), (46, true), (48, false), (51, false), (52, true), (53, true), (55, false), (56, false), (57, false), (59, false), (60, false), (62, false), (63, true), (64, true), (65, false), (66, false), (67, false), (68, false), (69, false), (74, false), (77, false), (79, false), (80, false), (81, false), (82, false), (83, false), (84, false), (86, false), (87, false), (89, true), (90, false), (91, false), (94, false), (96, false), (99, false), (103, false), (106, false), (109, false), (111, false), (112, false), (114, false), (119, false), (120, false), (121, false), (122, false), (126, false), (129, false), (130, false), (132, false), (134, false), (135, false), (137, false), (138, false), (141, false), (142, false), (143, false), (146, false), (148, false), (152, true), (154, true), (159, false), (161, false)]
theorem agg {t : TypeId} {x : Bool} (h : lkL aggL t = some x) : aggOf Try.prog t = some x := look (f := aggOf Try.prog) aggL ⟨g1, g2, g3, g4, g5, g6, g7, g8, g9, g10, g11, g12, g13, g14, g15, g16, g17, g18, g19, g20, g21, g22, g23, g24, g25, g26, g27, g28, g29, g31, g32, g33, g34, g35, g36, g37, g38, g39, g40, g42, g43, g44, g46, g48, g51, g52, g53, g55, g56, g57, g59, g60, g62, g63, g64, g65, g66, g67, g68, g69, g74, g77, g79, g80, g81, g82, g83, g84, g86, g87, g89, g90, g91, g94, g96, g99, g103, g106, g109, g111, g112, g114, g119, g120, g121, g122, g126, g129, g130, g132, g134, g135, g137, g138, g141, g142, g143, g146, g148, g152, g154, g159, g161, trivial⟩ h
def szL : List (Nat × Nat) := [(1, 1), (2, 1), (3, 1), (4, 1), (5, 1), (6, 1), (7, 4), (8, 4), (9, 1), (10, 1), (11, 1), (12, 1), (13, 2), (14, 2), (15, 1), (16, 1), (17, 1), (18, 1), (19, 1), (20, 1), (21, 1), (22, 1), (23, 1), (24, 2), (25, 2), (26, 1), (27, 1), (28, 1), (29, 1), (31, 1), (32, 1), (33, 1), (34, 1), (35, 3), (36, 3), (37, 1), (38, 1), (39, 1), (40, 1), (42, 1), (43, 1), (44, 1), (46, 4), (48, 1), (51, 1), (52, 6), (53, 6), (55, 1), (56, 1), (57, 1), (59, 1), (60, 1), (62, 1), (63, 7), (64, 7), (65, 1), (66, 1), (67, 1), (68, 1), (69, 1), (74, 1), (77, 1), (79, 1), (80, 1), (81, 1), (82, 1), (83, 1), (84, 1), (86, 1), (87, 1), (89, 3), (90, 1), (91, 1), (94, 1), (96, 1), (99, 1), (103, 1), (106, 1), (109, 1), (111, 1), (112, 1), (114, 1), (119, 1), (120, 1), (121, 1), (122, 1), (126, 1), (129, 1), (130, 1), (132, 1), (134, 1), (135, 1), (137, 1), (138, 1), (141, 1), (142, 1), (143, 1), (146, 1), (148, 1), (152, 0), (154, 0), (159, 1), (161, 1)]
theorem sz {t : TypeId} {x : Nat} (h : lkL szL t = some x) : szOf Try.prog t = some x := look (f := szOf Try.prog) szL ⟨z1, z2, z3, z4, z5, z6, z7, z8, z9, z10, z11, z12, z13, z14, z15, z16, z17, z18, z19, z20, z21, z22, z23, z24, z25, z26, z27, z28, z29, z31, z32, z33, z34, z35, z36, z37, z38, z39, z40, z42, z43, z44, z46, z48, z51, z52, z53, z55, z56, z57, z59, z60, z62, z63, z64, z65, z66, z67, z68, z69, z74, z77, z79, z80, z81, z82, z83, z84, z86, z87, z89, z90, z91, z94, z96, z99, z103, z106, z109, z111, z112, z114, z119, z120, z121, z122, z126, z129, z130, z132, z134, z135, z137, z138, z141, z142, z143, z146, z148, z152, z154, z159, z161, trivial⟩ h
def zrL : List (Nat × Value) := [(1, .nilFunc), (2, .int .i64 (0)), (3, .int .i64 (0)), (4, .bool false), (5, .int .u8 (0)), (6, .int .u8 (0)), (7, .agg [.int .i64 (0), .int .i64 (0), .bool false, .int .u8 (0)].toArray), (8, .agg [.int .i64 (0), .int .i64 (0), .bool false, .int .u8 (0)].toArray), (9, .string ⟨#[]⟩), (10, .string ⟨#[]⟩), (11, .string ⟨#[]⟩), (12, .int .u64 (0)), (13, .agg [.string ⟨#[]⟩, .int .u64 (0)].toArray), (14, .agg [.string ⟨#[]⟩, .int .u64 (0)].toArray), (15, .pointer none), (16, .pointer none), (17, .pointer none), (18, .agg [.pointer none].toArray), (19, .agg [.pointer none].toArray), (20, .nilIface), (21, .int .i32 (0)), (22, .slice none 0 0), (23, .slice none 0 0), (24, .agg [.slice none 0 0, .slice none 0 0].toArray), (25, .agg [.slice none 0 0, .slice none 0 0].toArray), (26, .nilFunc), (27, .nilFunc), (28, .slice none 0 0), (29, .int .i64 (0)), (31, .nilFunc), (32, .nilFunc), (33, .slice none 0 0), (34, .nilFunc), (35, .agg [.string ⟨#[]⟩, .int .i64 (0), .bool false].toArray), (36, .agg [.string ⟨#[]⟩, .int .i64 (0), .bool false].toArray), (37, .nilFunc), (38, .nilFunc), (39, .nilFunc), (40, .nilFunc), (42, .nilFunc), (43, .nilFunc), (44, .int .u32 (0)), (46, .agg [.int .u32 (0), .string ⟨#[]⟩, .slice none 0 0, .int .u32 (0)].toArray), (48, .nilFunc), (51, .slice none 0 0), (52, .agg [.int .u32 (0), .int .u32 (0), .string ⟨#[]⟩, .slice none 0 0, .bool false, .int .u32 (0)].toArray), (53, .agg [.int .u32 (0), .int .u32 (0), .string ⟨#[]⟩, .slice none 0 0, .bool false, .int .u32 (0)].toArray), (55, .nilFunc), (56, .nilFunc), (57, .nilFunc), (59, .nilFunc), (60, .slice none 0 0), (62, .nilFunc), (63, .agg [.int .i64 (0), .string ⟨#[]⟩, .string ⟨#[]⟩, .slice none 0 0, .slice none 0 0, .bool false, .int .u32 (0)].toArray), (64, .agg [.int .i64 (0), .string ⟨#[]⟩, .string ⟨#[]⟩, .slice none 0 0, .slice none 0 0, .bool false, .int .u32 (0)].toArray), (65, .slice none 0 0), (66, .nilFunc), (67, .map none), (68, .nilFunc), (69, .nilFunc), (74, .nilFunc), (77, .nilFunc), (79, .nilFunc), (80, .nilFunc), (81, .nilFunc), (82, .slice none 0 0), (83, .nilFunc), (84, .nilFunc), (86, .nilFunc), (87, .nilFunc), (89, .agg [.int .i64 (0), .int .i64 (0), .string ⟨#[]⟩].toArray), (90, .nilFunc), (91, .nilFunc), (94, .nilFunc), (96, .pointer none), (99, .nilFunc), (103, .nilFunc), (106, .nilFunc), (109, .nilFunc), (111, .nilFunc), (112, .nilFunc), (114, .nilFunc), (119, .nilFunc), (120, .int .u64 (0)), (121, .nilFunc), (122, .nilFunc), (126, .int .i64 (0)), (129, .nilFunc), (130, .nilFunc), (132, .nilFunc), (134, .nilFunc), (135, .int .u64 (0)), (137, .nilFunc), (138, .int .u64 (0)), (141, .nilFunc), (142, .pointer none), (143, .nilFunc), (146, .pointer none), (148, .nilFunc), (152, .agg [].toArray), (154, .agg [].toArray), (159, .pointer none), (161, .int .i32 (0))]
theorem zr {t : TypeId} {x : Value} (h : lkL zrL t = some x) : zrOf Try.prog t = some x := look (f := zrOf Try.prog) zrL ⟨zr1, zr2, zr3, zr4, zr5, zr6, zr7, zr8, zr9, zr10, zr11, zr12, zr13, zr14, zr15, zr16, zr17, zr18, zr19, zr20, zr21, zr22, zr23, zr24, zr25, zr26, zr27, zr28, zr29, zr31, zr32, zr33, zr34, zr35, zr36, zr37, zr38, zr39, zr40, zr42, zr43, zr44, zr46, zr48, zr51, zr52, zr53, zr55, zr56, zr57, zr59, zr60, zr62, zr63, zr64, zr65, zr66, zr67, zr68, zr69, zr74, zr77, zr79, zr80, zr81, zr82, zr83, zr84, zr86, zr87, zr89, zr90, zr91, zr94, zr96, zr99, zr103, zr106, zr109, zr111, zr112, zr114, zr119, zr120, zr121, zr122, zr126, zr129, zr130, zr132, zr134, zr135, zr137, zr138, zr141, zr142, zr143, zr146, zr148, zr152, zr154, zr159, zr161, trivial⟩ h
def bytL : List (Nat × Nat) := [(1, 8), (2, 8), (3, 8), (4, 1), (5, 1), (6, 1), (7, 24), (8, 24), (9, 16), (10, 16), (11, 16), (12, 8), (13, 24), (14, 24), (15, 8), (16, 8), (17, 8), (18, 8), (19, 8), (20, 16), (21, 4), (22, 24), (23, 24), (24, 48), (25, 48), (26, 8), (27, 8), (28, 24), (29, 8), (31, 8), (32, 8), (33, 24), (34, 8), (35, 32), (36, 32), (37, 8), (38, 8), (39, 8), (40, 8), (42, 8), (43, 8), (44, 4), (46, 56), (48, 8), (51, 24), (52, 56), (53, 56), (55, 8), (56, 8), (57, 8), (59, 8), (60, 24), (62, 8), (63, 96), (64, 96), (65, 24), (66, 8), (67, 8), (68, 8), (69, 8), (74, 8), (77, 8), (79, 8), (80, 8), (81, 8), (82, 24), (83, 8), (84, 8), (86, 8), (87, 8), (89, 32), (90, 8), (91, 8), (94, 8), (96, 8), (99, 8), (103, 8), (106, 8), (109, 8), (111, 8), (112, 8), (114, 8), (119, 8), (120, 8), (121, 8), (122, 8), (126, 8), (129, 8), (130, 8), (132, 8), (134, 8), (135, 8), (137, 8), (138, 8), (141, 8), (142, 8), (143, 8), (146, 8), (148, 8), (152, 0), (154, 0), (159, 8), (161, 4)]
theorem byt {t : TypeId} {x : Nat} (h : lkL bytL t = some x) : byOf Try.prog t = some x := look (f := byOf Try.prog) bytL ⟨by1, by2, by3, by4, by5, by6, by7, by8, by9, by10, by11, by12, by13, by14, by15, by16, by17, by18, by19, by20, by21, by22, by23, by24, by25, by26, by27, by28, by29, by31, by32, by33, by34, by35, by36, by37, by38, by39, by40, by42, by43, by44, by46, by48, by51, by52, by53, by55, by56, by57, by59, by60, by62, by63, by64, by65, by66, by67, by68, by69, by74, by77, by79, by80, by81, by82, by83, by84, by86, by87, by89, by90, by91, by94, by96, by99, by103, by106, by109, by111, by112, by114, by119, by120, by121, by122, by126, by129, by130, by132, by134, by135, by137, by138, by141, by142, by143, by146, by148, by152, by154, by159, by161, trivial⟩ h
def lkP {α : Type} : List (Nat × Nat × α) → Nat → Nat → Option α
  | [], _, _ => none
  | (k, j, v) :: E, t, i => match Nat.beq k t && Nat.beq j i with
    | true => some v
    | false => lkP E t i
def allP {α : Type} (f : Nat → Nat → Option α) : List (Nat × Nat × α) → Prop
  | [] => True
  | p :: l => f p.1 p.2.1 = some p.2.2 ∧ allP f l
theorem lookP {α : Type} {f : Nat → Nat → Option α} : ∀ (l : List (Nat × Nat × α)), allP f l → ∀ {t i : Nat} {x : α}, lkP l t i = some x → f t i = some x
  | [], _, _, _, _, h => (Option.some_ne_none _ h.symm).elim
  | (k, j, v) :: E, hA, t, i, x, h => by
    unfold lkP at h
    cases hb : Nat.beq k t && Nat.beq j i with
    | true =>
      rw [hb] at h
      simp only [Bool.and_eq_true] at hb
      obtain rfl := Nat.eq_of_beq_eq_true hb.1
      obtain rfl := Nat.eq_of_beq_eq_true hb.2
      cases h
      exact hA.1
    | false =>
      rw [hb] at h
      exact lookP E hA.2 h
def foL : List (Nat × Nat × (Nat × Nat × Nat)) := [(25, 0, (0, 22, 1)), (25, 1, (1, 23, 1)), (36, 0, (0, 9, 1)), (36, 1, (1, 3, 1)), (36, 2, (2, 4, 1)), (46, 0, (0, 44, 1)), (46, 1, (1, 9, 1)), (46, 2, (2, 33, 1)), (46, 3, (3, 44, 1)), (53, 0, (0, 44, 1)), (53, 1, (1, 44, 1)), (53, 2, (2, 9, 1)), (53, 3, (3, 51, 1)), (53, 4, (4, 4, 1)), (53, 5, (5, 44, 1)), (64, 0, (0, 3, 1)), (64, 1, (1, 9, 1)), (64, 2, (2, 9, 1)), (64, 3, (3, 33, 1)), (64, 4, (4, 51, 1)), (64, 5, (5, 4, 1)), (64, 6, (6, 44, 1)), (89, 0, (0, 3, 1)), (89, 1, (1, 2, 1)), (89, 2, (2, 9, 1))]
theorem fo {t : TypeId} {i : Nat} {x : Nat × Nat × Nat} (h : lkP foL t i = some x) : fldOff Try.prog t i = some x := lookP (f := fldOff Try.prog) foL ⟨fo25_0, fo25_1, fo36_0, fo36_1, fo36_2, fo46_0, fo46_1, fo46_2, fo46_3, fo53_0, fo53_1, fo53_2, fo53_3, fo53_4, fo53_5, fo64_0, fo64_1, fo64_2, fo64_3, fo64_4, fo64_5, fo64_6, fo89_0, fo89_1, fo89_2, trivial⟩ h
def lkC : List Nat → Nat → Bool
  | [], _ => false
  | k :: E, t => match Nat.beq k t with
    | true => true
    | false => lkC E t
def allC (Q : Nat → Prop) : List Nat → Prop
  | [] => True
  | p :: l => Q p ∧ allC Q l
theorem lookC {Q : Nat → Prop} : ∀ (l : List Nat), allC Q l → ∀ {t : Nat}, lkC l t = true → Q t
  | [], _, _, h => (Bool.false_ne_true h).elim
  | k :: E, hA, t, h => by
    unfold lkC at h
    cases hb : Nat.beq k t with
    | true => obtain rfl := Nat.eq_of_beq_eq_true hb; exact hA.1
    | false => rw [hb] at h; exact lookC E hA.2 h
def calL : List Nat := [3, 4, 5, 6, 7, 8, 9, 10, 11, 12, 13, 14, 15, 16, 17, 18, 19, 20, 21, 22, 23, 24, 25, 26, 27, 28, 29, 30, 31, 32, 33, 34, 35, 36, 37, 38, 39, 40, 41, 42, 43, 44, 45, 46, 47, 48, 49, 50, 51, 52, 53, 54, 55, 56, 57, 58, 59, 60, 61, 62, 63, 64, 65, 66, 67, 68, 69, 70, 71, 72, 73, 74, 75, 76, 77, 78, 79, 80, 81, 82, 83, 84, 85, 86, 87, 88, 89, 90, 91, 92, 93, 94, 95, 96, 97, 98, 99, 100, 101, 102, 103, 104, 105, 106, 107, 108, 109, 110, 111, 112, 113, 114, 115, 116]
theorem cal {t : Nat} (h : lkC calL t = true) : Callable Try.prog t := lookC (Q := Callable Try.prog) calL ⟨cal3, cal4, cal5, cal6, cal7, cal8, cal9, cal10, cal11, cal12, cal13, cal14, cal15, cal16, cal17, cal18, cal19, cal20, cal21, cal22, cal23, cal24, cal25, cal26, cal27, cal28, cal29, cal30, cal31, cal32, cal33, cal34, cal35, cal36, cal37, cal38, cal39, cal40, cal41, cal42, cal43, cal44, cal45, cal46, cal47, cal48, cal49, cal50, cal51, cal52, cal53, cal54, cal55, cal56, cal57, cal58, cal59, cal60, cal61, cal62, cal63, cal64, cal65, cal66, cal67, cal68, cal69, cal70, cal71, cal72, cal73, cal74, cal75, cal76, cal77, cal78, cal79, cal80, cal81, cal82, cal83, cal84, cal85, cal86, cal87, cal88, cal89, cal90, cal91, cal92, cal93, cal94, cal95, cal96, cal97, cal98, cal99, cal100, cal101, cal102, cal103, cal104, cal105, cal106, cal107, cal108, cal109, cal110, cal111, cal112, cal113, cal114, cal115, cal116, trivial⟩ h
def plL : List (Nat × List (Nat × Nat)) := [(25, [(0, 1), (1, 1)]), (36, [(0, 1), (1, 1), (2, 1)]), (46, [(0, 1), (1, 1), (2, 1), (3, 1)]), (53, [(0, 1), (1, 1), (2, 1), (3, 1), (4, 1), (5, 1)]), (89, [(0, 1), (1, 1), (2, 1)])]
theorem pl {t : TypeId} {x : List (Nat × Nat)} (h : lkL plL t = some x) : placesOf Try.prog t = some x := look (f := placesOf Try.prog) plL ⟨pl25, pl36, pl46, pl53, pl89, trivial⟩ h
theorem mixed : Try.prog.follows .mixedOrders = true := by kernel_rfl
end Go.Proofs.Ytdjacjhojbkgjaa.Fx
