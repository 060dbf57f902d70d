/-
  Closed facts on the types and the functions of this seat. Written by program (facts.py). Conditions: none.
-/
import Derived.Test.YtmkhejdamjibgaaKY
import Derived.Test.YtmkhejdamjibgaaProg
import Derived.KernelRfl
namespace Go.Proofs.Ytmkhejdamjibgaa.Fx
open Go Go.K Go.Proofs
set_option linter.unusedVariables false
/-- a table, looked up -/
def lkL {α : Type} : List (Nat × α) → Nat → Option α
  | [], _ => none
  | (k, v) :: E, t => match Nat.beq k t with
    | true => some v
    | false => lkL E t
def allL {α : Type} (f : Nat → Option α) : List (Nat × α) → Prop
  | [] => True
  | p :: l => f p.1 = some p.2 ∧ allL f l
theorem look {α : Type} {f : Nat → Option α} : ∀ (l : List (Nat × α)), allL f l → ∀ {t : Nat} {x : α}, lkL l t = some x → f t = some x
  | [], _, _, _, h => (Option.some_ne_none _ h.symm).elim
  | (k, v) :: E, hA, t, x, h => by
    unfold lkL at h
    split at h
    · rename_i hb
      rw [← Nat.eq_of_beq_eq_true hb, ← h]
      exact hA.1
    · exact look E hA.2 h
theorem g1 : aggOf Try.prog 1 = some false := by kernel_rfl
theorem z1 : szOf Try.prog 1 = some 1 := by kernel_rfl
theorem by1 : byOf Try.prog 1 = some 8 := by kernel_rfl
theorem zr1 : zrOf Try.prog 1 = some (.nilFunc) := by kernel_rfl
theorem g2 : aggOf Try.prog 2 = some false := by kernel_rfl
theorem z2 : szOf Try.prog 2 = some 1 := by kernel_rfl
theorem by2 : byOf Try.prog 2 = some 8 := by kernel_rfl
theorem zr2 : zrOf Try.prog 2 = some (.int .i64 (0)) := by kernel_rfl
theorem g3 : aggOf Try.prog 3 = some false := by kernel_rfl
theorem z3 : szOf Try.prog 3 = some 1 := by kernel_rfl
theorem by3 : byOf Try.prog 3 = some 8 := by kernel_rfl
theorem zr3 : zrOf Try.prog 3 = some (.int .i64 (0)) := by kernel_rfl
theorem g4 : aggOf Try.prog 4 = some false := by kernel_rfl
theorem z4 : szOf Try.prog 4 = some 1 := by kernel_rfl
theorem by4 : byOf Try.prog 4 = some 1 := by kernel_rfl
theorem zr4 : zrOf Try.prog 4 = some (.bool false) := by kernel_rfl
theorem g5 : aggOf Try.prog 5 = some false := by kernel_rfl
theorem z5 : szOf Try.prog 5 = some 1 := by kernel_rfl
theorem by5 : byOf Try.prog 5 = some 1 := by kernel_rfl
theorem zr5 : zrOf Try.prog 5 = some (.int .u8 (0)) := by kernel_rfl
theorem g6 : aggOf Try.prog 6 = some false := by kernel_rfl
theorem z6 : szOf Try.prog 6 = some 1 := by kernel_rfl
theorem by6 : byOf Try.prog 6 = some 1 := by kernel_rfl
theorem zr6 : zrOf Try.prog 6 = some (.int .u8 (0)) := by kernel_rfl
theorem g7 : aggOf Try.prog 7 = some true := by kernel_rfl
theorem z7 : szOf Try.prog 7 = some 4 := by kernel_rfl
theorem by7 : byOf Try.prog 7 = some 24 := by kernel_rfl
theorem zr7 : zrOf Try.prog 7 = some (.agg [.int .i64 (0), .int .i64 (0), .bool false, .int .u8 (0)].toArray) := by kernel_rfl
theorem g8 : aggOf Try.prog 8 = some true := by kernel_rfl
theorem z8 : szOf Try.prog 8 = some 4 := by kernel_rfl
theorem by8 : byOf Try.prog 8 = some 24 := by kernel_rfl
theorem zr8 : zrOf Try.prog 8 = some (.agg [.int .i64 (0), .int .i64 (0), .bool false, .int .u8 (0)].toArray) := by kernel_rfl
theorem g9 : aggOf Try.prog 9 = some false := by kernel_rfl
theorem z9 : szOf Try.prog 9 = some 1 := by kernel_rfl
theorem by9 : byOf Try.prog 9 = some 16 := by kernel_rfl
theorem zr9 : zrOf Try.prog 9 = some (.string ⟨#[]⟩) := by kernel_rfl
theorem g10 : aggOf Try.prog 10 = some false := by kernel_rfl
theorem z10 : szOf Try.prog 10 = some 1 := by kernel_rfl
theorem by10 : byOf Try.prog 10 = some 16 := by kernel_rfl
theorem zr10 : zrOf Try.prog 10 = some (.string ⟨#[]⟩) := by kernel_rfl
theorem g11 : aggOf Try.prog 11 = some false := by kernel_rfl
theorem z11 : szOf Try.prog 11 = some 1 := by kernel_rfl
theorem by11 : byOf Try.prog 11 = some 16 := by kernel_rfl
theorem zr11 : zrOf Try.prog 11 = some (.string ⟨#[]⟩) := by kernel_rfl
theorem g12 : aggOf Try.prog 12 = some false := by kernel_rfl
theorem z12 : szOf Try.prog 12 = some 1 := by kernel_rfl
theorem by12 : byOf Try.prog 12 = some 8 := by kernel_rfl
theorem zr12 : zrOf Try.prog 12 = some (.int .u64 (0)) := by kernel_rfl
theorem g13 : aggOf Try.prog 13 = some true := by kernel_rfl
theorem z13 : szOf Try.prog 13 = some 2 := by kernel_rfl
theorem by13 : byOf Try.prog 13 = some 24 := by kernel_rfl
theorem zr13 : zrOf Try.prog 13 = some (.agg [.string ⟨#[]⟩, .int .u64 (0)].toArray) := by kernel_rfl
theorem g14 : aggOf Try.prog 14 = some true := by kernel_rfl
theorem z14 : szOf Try.prog 14 = some 2 := by kernel_rfl
theorem by14 : byOf Try.prog 14 = some 24 := by kernel_rfl
theorem zr14 : zrOf Try.prog 14 = some (.agg [.string ⟨#[]⟩, .int .u64 (0)].toArray) := by kernel_rfl
theorem g15 : aggOf Try.prog 15 = some false := by kernel_rfl
theorem z15 : szOf Try.prog 15 = some 1 := by kernel_rfl
theorem by15 : byOf Try.prog 15 = some 8 := by kernel_rfl
theorem zr15 : zrOf Try.prog 15 = some (.pointer none) := by kernel_rfl
theorem g16 : aggOf Try.prog 16 = some false := by kernel_rfl
theorem z16 : szOf Try.prog 16 = some 1 := by kernel_rfl
theorem by16 : byOf Try.prog 16 = some 8 := by kernel_rfl
theorem zr16 : zrOf Try.prog 16 = some (.pointer none) := by kernel_rfl
theorem g17 : aggOf Try.prog 17 = some false := by kernel_rfl
theorem z17 : szOf Try.prog 17 = some 1 := by kernel_rfl
theorem by17 : byOf Try.prog 17 = some 8 := by kernel_rfl
theorem zr17 : zrOf Try.prog 17 = some (.pointer none) := by kernel_rfl
theorem g18 : aggOf Try.prog 18 = some true := by kernel_rfl
theorem z18 : szOf Try.prog 18 = some 1 := by kernel_rfl
theorem by18 : byOf Try.prog 18 = some 8 := by kernel_rfl
theorem zr18 : zrOf Try.prog 18 = some (.agg [.pointer none].toArray) := by kernel_rfl
theorem g19 : aggOf Try.prog 19 = some true := by kernel_rfl
theorem z19 : szOf Try.prog 19 = some 1 := by kernel_rfl
theorem by19 : byOf Try.prog 19 = some 8 := by kernel_rfl
theorem zr19 : zrOf Try.prog 19 = some (.agg [.pointer none].toArray) := by kernel_rfl
theorem g20 : aggOf Try.prog 20 = some false := by kernel_rfl
theorem z20 : szOf Try.prog 20 = some 1 := by kernel_rfl
theorem by20 : byOf Try.prog 20 = some 16 := by kernel_rfl
theorem zr20 : zrOf Try.prog 20 = some (.nilIface) := by kernel_rfl
theorem g21 : aggOf Try.prog 21 = some false := by kernel_rfl
theorem z21 : szOf Try.prog 21 = some 1 := by kernel_rfl
theorem by21 : byOf Try.prog 21 = some 4 := by kernel_rfl
theorem zr21 : zrOf Try.prog 21 = some (.int .i32 (0)) := by kernel_rfl
theorem g22 : aggOf Try.prog 22 = some true := by kernel_rfl
theorem z22 : szOf Try.prog 22 = some 3 := by kernel_rfl
theorem by22 : byOf Try.prog 22 = some 32 := by kernel_rfl
theorem zr22 : zrOf Try.prog 22 = some (.agg [.int .i64 (0), .int .i64 (0), .string ⟨#[]⟩].toArray) := by kernel_rfl
theorem g23 : aggOf Try.prog 23 = some true := by kernel_rfl
theorem z23 : szOf Try.prog 23 = some 3 := by kernel_rfl
theorem by23 : byOf Try.prog 23 = some 32 := by kernel_rfl
theorem zr23 : zrOf Try.prog 23 = some (.agg [.int .i64 (0), .int .i64 (0), .string ⟨#[]⟩].toArray) := by kernel_rfl
theorem g24 : aggOf Try.prog 24 = some false := by kernel_rfl
theorem z24 : szOf Try.prog 24 = some 1 := by kernel_rfl
theorem by24 : byOf Try.prog 24 = some 24 := by kernel_rfl
theorem zr24 : zrOf Try.prog 24 = some (.slice none 0 0) := by kernel_rfl
theorem g25 : aggOf Try.prog 25 = some true := by kernel_rfl
theorem z25 : szOf Try.prog 25 = some 8 := by kernel_rfl
theorem by25 : byOf Try.prog 25 = some 104 := by kernel_rfl
theorem zr25 : zrOf Try.prog 25 = some (.agg [.int .i64 (0), .int .i64 (0), .int .i64 (0), .string ⟨#[]⟩, .string ⟨#[]⟩, .string ⟨#[]⟩, .int .i64 (0), .slice none 0 0].toArray) := by kernel_rfl
theorem g26 : aggOf Try.prog 26 = some true := by kernel_rfl
theorem z26 : szOf Try.prog 26 = some 8 := by kernel_rfl
theorem by26 : byOf Try.prog 26 = some 104 := by kernel_rfl
theorem zr26 : zrOf Try.prog 26 = some (.agg [.int .i64 (0), .int .i64 (0), .int .i64 (0), .string ⟨#[]⟩, .string ⟨#[]⟩, .string ⟨#[]⟩, .int .i64 (0), .slice none 0 0].toArray) := by kernel_rfl
theorem g27 : aggOf Try.prog 27 = some false := by kernel_rfl
theorem z27 : szOf Try.prog 27 = some 1 := by kernel_rfl
theorem by27 : byOf Try.prog 27 = some 24 := by kernel_rfl
theorem zr27 : zrOf Try.prog 27 = some (.slice none 0 0) := by kernel_rfl
theorem g28 : aggOf Try.prog 28 = some false := by kernel_rfl
theorem z28 : szOf Try.prog 28 = some 1 := by kernel_rfl
theorem by28 : byOf Try.prog 28 = some 8 := by kernel_rfl
theorem zr28 : zrOf Try.prog 28 = some (.nilFunc) := by kernel_rfl
theorem g29 : aggOf Try.prog 29 = some false := by kernel_rfl
theorem z29 : szOf Try.prog 29 = some 1 := by kernel_rfl
theorem by29 : byOf Try.prog 29 = some 8 := by kernel_rfl
theorem zr29 : zrOf Try.prog 29 = some (.nilFunc) := by kernel_rfl
theorem g30 : aggOf Try.prog 30 = some false := by kernel_rfl
theorem z30 : szOf Try.prog 30 = some 1 := by kernel_rfl
theorem by30 : byOf Try.prog 30 = some 8 := by kernel_rfl
theorem zr30 : zrOf Try.prog 30 = some (.nilFunc) := by kernel_rfl
theorem g31 : aggOf Try.prog 31 = some false := by kernel_rfl
theorem z31 : szOf Try.prog 31 = some 1 := by kernel_rfl
theorem by31 : byOf Try.prog 31 = some 8 := by kernel_rfl
theorem zr31 : zrOf Try.prog 31 = some (.nilFunc) := by kernel_rfl
theorem g32 : aggOf Try.prog 32 = some false := by kernel_rfl
theorem z32 : szOf Try.prog 32 = some 1 := by kernel_rfl
theorem by32 : byOf Try.prog 32 = some 24 := by kernel_rfl
theorem zr32 : zrOf Try.prog 32 = some (.slice none 0 0) := by kernel_rfl
theorem g33 : aggOf Try.prog 33 = some false := by kernel_rfl
theorem z33 : szOf Try.prog 33 = some 1 := by kernel_rfl
theorem by33 : byOf Try.prog 33 = some 8 := by kernel_rfl
theorem zr33 : zrOf Try.prog 33 = some (.int .i64 (0)) := by kernel_rfl
theorem g35 : aggOf Try.prog 35 = some false := by kernel_rfl
theorem z35 : szOf Try.prog 35 = some 1 := by kernel_rfl
theorem by35 : byOf Try.prog 35 = some 8 := by kernel_rfl
theorem zr35 : zrOf Try.prog 35 = some (.nilFunc) := by kernel_rfl
theorem g36 : aggOf Try.prog 36 = some false := by kernel_rfl
theorem z36 : szOf Try.prog 36 = some 1 := by kernel_rfl
theorem by36 : byOf Try.prog 36 = some 8 := by kernel_rfl
theorem zr36 : zrOf Try.prog 36 = some (.nilFunc) := by kernel_rfl
theorem g38 : aggOf Try.prog 38 = some false := by kernel_rfl
theorem z38 : szOf Try.prog 38 = some 1 := by kernel_rfl
theorem by38 : byOf Try.prog 38 = some 8 := by kernel_rfl
theorem zr38 : zrOf Try.prog 38 = some (.nilFunc) := by kernel_rfl
theorem g39 : aggOf Try.prog 39 = some false := by kernel_rfl
theorem z39 : szOf Try.prog 39 = some 1 := by kernel_rfl
theorem by39 : byOf Try.prog 39 = some 8 := by kernel_rfl
theorem zr39 : zrOf Try.prog 39 = some (.nilFunc) := by kernel_rfl
theorem g40 : aggOf Try.prog 40 = some false := by kernel_rfl
theorem z40 : szOf Try.prog 40 = some 1 := by kernel_rfl
theorem by40 : byOf Try.prog 40 = some 8 := by kernel_rfl
theorem zr40 : zrOf Try.prog 40 = some (.nilFunc) := by kernel_rfl
theorem g41 : aggOf Try.prog 41 = some false := by kernel_rfl
theorem z41 : szOf Try.prog 41 = some 1 := by kernel_rfl
theorem by41 : byOf Try.prog 41 = some 8 := by kernel_rfl
theorem zr41 : zrOf Try.prog 41 = some (.nilFunc) := by kernel_rfl
theorem g42 : aggOf Try.prog 42 = some false := by kernel_rfl
theorem z42 : szOf Try.prog 42 = some 1 := by kernel_rfl
theorem by42 : byOf Try.prog 42 = some 8 := by kernel_rfl
theorem zr42 : zrOf Try.prog 42 = some (.nilFunc) := by kernel_rfl
theorem g43 : aggOf Try.prog 43 = some false := by kernel_rfl
theorem z43 : szOf Try.prog 43 = some 1 := by kernel_rfl
theorem by43 : byOf Try.prog 43 = some 8 := by kernel_rfl
theorem zr43 : zrOf Try.prog 43 = some (.nilFunc) := by kernel_rfl
theorem g44 : aggOf Try.prog 44 = some false := by kernel_rfl
theorem z44 : szOf Try.prog 44 = some 1 := by kernel_rfl
theorem by44 : byOf Try.prog 44 = some 8 := by kernel_rfl
theorem zr44 : zrOf Try.prog 44 = some (.nilFunc) := by kernel_rfl
theorem g45 : aggOf Try.prog 45 = some false := by kernel_rfl
theorem z45 : szOf Try.prog 45 = some 1 := by kernel_rfl
theorem by45 : byOf Try.prog 45 = some 8 := by kernel_rfl
theorem zr45 : zrOf Try.prog 45 = some (.nilFunc) := by kernel_rfl
theorem g48 : aggOf Try.prog 48 = some false := by kernel_rfl
theorem z48 : szOf Try.prog 48 = some 1 := by kernel_rfl
theorem by48 : byOf Try.prog 48 = some 8 := by kernel_rfl
theorem zr48 : zrOf Try.prog 48 = some (.nilFunc) := by kernel_rfl
theorem g50 : aggOf Try.prog 50 = some false := by kernel_rfl
theorem z50 : szOf Try.prog 50 = some 1 := by kernel_rfl
theorem by50 : byOf Try.prog 50 = some 8 := by kernel_rfl
theorem zr50 : zrOf Try.prog 50 = some (.nilFunc) := by kernel_rfl
theorem g55 : aggOf Try.prog 55 = some false := by kernel_rfl
theorem z55 : szOf Try.prog 55 = some 1 := by kernel_rfl
theorem by55 : byOf Try.prog 55 = some 8 := by kernel_rfl
theorem zr55 : zrOf Try.prog 55 = some (.nilFunc) := by kernel_rfl
theorem g56 : aggOf Try.prog 56 = some false := by kernel_rfl
theorem z56 : szOf Try.prog 56 = some 1 := by kernel_rfl
theorem by56 : byOf Try.prog 56 = some 8 := by kernel_rfl
theorem zr56 : zrOf Try.prog 56 = some (.int .u64 (0)) := by kernel_rfl
theorem g57 : aggOf Try.prog 57 = some false := by kernel_rfl
theorem z57 : szOf Try.prog 57 = some 1 := by kernel_rfl
theorem by57 : byOf Try.prog 57 = some 8 := by kernel_rfl
theorem zr57 : zrOf Try.prog 57 = some (.nilFunc) := by kernel_rfl
theorem g60 : aggOf Try.prog 60 = some true := by kernel_rfl
theorem z60 : szOf Try.prog 60 = some 6 := by kernel_rfl
theorem by60 : byOf Try.prog 60 = some 64 := by kernel_rfl
theorem zr60 : zrOf Try.prog 60 = some (.agg [.int .i64 (0), .int .i64 (0), .string ⟨#[]⟩, .int .i64 (0), .int .i64 (0), .string ⟨#[]⟩].toArray) := by kernel_rfl
theorem g61 : aggOf Try.prog 61 = some false := by kernel_rfl
theorem z61 : szOf Try.prog 61 = some 1 := by kernel_rfl
theorem by61 : byOf Try.prog 61 = some 8 := by kernel_rfl
theorem zr61 : zrOf Try.prog 61 = some (.nilFunc) := by kernel_rfl
theorem g62 : aggOf Try.prog 62 = some false := by kernel_rfl
theorem z62 : szOf Try.prog 62 = some 1 := by kernel_rfl
theorem by62 : byOf Try.prog 62 = some 8 := by kernel_rfl
theorem zr62 : zrOf Try.prog 62 = some (.nilFunc) := by kernel_rfl
theorem g63 : aggOf Try.prog 63 = some true := by kernel_rfl
theorem z63 : szOf Try.prog 63 = some 14 := by kernel_rfl
theorem by63 : byOf Try.prog 63 = some 112 := by kernel_rfl
theorem zr63 : zrOf Try.prog 63 = some (.agg [.nilFunc, .nilFunc, .nilFunc, .nilFunc, .nilFunc, .nilFunc, .nilFunc, .nilFunc, .nilFunc, .nilFunc, .nilFunc, .nilFunc, .nilFunc, .nilFunc].toArray) := by kernel_rfl
theorem g65 : aggOf Try.prog 65 = some false := by kernel_rfl
theorem z65 : szOf Try.prog 65 = some 1 := by kernel_rfl
theorem by65 : byOf Try.prog 65 = some 8 := by kernel_rfl
theorem zr65 : zrOf Try.prog 65 = some (.nilFunc) := by kernel_rfl
theorem g66 : aggOf Try.prog 66 = some false := by kernel_rfl
theorem z66 : szOf Try.prog 66 = some 1 := by kernel_rfl
theorem by66 : byOf Try.prog 66 = some 8 := by kernel_rfl
theorem zr66 : zrOf Try.prog 66 = some (.int .i64 (0)) := by kernel_rfl
theorem g68 : aggOf Try.prog 68 = some false := by kernel_rfl
theorem z68 : szOf Try.prog 68 = some 1 := by kernel_rfl
theorem by68 : byOf Try.prog 68 = some 8 := by kernel_rfl
theorem zr68 : zrOf Try.prog 68 = some (.nilFunc) := by kernel_rfl
theorem g74 : aggOf Try.prog 74 = some false := by kernel_rfl
theorem z74 : szOf Try.prog 74 = some 1 := by kernel_rfl
theorem by74 : byOf Try.prog 74 = some 4 := by kernel_rfl
theorem zr74 : zrOf Try.prog 74 = some (.int .u32 (0)) := by kernel_rfl
theorem g76 : aggOf Try.prog 76 = some false := by kernel_rfl
theorem z76 : szOf Try.prog 76 = some 1 := by kernel_rfl
theorem by76 : byOf Try.prog 76 = some 8 := by kernel_rfl
theorem zr76 : zrOf Try.prog 76 = some (.int .u64 (0)) := by kernel_rfl
theorem g77 : aggOf Try.prog 77 = some false := by kernel_rfl
theorem z77 : szOf Try.prog 77 = some 1 := by kernel_rfl
theorem by77 : byOf Try.prog 77 = some 8 := by kernel_rfl
theorem zr77 : zrOf Try.prog 77 = some (.nilFunc) := by kernel_rfl
theorem g78 : aggOf Try.prog 78 = some false := by kernel_rfl
theorem z78 : szOf Try.prog 78 = some 1 := by kernel_rfl
theorem by78 : byOf Try.prog 78 = some 8 := by kernel_rfl
theorem zr78 : zrOf Try.prog 78 = some (.nilFunc) := by kernel_rfl
theorem g79 : aggOf Try.prog 79 = some false := by kernel_rfl
theorem z79 : szOf Try.prog 79 = some 1 := by kernel_rfl
theorem by79 : byOf Try.prog 79 = some 8 := by kernel_rfl
theorem zr79 : zrOf Try.prog 79 = some (.nilFunc) := by kernel_rfl
theorem g81 : aggOf Try.prog 81 = some false := by kernel_rfl
theorem z81 : szOf Try.prog 81 = some 1 := by kernel_rfl
theorem by81 : byOf Try.prog 81 = some 8 := by kernel_rfl
theorem zr81 : zrOf Try.prog 81 = some (.int .u64 (0)) := by kernel_rfl
theorem g84 : aggOf Try.prog 84 = some false := by kernel_rfl
theorem z84 : szOf Try.prog 84 = some 1 := by kernel_rfl
theorem by84 : byOf Try.prog 84 = some 8 := by kernel_rfl
theorem zr84 : zrOf Try.prog 84 = some (.nilFunc) := by kernel_rfl
theorem g85 : aggOf Try.prog 85 = some false := by kernel_rfl
theorem z85 : szOf Try.prog 85 = some 1 := by kernel_rfl
theorem by85 : byOf Try.prog 85 = some 8 := by kernel_rfl
theorem zr85 : zrOf Try.prog 85 = some (.pointer none) := by kernel_rfl
theorem g87 : aggOf Try.prog 87 = some false := by kernel_rfl
theorem z87 : szOf Try.prog 87 = some 1 := by kernel_rfl
theorem by87 : byOf Try.prog 87 = some 8 := by kernel_rfl
theorem zr87 : zrOf Try.prog 87 = some (.nilFunc) := by kernel_rfl
theorem g89 : aggOf Try.prog 89 = some false := by kernel_rfl
theorem z89 : szOf Try.prog 89 = some 1 := by kernel_rfl
theorem by89 : byOf Try.prog 89 = some 8 := by kernel_rfl
theorem zr89 : zrOf Try.prog 89 = some (.nilFunc) := by kernel_rfl
theorem g90 : aggOf Try.prog 90 = some false := by kernel_rfl
theorem z90 : szOf Try.prog 90 = some 1 := by kernel_rfl
theorem by90 : byOf Try.prog 90 = some 8 := by kernel_rfl
theorem zr90 : zrOf Try.prog 90 = some (.pointer none) := by kernel_rfl
theorem g92 : aggOf Try.prog 92 = some false := by kernel_rfl
theorem z92 : szOf Try.prog 92 = some 1 := by kernel_rfl
theorem by92 : byOf Try.prog 92 = some 8 := by kernel_rfl
theorem zr92 : zrOf Try.prog 92 = some (.nilFunc) := by kernel_rfl
theorem g93 : aggOf Try.prog 93 = some false := by kernel_rfl
theorem z93 : szOf Try.prog 93 = some 1 := by kernel_rfl
theorem by93 : byOf Try.prog 93 = some 8 := by kernel_rfl
theorem zr93 : zrOf Try.prog 93 = some (.nilFunc) := by kernel_rfl
theorem g96 : aggOf Try.prog 96 = some true := by kernel_rfl
theorem z96 : szOf Try.prog 96 = some 4 := by kernel_rfl
theorem by96 : byOf Try.prog 96 = some 40 := by kernel_rfl
theorem zr96 : zrOf Try.prog 96 = some (.agg [.pointer none, .pointer none, .pointer none, .string ⟨#[]⟩].toArray) := by kernel_rfl
theorem g97 : aggOf Try.prog 97 = some true := by kernel_rfl
theorem z97 : szOf Try.prog 97 = some 4 := by kernel_rfl
theorem by97 : byOf Try.prog 97 = some 40 := by kernel_rfl
theorem zr97 : zrOf Try.prog 97 = some (.agg [.pointer none, .pointer none, .pointer none, .string ⟨#[]⟩].toArray) := by kernel_rfl
theorem g98 : aggOf Try.prog 98 = some true := by kernel_rfl
theorem z98 : szOf Try.prog 98 = some 0 := by kernel_rfl
theorem by98 : byOf Try.prog 98 = some 0 := by kernel_rfl
theorem zr98 : zrOf Try.prog 98 = some (.agg [].toArray) := by kernel_rfl
theorem g100 : aggOf Try.prog 100 = some true := by kernel_rfl
theorem z100 : szOf Try.prog 100 = some 0 := by kernel_rfl
theorem by100 : byOf Try.prog 100 = some 0 := by kernel_rfl
theorem zr100 : zrOf Try.prog 100 = some (.agg [].toArray) := by kernel_rfl
theorem g101 : aggOf Try.prog 101 = some false := by kernel_rfl
theorem z101 : szOf Try.prog 101 = some 1 := by kernel_rfl
theorem by101 : byOf Try.prog 101 = some 8 := by kernel_rfl
theorem zr101 : zrOf Try.prog 101 = some (.nilFunc) := by kernel_rfl
theorem g102 : aggOf Try.prog 102 = some false := by kernel_rfl
theorem z102 : szOf Try.prog 102 = some 1 := by kernel_rfl
theorem by102 : byOf Try.prog 102 = some 1 := by kernel_rfl
theorem zr102 : zrOf Try.prog 102 = some (.int .u8 (0)) := by kernel_rfl
theorem g103 : aggOf Try.prog 103 = some false := by kernel_rfl
theorem z103 : szOf Try.prog 103 = some 1 := by kernel_rfl
theorem by103 : byOf Try.prog 103 = some 1 := by kernel_rfl
theorem zr103 : zrOf Try.prog 103 = some (.int .u8 (0)) := by kernel_rfl
theorem g104 : aggOf Try.prog 104 = some false := by kernel_rfl
theorem z104 : szOf Try.prog 104 = some 1 := by kernel_rfl
theorem by104 : byOf Try.prog 104 = some 8 := by kernel_rfl
theorem zr104 : zrOf Try.prog 104 = some (.nilFunc) := by kernel_rfl
theorem g105 : aggOf Try.prog 105 = some false := by kernel_rfl
theorem z105 : szOf Try.prog 105 = some 1 := by kernel_rfl
theorem by105 : byOf Try.prog 105 = some 8 := by kernel_rfl
theorem zr105 : zrOf Try.prog 105 = some (.pointer none) := by kernel_rfl
theorem g106 : aggOf Try.prog 106 = some false := by kernel_rfl
theorem z106 : szOf Try.prog 106 = some 1 := by kernel_rfl
theorem by106 : byOf Try.prog 106 = some 4 := by kernel_rfl
theorem zr106 : zrOf Try.prog 106 = some (.int .i32 (0)) := by kernel_rfl
theorem g107 : aggOf Try.prog 107 = some false := by kernel_rfl
theorem z107 : szOf Try.prog 107 = some 1 := by kernel_rfl
theorem by107 : byOf Try.prog 107 = some 4 := by kernel_rfl
theorem zr107 : zrOf Try.prog 107 = some (.int .i32 (0)) := by kernel_rfl
theorem g108 : aggOf Try.prog 108 = some true := by kernel_rfl
theorem z108 : szOf Try.prog 108 = some 11 := by kernel_rfl
theorem by108 : byOf Try.prog 108 = some 48 := by kernel_rfl
theorem zr108 : zrOf Try.prog 108 = some (.agg [.int .u64 (0), .int .u64 (0), .int .u32 (0), .int .u8 (0), .int .u8 (0), .int .u8 (0), .int .u8 (0), .nilFunc, .pointer none, .int .i32 (0), .int .i32 (0)].toArray) := by kernel_rfl
theorem g109 : aggOf Try.prog 109 = some true := by kernel_rfl
theorem z109 : szOf Try.prog 109 = some 11 := by kernel_rfl
theorem by109 : byOf Try.prog 109 = some 48 := by kernel_rfl
theorem zr109 : zrOf Try.prog 109 = some (.agg [.int .u64 (0), .int .u64 (0), .int .u32 (0), .int .u8 (0), .int .u8 (0), .int .u8 (0), .int .u8 (0), .nilFunc, .pointer none, .int .i32 (0), .int .i32 (0)].toArray) := by kernel_rfl
theorem fo23_0 : fldOff Try.prog 23 0 = some (0, 3, 1) := by kernel_rfl
theorem fo23_1 : fldOff Try.prog 23 1 = some (1, 2, 1) := by kernel_rfl
theorem fo23_2 : fldOff Try.prog 23 2 = some (2, 9, 1) := by kernel_rfl
theorem fo26_0 : fldOff Try.prog 26 0 = some (0, 3, 1) := by kernel_rfl
theorem fo26_1 : fldOff Try.prog 26 1 = some (1, 23, 3) := by kernel_rfl
theorem fo26_4 : fldOff Try.prog 26 4 = some (6, 3, 1) := by kernel_rfl
theorem fo26_5 : fldOff Try.prog 26 5 = some (7, 24, 1) := by kernel_rfl
theorem pl23 : placesOf Try.prog 23 = some [(0, 1), (1, 1), (2, 1)] := by kernel_rfl
theorem pl26 : placesOf Try.prog 26 = some [(0, 1), (1, 3), (4, 1), (5, 1), (6, 1), (7, 1)] := by kernel_rfl
theorem cal3 : Callable Try.prog 3 := callable_of Try.func3 rfl (by kernel_rfl)
theorem cal4 : Callable Try.prog 4 := callable_of Try.func4 rfl (by kernel_rfl)
theorem cal5 : Callable Try.prog 5 := callable_of Try.func5 rfl (by kernel_rfl)
theorem cal6 : Callable Try.prog 6 := callable_of Try.func6 rfl (by kernel_rfl)
theorem cal7 : Callable Try.prog 7 := callable_of Try.func7 rfl (by kernel_rfl)
theorem cal8 : Callable Try.prog 8 := callable_of Try.func8 rfl (by kernel_rfl)
theorem cal9 : Callable Try.prog 9 := callable_of Try.func9 rfl (by kernel_rfl)
theorem cal10 : Callable Try.prog 10 := callable_of Try.func10 rfl (by kernel_rfl)
theorem cal11 : Callable Try.prog 11 := callable_of Try.func11 rfl (by kernel_rfl)
theorem cal12 : Callable Try.prog 12 := callable_of Try.func12 rfl (by kernel_rfl)
theorem cal13 : Callable Try.prog 13 := callable_of Try.func13 rfl (by kernel_rfl)
theorem cal14 : Callable Try.prog 14 := callable_of Try.func14 rfl (by kernel_rfl)
theorem cal15 : Callable Try.prog 15 := callable_of Try.func15 rfl (by kernel_rfl)
theorem cal16 : Callable Try.prog 16 := callable_of Try.func16 rfl (by kernel_rfl)
theorem cal17 : Callable Try.prog 17 := callable_of Try.func17 rfl (by kernel_rfl)
theorem cal18 : Callable Try.prog 18 := callable_of Try.func18 rfl (by kernel_rfl)
theorem cal19 : Callable Try.prog 19 := callable_of Try.func19 rfl (by kernel_rfl)
theorem cal20 : Callable Try.prog 20 := callable_of Try.func20 rfl (by kernel_rfl)
theorem cal21 : Callable Try.prog 21 := callable_of Try.func21 rfl (by kernel_rfl)
theorem cal22 : Callable Try.prog 22 := callable_of Try.func22 rfl (by kernel_rfl)
theorem cal23 : Callable Try.prog 23 := callable_of Try.func23 rfl (by kernel_rfl)
theorem cal24 : Callable Try.prog 24 := callable_of Try.func24 rfl (by kernel_rfl)
theorem cal25 : Callable Try.prog 25 := callable_of Try.func25 rfl (by kernel_rfl)
theorem cal26 : Callable Try.prog 26 := callable_of Try.func26 rfl (by kernel_rfl)
theorem cal27 : Callable Try.prog 27 := callable_of Try.func27 rfl (by kernel_rfl)
theorem cal28 : Callable Try.prog 28 := callable_of Try.func28 rfl (by kernel_rfl)
theorem cal29 : Callable Try.prog 29 := callable_of Try.func29 rfl (by kernel_rfl)
theorem cal30 : Callable Try.prog 30 := callable_of Try.func30 rfl (by kernel_rfl)
theorem cal31 : Callable Try.prog 31 := callable_of Try.func31 rfl (by kernel_rfl)
theorem cal32 : Callable Try.prog 32 := callable_of Try.func32 rfl (by kernel_rfl)
theorem cal33 : Callable Try.prog 33 := callable_of Try.func33 rfl (by kernel_rfl)
theorem cal34 : Callable Try.prog 34 := callable_of Try.func34 rfl (by kernel_rfl)
theorem cal35 : Callable Try.prog 35 := callable_of Try.func35 rfl (by kernel_rfl)
theorem cal36 : Callable Try.prog 36 := callable_of Try.func36 rfl (by kernel_rfl)
theorem cal37 : Callable Try.prog 37 := callable_of Try.func37 rfl (by kernel_rfl)
theorem cal38 : Callable Try.prog 38 := callable_of Try.func38 rfl (by kernel_rfl)
theorem cal39 : Callable Try.prog 39 := callable_of Try.func39 rfl (by kernel_rfl)
theorem cal40 : Callable Try.prog 40 := callable_of Try.func40 rfl (by kernel_rfl)
theorem cal41 : Callable Try.prog 41 := callable_of Try.func41 rfl (by kernel_rfl)
theorem cal42 : Callable Try.prog 42 := callable_of Try.func42 rfl (by kernel_rfl)
theorem cal43 : Callable Try.prog 43 := callable_of Try.func43 rfl (by kernel_rfl)
theorem cal44 : Callable Try.prog 44 := callable_of Try.func44 rfl (by kernel_rfl)
theorem cal45 : Callable Try.prog 45 := callable_of Try.func45 rfl (by kernel_rfl)
theorem cal46 : Callable Try.prog 46 := callable_of Try.func46 rfl (by kernel_rfl)
theorem cal47 : Callable Try.prog 47 := callable_of Try.func47 rfl (by kernel_rfl)
theorem cal48 : Callable Try.prog 48 := callable_of Try.func48 rfl (by kernel_rfl)
theorem cal49 : Callable Try.prog 49 := callable_of Try.func49 rfl (by kernel_rfl)
theorem cal50 : Callable Try.prog 50 := callable_of Try.func50 rfl (by kernel_rfl)
theorem cal51 : Callable Try.prog 51 := callable_of Try.func51 rfl (by kernel_rfl)
theorem cal52 : Callable Try.prog 52 := callable_of Try.func52 rfl (by kernel_rfl)
theorem cal53 : Callable Try.prog 53 := callable_of Try.func53 rfl (by kernel_rfl)
theorem cal54 : Callable Try.prog 54 := callable_of Try.func54 rfl (by kernel_rfl)
theorem cal55 : Callable Try.prog 55 := callable_of Try.func55 rfl (by kernel_rfl)
theorem cal56 : Callable Try.prog 56 := callable_of Try.func56 rfl (by kernel_rfl)
theorem cal57 : Callable Try.prog 57 := callable_of Try.func57 rfl (by kernel_rfl)
theorem cal58 : Callable Try.prog 58 := callable_of Try.func58 rfl (by kernel_rfl)
theorem cal59 : Callable Try.prog 59 := callable_of Try.func59 rfl (by kernel_rfl)
theorem cal60 : Callable Try.prog 60 := callable_of Try.func60 rfl (by kernel_rfl)
theorem cal61 : Callable Try.prog 61 := callable_of Try.func61 rfl (by kernel_rfl)
theorem cal62 : Callable Try.prog 62 := callable_of Try.func62 rfl (by kernel_rfl)
theorem cal63 : Callable Try.prog 63 := callable_of Try.func63 rfl (by kernel_rfl)
theorem cal64 : Callable Try.prog 64 := callable_of Try.func64 rfl (by kernel_rfl)
theorem cal65 : Callable Try.prog 65 := callable_of Try.func65 rfl (by kernel_rfl)
theorem cal66 : Callable Try.prog 66 := callable_of Try.func66 rfl (by kernel_rfl)
theorem cal67 : Callable Try.prog 67 := callable_of Try.func67 rfl (by kernel_rfl)
theorem cal68 : Callable Try.prog 68 := callable_of Try.func68 rfl (by kernel_rfl)
theorem cal69 : Callable Try.prog 69 := callable_of Try.func69 rfl (by kernel_rfl)
theorem cal70 : Callable Try.prog 70 := callable_of Try.func70 rfl (by kernel_rfl)
theorem cal71 : Callable Try.prog 71 := callable_of Try.func71 rfl (by kernel_rfl)
theorem cal72 : Callable Try.prog 72 := callable_of Try.func72 rfl (by kernel_rfl)
theorem cal73 : Callable Try.prog 73 := callable_of Try.func73 rfl (by kernel_rfl)
theorem cal74 : Callable Try.prog 74 := callable_of Try.func74 rfl (by kernel_rfl)
theorem cal75 : Callable Try.prog 75 := callable_of Try.func75 rfl (by kernel_rfl)
theorem cal76 : Callable Try.prog 76 := callable_of Try.func76 rfl (by kernel_rfl)
theorem cal77 : Callable Try.prog 77 := callable_of Try.func77 rfl (by kernel_rfl)
theorem cal78 : Callable Try.prog 78 := callable_of Try.func78 rfl (by kernel_rfl)
theorem cal79 : Callable Try.prog 79 := callable_of Try.func79 rfl (by kernel_rfl)
theorem cal80 : Callable Try.prog 80 := callable_of Try.func80 rfl (by kernel_rfl)
theorem cal81 : Callable Try.prog 81 := callable_of Try.func81 rfl (by kernel_rfl)
theorem cal82 : Callable Try.prog 82 := callable_of Try.func82 rfl (by kernel_rfl)
theorem cal83 : Callable Try.prog 83 := callable_of Try.func83 rfl (by kernel_rfl)
theorem cal84 : Callable Try.prog 84 := callable_of Try.func84 rfl (by kernel_rfl)
theorem cal85 : Callable Try.prog 85 := callable_of Try.func85 rfl (by kernel_rfl)
theorem cal86 : Callable Try.prog 86 := callable_of Try.func86 rfl (by kernel_rfl)
theorem cal87 : Callable Try.prog 87 := callable_of Try.func87 rfl (by kernel_rfl)
theorem cal88 : Callable Try.prog 88 := callable_of Try.func88 rfl (by kernel_rfl)
theorem cal89 : Callable Try.prog 89 := callable_of Try.func89 rfl (by kernel_rfl)
theorem cal90 : Callable Try.prog 90 := callable_of Try.func90 rfl (by kernel_rfl)
theorem cal91 : Callable Try.prog 91 := callable_of Try.func91 rfl (by kernel_rfl)
def undL : List (Nat × TypeDesc) := [(2, .int .i64), (3, .int .i64), (4, .bool), (5, .int .u8), (6, .int .u8), (9, .string), (10, .string), (11, .string), (12, .int .u64), (15, .pointer 97), (16, .pointer 100), (17, .pointer 109), (21, .int .i32), (24, .slice 26), (27, .slice 3), (32, .slice 23), (33, .int .i64), (56, .int .u64), (60, .array 2 23), (63, .array 14 62), (66, .int .i64), (74, .int .u32), (76, .int .u64), (81, .int .u64), (85, .pointer 3), (90, .pointer 81), (98, .array 0 16), (102, .int .u8), (103, .int .u8), (105, .pointer 5), (106, .int .i32), (107, .int .i32)]
theorem und {t : TypeId} {x : TypeDesc} (h : lkL undL t = some x) : Try.prog.underlying t = some x := look (f := Try.prog.underlying) undL ⟨Try.underlying2, Try.underlying3, Try.underlying4, Try.underlying5, Try.underlying6, Try.underlying9, Try.underlying10, Try.underlying11, Try.underlying12, Try.underlying15, Try.underlying16, Try.underlying17, Try.underlying21, Try.underlying24, Try.underlying27, Try.underlying32, Try.underlying33, Try.underlying56, Try.underlying60, Try.underlying63, Try.underlying66, Try.underlying74, Try.underlying76, Try.underlying81, Try.underlying85, Try.underlying90, Try.underlying98, Try.underlying102, Try.underlying103, Try.underlying105, Try.underlying106, Try.underlying107, trivial⟩ h
theorem fl23 : flatD Try.prog 23 = some [.int .i64, .int .i64, .string] := by kernel_rfl
def flatL : List (Nat × List TypeDesc) := [(23, [.int .i64, .int .i64, .string])]
theorem flat {t : TypeId} {x : List TypeDesc} (h : lkL flatL t = some x) : flatD Try.prog t = some x := look (f := flatD Try.prog) flatL ⟨fl23, trivial⟩ h
def aggL : List (Nat × Bool) := [(1, false), (2, false), (3, false), (4, false), (5, false), (6, false), (7, true), (8, true), (9, false), (10, false), (11, false), (12, false), (13, true), (14, true), (15, false), (16, false), (17, false), (18, true), (19, true), (20, false), (21, false), (22, true), (23, true), (24, false), (25, true), (26, true), (27, false), (28, false), (29, false), (30, false), (31, false), (32, false), (33, false), (35, false), (36, false), (38, false), (39, false), (40, false), (41, false), (42, false), (43, false), (44, false), (45, false), (48, false), (50, false), (55, false), (56, false), (57, false), (60, true), (61, false), (62, false), (63, true), (65, false), (66, false), (68, false), (74, false), (76, false), (77, false), (78, false), (79, false), (81, false), (84, false), (85, false), (87, false), (89, false), (90, false), (92, false), (93, false), (96, true), (97, true), (98, true), (100, true), (101, false), (102, false), (103, false), (104, false), (105, false), (106, false), (107, false), (108, true), (109, true)]
theorem agg {t : TypeId} {x : Bool} (h : lkL aggL t = some x) : aggOf Try.prog t = some x := look (f := aggOf Try.prog) aggL ⟨g1, g2, g3, g4, g5, g6, g7, g8, g9, g10, g11, g12, g13, g14, g15, g16, g17, g18, g19, g20, g21, g22, g23, g24, g25, g26, g27, g28, g29, g30, g31, g32, g33, g35, g36, g38, g39, g40, g41, g42, g43, g44, g45, g48, g50, g55, g56, g57, g60, g61, g62, g63, g65, g66, g68, g74, g76, g77, g78, g79, g81, g84, g85, g87, g89, g90, g92, g93, g96, g97, g98, g100, g101, g102, g103, g104, g105, g106, g107, g108, g109, trivial⟩ h
def szL : List (Nat × Nat) := [(1, 1), (2, 1), (3, 1), (4, 1), (5, 1), (6, 1), (7, 4), (8, 4), (9, 1), (10, 1), (11, 1), (12, 1), (13, 2), (14, 2), (15, 1), (16, 1), (17, 1), (18, 1), (19, 1), (20, 1), (21, 1), (22, 3), (23, 3), (24, 1), (25, 8), (26, 8), (27, 1), (28, 1), (29, 1), (30, 1), (31, 1), (32, 1), (33, 1), (35, 1), (36, 1), (38, 1), (39, 1), (40, 1), (41, 1), (42, 1), (43, 1), (44, 1), (45, 1), (48, 1), (50, 1), (55, 1), (56, 1), (57, 1), (60, 6), (61, 1), (62, 1), (63, 14), (65, 1), (66, 1), (68, 1), (74, 1), (76, 1), (77, 1), (78, 1), (79, 1), (81, 1), (84, 1), (85, 1), (87, 1), (89, 1), (90, 1), (92, 1), (93, 1), (96, 4), (97, 4), (98, 0), (100, 0), (101, 1), (102, 1), (103, 1), (104, 1), (105, 1), (106, 1), (107, 1), (108, 11), (109, 11)]
theorem sz {t : TypeId} {x : Nat} (h : lkL szL t = some x) : szOf Try.prog t = some x := look (f := szOf Try.prog) szL ⟨z1, z2, z3, z4, z5, z6, z7, z8, z9, z10, z11, z12, z13, z14, z15, z16, z17, z18, z19, z20, z21, z22, z23, z24, z25, z26, z27, z28, z29, z30, z31, z32, z33, z35, z36, z38, z39, z40, z41, z42, z43, z44, z45, z48, z50, z55, z56, z57, z60, z61, z62, z63, z65, z66, z68, z74, z76, z77, z78, z79, z81, z84, z85, z87, z89, z90, z92, z93, z96, z97, z98, z100, z101, z102, z103, z104, z105, z106, z107, z108, z109, trivial⟩ h
def zrL : List (Nat × Value) := [(1, .nilFunc), (2, .int .i64 (0)), (3, .int .i64 (0)), (4, .bool false), (5, .int .u8 (0)), (6, .int .u8 (0)), (7, .agg [.int .i64 (0), .int .i64 (0), .bool false, .int .u8 (0)].toArray), (8, .agg [.int .i64 (0), .int .i64 (0), .bool false, .int .u8 (0)].toArray), (9, .string ⟨#[]⟩), (10, .string ⟨#[]⟩), (11, .string ⟨#[]⟩), (12, .int .u64 (0)), (13, .agg [.string ⟨#[]⟩, .int .u64 (0)].toArray), (14, .agg [.string ⟨#[]⟩, .int .u64 (0)].toArray), (15, .pointer none), (16, .pointer none), (17, .pointer none), (18, .agg [.pointer none].toArray), (19, .agg [.pointer none].toArray), (20, .nilIface), (21, .int .i32 (0)), (22, .agg [.int .i64 (0), .int .i64 (0), .string ⟨#[]⟩].toArray), (23, .agg [.int .i64 (0), .int .i64 (0), .string ⟨#[]⟩].toArray), (24, .slice none 0 0), (25, .agg [.int .i64 (0), .int .i64 (0), .int .i64 (0), .string ⟨#[]⟩, .string ⟨#[]⟩, .string ⟨#[]⟩, .int .i64 (0), .slice none 0 0].toArray), (26, .agg [.int .i64 (0), .int .i64 (0), .int .i64 (0), .string ⟨#[]⟩, .string ⟨#[]⟩, .string ⟨#[]⟩, .int .i64 (0), .slice none 0 0].toArray), (27, .slice none 0 0), (28, .nilFunc), (29, .nilFunc), (30, .nilFunc), (31, .nilFunc), (32, .slice none 0 0), (33, .int .i64 (0)), (35, .nilFunc), (36, .nilFunc), (38, .nilFunc), (39, .nilFunc), (40, .nilFunc), (41, .nilFunc), (42, .nilFunc), (43, .nilFunc), (44, .nilFunc), (45, .nilFunc), (48, .nilFunc), (50, .nilFunc), (55, .nilFunc), (56, .int .u64 (0)), (57, .nilFunc), (60, .agg [.int .i64 (0), .int .i64 (0), .string ⟨#[]⟩, .int .i64 (0), .int .i64 (0), .string ⟨#[]⟩].toArray), (61, .nilFunc), (62, .nilFunc), (63, .agg [.nilFunc, .nilFunc, .nilFunc, .nilFunc, .nilFunc, .nilFunc, .nilFunc, .nilFunc, .nilFunc, .nilFunc, .nilFunc, .nilFunc, .nilFunc, .nilFunc].toArray), (65, .nilFunc), (66, .int .i64 (0)), (68, .nilFunc), (74, .int .u32 (0)), (76, .int .u64 (0)), (77, .nilFunc), (78, .nilFunc), (79, .nilFunc), (81, .int .u64 (0)), (84, .nilFunc), (85, .pointer none), (87, .nilFunc), (89, .nilFunc), (90, .pointer none), (92, .nilFunc), (93, .nilFunc), (96, .agg [.pointer none, .pointer none, .pointer none, .string ⟨#[]⟩].toArray), (97, .agg [.pointer none, .pointer none, .pointer none, .string ⟨#[]⟩].toArray), (98, .agg [].toArray), (100, .agg [].toArray), (101, .nilFunc), (102, .int .u8 (0)), (103, .int .u8 (0)), (104, .nilFunc), (105, .pointer none), (106, .int .i32 (0)), (107, .int .i32 (0)), (108, .agg [.int .u64 (0), .int .u64 (0), .int .u32 (0), .int .u8 (0), .int .u8 (0), .int .u8 (0), .int .u8 (0), .nilFunc, .pointer none, .int .i32 (0), .int .i32 (0)].toArray), (109, .agg [.int .u64 (0), .int .u64 (0), .int .u32 (0), .int .u8 (0), .int .u8 (0), .int .u8 (0), .int .u8 (0), .nilFunc, .pointer none, .int .i32 (0), .int .i32 (0)].toArray)]
theorem zr {t : TypeId} {x : Value} (h : lkL zrL t = some x) : zrOf Try.prog t = some x := look (f := zrOf Try.prog) zrL ⟨zr1, zr2, zr3, zr4, zr5, zr6, zr7, zr8, zr9, zr10, zr11, zr12, zr13, zr14, zr15, zr16, zr17, zr18, zr19, zr20, zr21, zr22, zr23, zr24, zr25, zr26, zr27, zr28, zr29, zr30, zr31, zr32, zr33, zr35, zr36, zr38, zr39, zr40, zr41, zr42, zr43, zr44, zr45, zr48, zr50, zr55, zr56, zr57, zr60, zr61, zr62, zr63, zr65, zr66, zr68, zr74, zr76, zr77, zr78, zr79, zr81, zr84, zr85, zr87, zr89, zr90, zr92, zr93, zr96, zr97, zr98, zr100, zr101, zr102, zr103, zr104, zr105, zr106, zr107, zr108, zr109, trivial⟩ h
def bytL : List (Nat × Nat) := [(1, 8), (2, 8), (3, 8), (4, 1), (5, 1), (6, 1), (7, 24), (8, 24), (9, 16), (10, 16), (11, 16), (12, 8), (13, 24), (14, 24), (15, 8), (16, 8), (17, 8), (18, 8), (19, 8), (20, 16), (21, 4), (22, 32), (23, 32), (24, 24), (25, 104), (26, 104), (27, 24), (28, 8), (29, 8), (30, 8), (31, 8), (32, 24), (33, 8), (35, 8), (36, 8), (38, 8), (39, 8), (40, 8), (41, 8), (42, 8), (43, 8), (44, 8), (45, 8), (48, 8), (50, 8), (55, 8), (56, 8), (57, 8), (60, 64), (61, 8), (62, 8), (63, 112), (65, 8), (66, 8), (68, 8), (74, 4), (76, 8), (77, 8), (78, 8), (79, 8), (81, 8), (84, 8), (85, 8), (87, 8), (89, 8), (90, 8), (92, 8), (93, 8), (96, 40), (97, 40), (98, 0), (100, 0), (101, 8), (102, 1), (103, 1), (104, 8), (105, 8), (106, 4), (107, 4), (108, 48), (109, 48)]
theorem byt {t : TypeId} {x : Nat} (h : lkL bytL t = some x) : byOf Try.prog t = some x := look (f := byOf Try.prog) bytL ⟨by1, by2, by3, by4, by5, by6, by7, by8, by9, by10, by11, by12, by13, by14, by15, by16, by17, by18, by19, by20, by21, by22, by23, by24, by25, by26, by27, by28, by29, by30, by31, by32, by33, by35, by36, by38, by39, by40, by41, by42, by43, by44, by45, by48, by50, by55, by56, by57, by60, by61, by62, by63, by65, by66, by68, by74, by76, by77, by78, by79, by81, by84, by85, by87, by89, by90, by92, by93, by96, by97, by98, by100, by101, by102, by103, by104, by105, by106, by107, by108, by109, trivial⟩ h
def lkP {α : Type} : List (Nat × Nat × α) → Nat → Nat → Option α
  | [], _, _ => none
  | (k, j, v) :: E, t, i => match Nat.beq k t && Nat.beq j i with
    | true => some v
    | false => lkP E t i
def allP {α : Type} (f : Nat → Nat → Option α) : List (Nat × Nat × α) → Prop
  | [] => True
  | p :: l => f p.1 p.2.1 = some p.2.2 ∧ allP f l
theorem lookP {α : Type} {f : Nat → Nat → Option α} : ∀ (l : List (Nat × Nat × α)), allP f l → ∀ {t i : Nat} {x : α}, lkP l t i = some x → f t i = some x
  | [], _, _, _, _, h => (Option.some_ne_none _ h.symm).elim
  | (k, j, v) :: E, hA, t, i, x, h => by
    unfold lkP at h
    cases hb : Nat.beq k t && Nat.beq j i with
    | true =>
      rw [hb] at h
      simp only [Bool.and_eq_true] at hb
      obtain rfl := Nat.eq_of_beq_eq_true hb.1
      obtain rfl := Nat.eq_of_beq_eq_true hb.2
      cases h
      exact hA.1
    | false =>
      rw [hb] at h
      exact lookP E hA.2 h
def foL : List (Nat × Nat × (Nat × Nat × Nat)) := [(23, 0, (0, 3, 1)), (23, 1, (1, 2, 1)), (23, 2, (2, 9, 1)), (26, 0, (0, 3, 1)), (26, 1, (1, 23, 3)), (26, 4, (6, 3, 1)), (26, 5, (7, 24, 1))]
theorem fo {t : TypeId} {i : Nat} {x : Nat × Nat × Nat} (h : lkP foL t i = some x) : fldOff Try.prog t i = some x := lookP (f := fldOff Try.prog) foL ⟨fo23_0, fo23_1, fo23_2, fo26_0, fo26_1, fo26_4, fo26_5, trivial⟩ h
def lkC : List Nat → Nat → Bool
  | [], _ => false
  | k :: E, t => match Nat.beq k t with
    | true => true
    | false => lkC E t
def allC (Q : Nat → Prop) : List Nat → Prop
  | [] => True
  | p :: l => Q p ∧ allC Q l
theorem lookC {Q : Nat → Prop} : ∀ (l : List Nat), allC Q l → ∀ {t : Nat}, lkC l t = true → Q t
  | [], _, _, h => (Bool.false_ne_true h).elim
  | k :: E, hA, t, h => by
    unfold lkC at h
    cases hb : Nat.beq k t with
    | true => obtain rfl := Nat.eq_of_beq_eq_true hb; exact hA.1
    | false => rw [hb] at h; exact lookC E hA.2 h
def calL : List Nat := [3, 4, 5, 6, 7, 8, 9, 10, 11, 12, 13, 14, 15, 16, 17, 18, 19, 20, 21, 22, 23, 24, 25, 26, 27, 28, 29, 30, 31, 32, 33, 34, 35, 36, 37, 38, 39, 40, 41, 42, 43, 44, 45, 46, 47, 48, 49, 50, 51, 52, 53, 54, 55, 56, 57, 58, 59, 60, 61, 62, 63, 64, 65, 66, 67, 68, 69, 70, 71, 72, 73, 74, 75, 76, 77, 78, 79, 80, 81, 82, 83, 84, 85, 86, 87, 88, 89, 90, 91]
theorem cal {t : Nat} (h : lkC calL t = true) : Callable Try.prog t := lookC (Q := Callable Try.prog) calL ⟨cal3, cal4, cal5, cal6, cal7, cal8, cal9, cal10, cal11, cal12, cal13, cal14, cal15, cal16, cal17, cal18, cal19, cal20, cal21, cal22, cal23, cal24, cal25, cal26, cal27, cal28, cal29, cal30, cal31, cal32, cal33, cal34, cal35, cal36, cal37, cal38, cal39, cal40, cal41, cal42, cal43, cal44, cal45, cal46, cal47, cal48, cal49, cal50, cal51, cal52, cal53, cal54, cal55, cal56, cal57, cal58, cal59, cal60, cal61, cal62, cal63, cal64, cal65, cal66, cal67, cal68, cal69, cal70, cal71, cal72, cal73, cal74, cal75, cal76, cal77, cal78, cal79, cal80, cal81, cal82, cal83, cal84, cal85, cal86, cal87, cal88, cal89, cal90, cal91, trivial⟩ h
def plL : List (Nat × List (Nat × Nat)) := [(23, [(0, 1), (1, 1), (2, 1)]), (26, [(0, 1), (1, 3), (4, 1), (5, 1), (6, 1), (7, 1)])]
theorem pl {t : TypeId} {x : List (Nat × Nat)} (h : lkL plL t = some x) : placesOf Try.prog t = some x := look (f := placesOf Try.prog) plL ⟨pl23, pl26, trivial⟩ h
theorem mixed : Try.prog.follows .mixedOrders = true := by kernel_rfl
end Go.Proofs.Ytmkhejdamjibgaa.Fx
