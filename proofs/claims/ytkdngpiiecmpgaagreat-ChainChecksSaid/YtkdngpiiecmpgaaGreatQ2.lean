/-
 Closed facts on the types and the functions of this seat. Written by program (facts.py). Conditions: none.
-/
import Derived.Test.YtkdngpiiecmpgaaGreatQ1
import Derived.Test.YtkdngpiiecmpgaaGreatProg
import Derived.KernelRfl
namespace Go.Proofs.YtkdngpiiecmpgaaGreat.Fx
open Go Go.K Go.Proofs
set_option linter.unusedVariables false
def lkL {α : Type} : List (Nat × α) → Nat → Option α
 | [], _ => none
 | (k, v) :: E, t => match Nat.beq k t with
  | true => some v
  | false => lkL E t
def allL {α : Type} (f : Nat → Option α) : List (Nat × α) → Prop
 | [] => True
 | p :: l => f p.1 = some p.2 ∧ allL f l
theorem look {α : Type} {f : Nat → Option α} : ∀ (l : List (Nat × α)), allL f l → ∀ {t : Nat} {x : α}, lkL l t = some x → f t = some x
 | [], _, _, _, h => (Option.some_ne_none _ h.symm).elim
 | (k, v) :: E, hA, t, x, h => by
  unfold lkL at h
  split at h
  ·rename_i hb
   rw [← Nat.eq_of_beq_eq_true hb, ← h]
   exact hA.1
  ·exact look E hA.2 h
theorem g1 : aggOf Tryz.prog 1 = some false := by kernel_rfl
theorem z1 : szOf Tryz.prog 1 = some 1 := by kernel_rfl
theorem by1 : byOf Tryz.prog 1 = some 8 := by kernel_rfl
theorem zr1 : zrOf Tryz.prog 1 = some (.nilFunc) := by kernel_rfl
theorem g2 : aggOf Tryz.prog 2 = some false := by kernel_rfl
theorem z2 : szOf Tryz.prog 2 = some 1 := by kernel_rfl
theorem by2 : byOf Tryz.prog 2 = some 8 := by kernel_rfl
theorem zr2 : zrOf Tryz.prog 2 = some (.int .i64 (0)) := by kernel_rfl
theorem g3 : aggOf Tryz.prog 3 = some false := by kernel_rfl
theorem z3 : szOf Tryz.prog 3 = some 1 := by kernel_rfl
theorem by3 : byOf Tryz.prog 3 = some 8 := by kernel_rfl
theorem zr3 : zrOf Tryz.prog 3 = some (.int .i64 (0)) := by kernel_rfl
theorem g4 : aggOf Tryz.prog 4 = some false := by kernel_rfl
theorem z4 : szOf Tryz.prog 4 = some 1 := by kernel_rfl
theorem by4 : byOf Tryz.prog 4 = some 1 := by kernel_rfl
theorem zr4 : zrOf Tryz.prog 4 = some (.bool false) := by kernel_rfl
theorem g5 : aggOf Tryz.prog 5 = some false := by kernel_rfl
theorem z5 : szOf Tryz.prog 5 = some 1 := by kernel_rfl
theorem by5 : byOf Tryz.prog 5 = some 1 := by kernel_rfl
theorem zr5 : zrOf Tryz.prog 5 = some (.int .u8 (0)) := by kernel_rfl
theorem g6 : aggOf Tryz.prog 6 = some false := by kernel_rfl
theorem z6 : szOf Tryz.prog 6 = some 1 := by kernel_rfl
theorem by6 : byOf Tryz.prog 6 = some 1 := by kernel_rfl
theorem zr6 : zrOf Tryz.prog 6 = some (.int .u8 (0)) := by kernel_rfl
theorem g7 : aggOf Tryz.prog 7 = some true := by kernel_rfl
theorem z7 : szOf Tryz.prog 7 = some 4 := by kernel_rfl
theorem by7 : byOf Tryz.prog 7 = some 24 := by kernel_rfl
theorem zr7 : zrOf Tryz.prog 7 = some (.agg [.int .i64 (0), .int .i64 (0), .bool false, .int .u8 (0)].toArray) := by kernel_rfl
theorem g8 : aggOf Tryz.prog 8 = some true := by kernel_rfl
theorem z8 : szOf Tryz.prog 8 = some 4 := by kernel_rfl
theorem by8 : byOf Tryz.prog 8 = some 24 := by kernel_rfl
theorem zr8 : zrOf Tryz.prog 8 = some (.agg [.int .i64 (0), .int .i64 (0), .bool false, .int .u8 (0)].toArray) := by kernel_rfl
theorem g9 : aggOf Tryz.prog 9 = some false := by kernel_rfl
theorem z9 : szOf Tryz.prog 9 = some 1 := by kernel_rfl
theorem by9 : byOf Tryz.prog 9 = some 16 := by kernel_rfl
theorem zr9 : zrOf Tryz.prog 9 = some (.string ⟨#[]⟩) := by kernel_rfl
theorem g10 : aggOf Tryz.prog 10 = some false := by kernel_rfl
theorem z10 : szOf Tryz.prog 10 = some 1 := by kernel_rfl
theorem by10 : byOf Tryz.prog 10 = some 16 := by kernel_rfl
theorem zr10 : zrOf Tryz.prog 10 = some (.string ⟨#[]⟩) := by kernel_rfl
theorem g11 : aggOf Tryz.prog 11 = some false := by kernel_rfl
theorem z11 : szOf Tryz.prog 11 = some 1 := by kernel_rfl
theorem by11 : byOf Tryz.prog 11 = some 16 := by kernel_rfl
theorem zr11 : zrOf Tryz.prog 11 = some (.string ⟨#[]⟩) := by kernel_rfl
theorem g12 : aggOf Tryz.prog 12 = some false := by kernel_rfl
theorem z12 : szOf Tryz.prog 12 = some 1 := by kernel_rfl
theorem by12 : byOf Tryz.prog 12 = some 8 := by kernel_rfl
theorem zr12 : zrOf Tryz.prog 12 = some (.int .u64 (0)) := by kernel_rfl
theorem g13 : aggOf Tryz.prog 13 = some true := by kernel_rfl
theorem z13 : szOf Tryz.prog 13 = some 2 := by kernel_rfl
theorem by13 : byOf Tryz.prog 13 = some 24 := by kernel_rfl
theorem zr13 : zrOf Tryz.prog 13 = some (.agg [.string ⟨#[]⟩, .int .u64 (0)].toArray) := by kernel_rfl
theorem g14 : aggOf Tryz.prog 14 = some true := by kernel_rfl
theorem z14 : szOf Tryz.prog 14 = some 2 := by kernel_rfl
theorem by14 : byOf Tryz.prog 14 = some 24 := by kernel_rfl
theorem zr14 : zrOf Tryz.prog 14 = some (.agg [.string ⟨#[]⟩, .int .u64 (0)].toArray) := by kernel_rfl
theorem g15 : aggOf Tryz.prog 15 = some false := by kernel_rfl
theorem z15 : szOf Tryz.prog 15 = some 1 := by kernel_rfl
theorem by15 : byOf Tryz.prog 15 = some 8 := by kernel_rfl
theorem zr15 : zrOf Tryz.prog 15 = some (.pointer none) := by kernel_rfl
theorem g16 : aggOf Tryz.prog 16 = some false := by kernel_rfl
theorem z16 : szOf Tryz.prog 16 = some 1 := by kernel_rfl
theorem by16 : byOf Tryz.prog 16 = some 8 := by kernel_rfl
theorem zr16 : zrOf Tryz.prog 16 = some (.pointer none) := by kernel_rfl
theorem g17 : aggOf Tryz.prog 17 = some false := by kernel_rfl
theorem z17 : szOf Tryz.prog 17 = some 1 := by kernel_rfl
theorem by17 : byOf Tryz.prog 17 = some 8 := by kernel_rfl
theorem zr17 : zrOf Tryz.prog 17 = some (.pointer none) := by kernel_rfl
theorem g18 : aggOf Tryz.prog 18 = some true := by kernel_rfl
theorem z18 : szOf Tryz.prog 18 = some 1 := by kernel_rfl
theorem by18 : byOf Tryz.prog 18 = some 8 := by kernel_rfl
theorem zr18 : zrOf Tryz.prog 18 = some (.agg [.pointer none].toArray) := by kernel_rfl
theorem g19 : aggOf Tryz.prog 19 = some true := by kernel_rfl
theorem z19 : szOf Tryz.prog 19 = some 1 := by kernel_rfl
theorem by19 : byOf Tryz.prog 19 = some 8 := by kernel_rfl
theorem zr19 : zrOf Tryz.prog 19 = some (.agg [.pointer none].toArray) := by kernel_rfl
theorem g20 : aggOf Tryz.prog 20 = some false := by kernel_rfl
theorem z20 : szOf Tryz.prog 20 = some 1 := by kernel_rfl
theorem by20 : byOf Tryz.prog 20 = some 16 := by kernel_rfl
theorem zr20 : zrOf Tryz.prog 20 = some (.nilIface) := by kernel_rfl
theorem g21 : aggOf Tryz.prog 21 = some false := by kernel_rfl
theorem z21 : szOf Tryz.prog 21 = some 1 := by kernel_rfl
theorem by21 : byOf Tryz.prog 21 = some 4 := by kernel_rfl
theorem zr21 : zrOf Tryz.prog 21 = some (.int .i32 (0)) := by kernel_rfl
theorem g22 : aggOf Tryz.prog 22 = some false := by kernel_rfl
theorem z22 : szOf Tryz.prog 22 = some 1 := by kernel_rfl
theorem by22 : byOf Tryz.prog 22 = some 24 := by kernel_rfl
theorem zr22 : zrOf Tryz.prog 22 = some (.slice none 0 0) := by kernel_rfl
theorem g23 : aggOf Tryz.prog 23 = some false := by kernel_rfl
theorem z23 : szOf Tryz.prog 23 = some 1 := by kernel_rfl
theorem by23 : byOf Tryz.prog 23 = some 8 := by kernel_rfl
theorem zr23 : zrOf Tryz.prog 23 = some (.int .u64 (0)) := by kernel_rfl
theorem g24 : aggOf Tryz.prog 24 = some false := by kernel_rfl
theorem z24 : szOf Tryz.prog 24 = some 1 := by kernel_rfl
theorem by24 : byOf Tryz.prog 24 = some 8 := by kernel_rfl
theorem zr24 : zrOf Tryz.prog 24 = some (.nilFunc) := by kernel_rfl
theorem g25 : aggOf Tryz.prog 25 = some false := by kernel_rfl
theorem z25 : szOf Tryz.prog 25 = some 1 := by kernel_rfl
theorem by25 : byOf Tryz.prog 25 = some 8 := by kernel_rfl
theorem zr25 : zrOf Tryz.prog 25 = some (.nilFunc) := by kernel_rfl
theorem g26 : aggOf Tryz.prog 26 = some false := by kernel_rfl
theorem z26 : szOf Tryz.prog 26 = some 1 := by kernel_rfl
theorem by26 : byOf Tryz.prog 26 = some 8 := by kernel_rfl
theorem zr26 : zrOf Tryz.prog 26 = some (.nilFunc) := by kernel_rfl
theorem g27 : aggOf Tryz.prog 27 = some false := by kernel_rfl
theorem z27 : szOf Tryz.prog 27 = some 1 := by kernel_rfl
theorem by27 : byOf Tryz.prog 27 = some 24 := by kernel_rfl
theorem zr27 : zrOf Tryz.prog 27 = some (.slice none 0 0) := by kernel_rfl
theorem g28 : aggOf Tryz.prog 28 = some false := by kernel_rfl
theorem z28 : szOf Tryz.prog 28 = some 1 := by kernel_rfl
theorem by28 : byOf Tryz.prog 28 = some 24 := by kernel_rfl
theorem zr28 : zrOf Tryz.prog 28 = some (.slice none 0 0) := by kernel_rfl
theorem g29 : aggOf Tryz.prog 29 = some false := by kernel_rfl
theorem z29 : szOf Tryz.prog 29 = some 1 := by kernel_rfl
theorem by29 : byOf Tryz.prog 29 = some 4 := by kernel_rfl
theorem zr29 : zrOf Tryz.prog 29 = some (.int .u32 (0)) := by kernel_rfl
theorem g30 : aggOf Tryz.prog 30 = some false := by kernel_rfl
theorem z30 : szOf Tryz.prog 30 = some 1 := by kernel_rfl
theorem by30 : byOf Tryz.prog 30 = some 8 := by kernel_rfl
theorem zr30 : zrOf Tryz.prog 30 = some (.int .i64 (0)) := by kernel_rfl
theorem g32 : aggOf Tryz.prog 32 = some false := by kernel_rfl
theorem z32 : szOf Tryz.prog 32 = some 1 := by kernel_rfl
theorem by32 : byOf Tryz.prog 32 = some 8 := by kernel_rfl
theorem zr32 : zrOf Tryz.prog 32 = some (.nilFunc) := by kernel_rfl
theorem g33 : aggOf Tryz.prog 33 = some false := by kernel_rfl
theorem z33 : szOf Tryz.prog 33 = some 1 := by kernel_rfl
theorem by33 : byOf Tryz.prog 33 = some 8 := by kernel_rfl
theorem zr33 : zrOf Tryz.prog 33 = some (.pointer none) := by kernel_rfl
theorem g35 : aggOf Tryz.prog 35 = some false := by kernel_rfl
theorem z35 : szOf Tryz.prog 35 = some 1 := by kernel_rfl
theorem by35 : byOf Tryz.prog 35 = some 8 := by kernel_rfl
theorem zr35 : zrOf Tryz.prog 35 = some (.nilFunc) := by kernel_rfl
theorem g36 : aggOf Tryz.prog 36 = some false := by kernel_rfl
theorem z36 : szOf Tryz.prog 36 = some 1 := by kernel_rfl
theorem by36 : byOf Tryz.prog 36 = some 8 := by kernel_rfl
theorem zr36 : zrOf Tryz.prog 36 = some (.nilFunc) := by kernel_rfl
theorem g37 : aggOf Tryz.prog 37 = some true := by kernel_rfl
theorem z37 : szOf Tryz.prog 37 = some 4 := by kernel_rfl
theorem by37 : byOf Tryz.prog 37 = some 32 := by kernel_rfl
theorem zr37 : zrOf Tryz.prog 37 = some (.agg [.int .u32 (0), .int .u64 (0), .int .u64 (0), .bool false].toArray) := by kernel_rfl
theorem g38 : aggOf Tryz.prog 38 = some true := by kernel_rfl
theorem z38 : szOf Tryz.prog 38 = some 4 := by kernel_rfl
theorem by38 : byOf Tryz.prog 38 = some 32 := by kernel_rfl
theorem zr38 : zrOf Tryz.prog 38 = some (.agg [.int .u32 (0), .int .u64 (0), .int .u64 (0), .bool false].toArray) := by kernel_rfl
theorem g39 : aggOf Tryz.prog 39 = some true := by kernel_rfl
theorem z39 : szOf Tryz.prog 39 = some 2 := by kernel_rfl
theorem by39 : byOf Tryz.prog 39 = some 16 := by kernel_rfl
theorem zr39 : zrOf Tryz.prog 39 = some (.agg [.int .u32 (0), .int .u64 (0)].toArray) := by kernel_rfl
theorem g40 : aggOf Tryz.prog 40 = some true := by kernel_rfl
theorem z40 : szOf Tryz.prog 40 = some 2 := by kernel_rfl
theorem by40 : byOf Tryz.prog 40 = some 16 := by kernel_rfl
theorem zr40 : zrOf Tryz.prog 40 = some (.agg [.int .u32 (0), .int .u64 (0)].toArray) := by kernel_rfl
theorem g41 : aggOf Tryz.prog 41 = some false := by kernel_rfl
theorem z41 : szOf Tryz.prog 41 = some 1 := by kernel_rfl
theorem by41 : byOf Tryz.prog 41 = some 8 := by kernel_rfl
theorem zr41 : zrOf Tryz.prog 41 = some (.nilFunc) := by kernel_rfl
theorem g42 : aggOf Tryz.prog 42 = some false := by kernel_rfl
theorem z42 : szOf Tryz.prog 42 = some 1 := by kernel_rfl
theorem by42 : byOf Tryz.prog 42 = some 8 := by kernel_rfl
theorem zr42 : zrOf Tryz.prog 42 = some (.nilFunc) := by kernel_rfl
theorem g43 : aggOf Tryz.prog 43 = some false := by kernel_rfl
theorem z43 : szOf Tryz.prog 43 = some 1 := by kernel_rfl
theorem by43 : byOf Tryz.prog 43 = some 24 := by kernel_rfl
theorem zr43 : zrOf Tryz.prog 43 = some (.slice none 0 0) := by kernel_rfl
theorem g44 : aggOf Tryz.prog 44 = some false := by kernel_rfl
theorem z44 : szOf Tryz.prog 44 = some 1 := by kernel_rfl
theorem by44 : byOf Tryz.prog 44 = some 8 := by kernel_rfl
theorem zr44 : zrOf Tryz.prog 44 = some (.nilFunc) := by kernel_rfl
theorem g46 : aggOf Tryz.prog 46 = some false := by kernel_rfl
theorem z46 : szOf Tryz.prog 46 = some 1 := by kernel_rfl
theorem by46 : byOf Tryz.prog 46 = some 8 := by kernel_rfl
theorem zr46 : zrOf Tryz.prog 46 = some (.nilFunc) := by kernel_rfl
theorem g47 : aggOf Tryz.prog 47 = some false := by kernel_rfl
theorem z47 : szOf Tryz.prog 47 = some 1 := by kernel_rfl
theorem by47 : byOf Tryz.prog 47 = some 8 := by kernel_rfl
theorem zr47 : zrOf Tryz.prog 47 = some (.nilFunc) := by kernel_rfl
theorem g48 : aggOf Tryz.prog 48 = some false := by kernel_rfl
theorem z48 : szOf Tryz.prog 48 = some 1 := by kernel_rfl
theorem by48 : byOf Tryz.prog 48 = some 24 := by kernel_rfl
theorem zr48 : zrOf Tryz.prog 48 = some (.slice none 0 0) := by kernel_rfl
theorem g49 : aggOf Tryz.prog 49 = some true := by kernel_rfl
theorem z49 : szOf Tryz.prog 49 = some 4 := by kernel_rfl
theorem by49 : byOf Tryz.prog 49 = some 48 := by kernel_rfl
theorem zr49 : zrOf Tryz.prog 49 = some (.agg [.int .i64 (0), .int .u64 (0), .int .u32 (0), .slice none 0 0].toArray) := by kernel_rfl
theorem g50 : aggOf Tryz.prog 50 = some true := by kernel_rfl
theorem z50 : szOf Tryz.prog 50 = some 4 := by kernel_rfl
theorem by50 : byOf Tryz.prog 50 = some 48 := by kernel_rfl
theorem zr50 : zrOf Tryz.prog 50 = some (.agg [.int .i64 (0), .int .u64 (0), .int .u32 (0), .slice none 0 0].toArray) := by kernel_rfl
theorem g51 : aggOf Tryz.prog 51 = some true := by kernel_rfl
theorem z51 : szOf Tryz.prog 51 = some 5 := by kernel_rfl
theorem by51 : byOf Tryz.prog 51 = some 56 := by kernel_rfl
theorem zr51 : zrOf Tryz.prog 51 = some (.agg [.int .u32 (0), .int .i64 (0), .int .u64 (0), .int .u32 (0), .slice none 0 0].toArray) := by kernel_rfl
theorem g52 : aggOf Tryz.prog 52 = some true := by kernel_rfl
theorem z52 : szOf Tryz.prog 52 = some 5 := by kernel_rfl
theorem by52 : byOf Tryz.prog 52 = some 56 := by kernel_rfl
theorem zr52 : zrOf Tryz.prog 52 = some (.agg [.int .u32 (0), .int .i64 (0), .int .u64 (0), .int .u32 (0), .slice none 0 0].toArray) := by kernel_rfl
theorem g53 : aggOf Tryz.prog 53 = some false := by kernel_rfl
theorem z53 : szOf Tryz.prog 53 = some 1 := by kernel_rfl
theorem by53 : byOf Tryz.prog 53 = some 24 := by kernel_rfl
theorem zr53 : zrOf Tryz.prog 53 = some (.slice none 0 0) := by kernel_rfl
theorem g54 : aggOf Tryz.prog 54 = some true := by kernel_rfl
theorem z54 : szOf Tryz.prog 54 = some 3 := by kernel_rfl
theorem by54 : byOf Tryz.prog 54 = some 32 := by kernel_rfl
theorem zr54 : zrOf Tryz.prog 54 = some (.agg [.bool false, .int .u32 (0), .slice none 0 0].toArray) := by kernel_rfl
theorem g55 : aggOf Tryz.prog 55 = some true := by kernel_rfl
theorem z55 : szOf Tryz.prog 55 = some 3 := by kernel_rfl
theorem by55 : byOf Tryz.prog 55 = some 32 := by kernel_rfl
theorem zr55 : zrOf Tryz.prog 55 = some (.agg [.bool false, .int .u32 (0), .slice none 0 0].toArray) := by kernel_rfl
theorem g56 : aggOf Tryz.prog 56 = some false := by kernel_rfl
theorem z56 : szOf Tryz.prog 56 = some 1 := by kernel_rfl
theorem by56 : byOf Tryz.prog 56 = some 8 := by kernel_rfl
theorem zr56 : zrOf Tryz.prog 56 = some (.nilFunc) := by kernel_rfl
theorem g57 : aggOf Tryz.prog 57 = some false := by kernel_rfl
theorem z57 : szOf Tryz.prog 57 = some 1 := by kernel_rfl
theorem by57 : byOf Tryz.prog 57 = some 8 := by kernel_rfl
theorem zr57 : zrOf Tryz.prog 57 = some (.nilFunc) := by kernel_rfl
theorem g58 : aggOf Tryz.prog 58 = some false := by kernel_rfl
theorem z58 : szOf Tryz.prog 58 = some 1 := by kernel_rfl
theorem by58 : byOf Tryz.prog 58 = some 8 := by kernel_rfl
theorem zr58 : zrOf Tryz.prog 58 = some (.nilFunc) := by kernel_rfl
theorem g59 : aggOf Tryz.prog 59 = some false := by kernel_rfl
theorem z59 : szOf Tryz.prog 59 = some 1 := by kernel_rfl
theorem by59 : byOf Tryz.prog 59 = some 8 := by kernel_rfl
theorem zr59 : zrOf Tryz.prog 59 = some (.nilFunc) := by kernel_rfl
theorem g60 : aggOf Tryz.prog 60 = some true := by kernel_rfl
theorem z60 : szOf Tryz.prog 60 = some 4 := by kernel_rfl
theorem by60 : byOf Tryz.prog 60 = some 48 := by kernel_rfl
theorem zr60 : zrOf Tryz.prog 60 = some (.agg [.int .i64 (0), .int .i64 (0), .int .u32 (0), .slice none 0 0].toArray) := by kernel_rfl
theorem g61 : aggOf Tryz.prog 61 = some true := by kernel_rfl
theorem z61 : szOf Tryz.prog 61 = some 4 := by kernel_rfl
theorem by61 : byOf Tryz.prog 61 = some 48 := by kernel_rfl
theorem zr61 : zrOf Tryz.prog 61 = some (.agg [.int .i64 (0), .int .i64 (0), .int .u32 (0), .slice none 0 0].toArray) := by kernel_rfl
theorem g62 : aggOf Tryz.prog 62 = some true := by kernel_rfl
theorem z62 : szOf Tryz.prog 62 = some 15 := by kernel_rfl
theorem by62 : byOf Tryz.prog 62 = some 176 := by kernel_rfl
theorem zr62 : zrOf Tryz.prog 62 = some (.agg [.int .i64 (0), .int .u64 (0), .int .u32 (0), .int .u64 (0), .int .u64 (0), .int .u32 (0), .int .u32 (0), .int .i64 (0), .int .i64 (0), .int .u32 (0), .slice none 0 0, .slice none 0 0, .slice none 0 0, .slice none 0 0, .int .u32 (0)].toArray) := by kernel_rfl
theorem g63 : aggOf Tryz.prog 63 = some true := by kernel_rfl
theorem z63 : szOf Tryz.prog 63 = some 15 := by kernel_rfl
theorem by63 : byOf Tryz.prog 63 = some 176 := by kernel_rfl
theorem zr63 : zrOf Tryz.prog 63 = some (.agg [.int .i64 (0), .int .u64 (0), .int .u32 (0), .int .u64 (0), .int .u64 (0), .int .u32 (0), .int .u32 (0), .int .i64 (0), .int .i64 (0), .int .u32 (0), .slice none 0 0, .slice none 0 0, .slice none 0 0, .slice none 0 0, .int .u32 (0)].toArray) := by kernel_rfl
theorem g64 : aggOf Tryz.prog 64 = some false := by kernel_rfl
theorem z64 : szOf Tryz.prog 64 = some 1 := by kernel_rfl
theorem by64 : byOf Tryz.prog 64 = some 8 := by kernel_rfl
theorem zr64 : zrOf Tryz.prog 64 = some (.nilFunc) := by kernel_rfl
theorem g65 : aggOf Tryz.prog 65 = some false := by kernel_rfl
theorem z65 : szOf Tryz.prog 65 = some 1 := by kernel_rfl
theorem by65 : byOf Tryz.prog 65 = some 8 := by kernel_rfl
theorem zr65 : zrOf Tryz.prog 65 = some (.nilFunc) := by kernel_rfl
theorem g66 : aggOf Tryz.prog 66 = some false := by kernel_rfl
theorem z66 : szOf Tryz.prog 66 = some 1 := by kernel_rfl
theorem by66 : byOf Tryz.prog 66 = some 8 := by kernel_rfl
theorem zr66 : zrOf Tryz.prog 66 = some (.nilFunc) := by kernel_rfl
theorem g67 : aggOf Tryz.prog 67 = some false := by kernel_rfl
theorem z67 : szOf Tryz.prog 67 = some 1 := by kernel_rfl
theorem by67 : byOf Tryz.prog 67 = some 8 := by kernel_rfl
theorem zr67 : zrOf Tryz.prog 67 = some (.nilFunc) := by kernel_rfl
theorem g68 : aggOf Tryz.prog 68 = some false := by kernel_rfl
theorem z68 : szOf Tryz.prog 68 = some 1 := by kernel_rfl
theorem by68 : byOf Tryz.prog 68 = some 8 := by kernel_rfl
theorem zr68 : zrOf Tryz.prog 68 = some (.nilFunc) := by kernel_rfl
theorem g69 : aggOf Tryz.prog 69 = some false := by kernel_rfl
theorem z69 : szOf Tryz.prog 69 = some 1 := by kernel_rfl
theorem by69 : byOf Tryz.prog 69 = some 8 := by kernel_rfl
theorem zr69 : zrOf Tryz.prog 69 = some (.nilFunc) := by kernel_rfl
theorem g70 : aggOf Tryz.prog 70 = some false := by kernel_rfl
theorem z70 : szOf Tryz.prog 70 = some 1 := by kernel_rfl
theorem by70 : byOf Tryz.prog 70 = some 8 := by kernel_rfl
theorem zr70 : zrOf Tryz.prog 70 = some (.pointer none) := by kernel_rfl
theorem g71 : aggOf Tryz.prog 71 = some false := by kernel_rfl
theorem z71 : szOf Tryz.prog 71 = some 1 := by kernel_rfl
theorem by71 : byOf Tryz.prog 71 = some 8 := by kernel_rfl
theorem zr71 : zrOf Tryz.prog 71 = some (.map none) := by kernel_rfl
theorem g72 : aggOf Tryz.prog 72 = some false := by kernel_rfl
theorem z72 : szOf Tryz.prog 72 = some 1 := by kernel_rfl
theorem by72 : byOf Tryz.prog 72 = some 8 := by kernel_rfl
theorem zr72 : zrOf Tryz.prog 72 = some (.map none) := by kernel_rfl
theorem g73 : aggOf Tryz.prog 73 = some true := by kernel_rfl
theorem z73 : szOf Tryz.prog 73 = some 3 := by kernel_rfl
theorem by73 : byOf Tryz.prog 73 = some 24 := by kernel_rfl
theorem zr73 : zrOf Tryz.prog 73 = some (.agg [.map none, .map none, .int .u32 (0)].toArray) := by kernel_rfl
theorem g74 : aggOf Tryz.prog 74 = some true := by kernel_rfl
theorem z74 : szOf Tryz.prog 74 = some 3 := by kernel_rfl
theorem by74 : byOf Tryz.prog 74 = some 24 := by kernel_rfl
theorem zr74 : zrOf Tryz.prog 74 = some (.agg [.map none, .map none, .int .u32 (0)].toArray) := by kernel_rfl
theorem g75 : aggOf Tryz.prog 75 = some false := by kernel_rfl
theorem z75 : szOf Tryz.prog 75 = some 1 := by kernel_rfl
theorem by75 : byOf Tryz.prog 75 = some 8 := by kernel_rfl
theorem zr75 : zrOf Tryz.prog 75 = some (.nilFunc) := by kernel_rfl
theorem g76 : aggOf Tryz.prog 76 = some false := by kernel_rfl
theorem z76 : szOf Tryz.prog 76 = some 1 := by kernel_rfl
theorem by76 : byOf Tryz.prog 76 = some 8 := by kernel_rfl
theorem zr76 : zrOf Tryz.prog 76 = some (.nilFunc) := by kernel_rfl
theorem g77 : aggOf Tryz.prog 77 = some false := by kernel_rfl
theorem z77 : szOf Tryz.prog 77 = some 1 := by kernel_rfl
theorem by77 : byOf Tryz.prog 77 = some 8 := by kernel_rfl
theorem zr77 : zrOf Tryz.prog 77 = some (.nilFunc) := by kernel_rfl
theorem g78 : aggOf Tryz.prog 78 = some false := by kernel_rfl
theorem z78 : szOf Tryz.prog 78 = some 1 := by kernel_rfl
theorem by78 : byOf Tryz.prog 78 = some 8 := by kernel_rfl
theorem zr78 : zrOf Tryz.prog 78 = some (.nilFunc) := by kernel_rfl
theorem g79 : aggOf Tryz.prog 79 = some false := by kernel_rfl
theorem z79 : szOf Tryz.prog 79 = some 1 := by kernel_rfl
theorem by79 : byOf Tryz.prog 79 = some 8 := by kernel_rfl
theorem zr79 : zrOf Tryz.prog 79 = some (.nilFunc) := by kernel_rfl
theorem g80 : aggOf Tryz.prog 80 = some false := by kernel_rfl
theorem z80 : szOf Tryz.prog 80 = some 1 := by kernel_rfl
theorem by80 : byOf Tryz.prog 80 = some 8 := by kernel_rfl
theorem zr80 : zrOf Tryz.prog 80 = some (.nilFunc) := by kernel_rfl
theorem g81 : aggOf Tryz.prog 81 = some false := by kernel_rfl
theorem z81 : szOf Tryz.prog 81 = some 1 := by kernel_rfl
theorem by81 : byOf Tryz.prog 81 = some 8 := by kernel_rfl
theorem zr81 : zrOf Tryz.prog 81 = some (.nilFunc) := by kernel_rfl
theorem g82 : aggOf Tryz.prog 82 = some true := by kernel_rfl
theorem z82 : szOf Tryz.prog 82 = some 3 := by kernel_rfl
theorem by82 : byOf Tryz.prog 82 = some 56 := by kernel_rfl
theorem zr82 : zrOf Tryz.prog 82 = some (.agg [.slice none 0 0, .slice none 0 0, .int .u32 (0)].toArray) := by kernel_rfl
theorem g83 : aggOf Tryz.prog 83 = some true := by kernel_rfl
theorem z83 : szOf Tryz.prog 83 = some 3 := by kernel_rfl
theorem by83 : byOf Tryz.prog 83 = some 56 := by kernel_rfl
theorem zr83 : zrOf Tryz.prog 83 = some (.agg [.slice none 0 0, .slice none 0 0, .int .u32 (0)].toArray) := by kernel_rfl
theorem g84 : aggOf Tryz.prog 84 = some false := by kernel_rfl
theorem z84 : szOf Tryz.prog 84 = some 1 := by kernel_rfl
theorem by84 : byOf Tryz.prog 84 = some 8 := by kernel_rfl
theorem zr84 : zrOf Tryz.prog 84 = some (.nilFunc) := by kernel_rfl
theorem g85 : aggOf Tryz.prog 85 = some false := by kernel_rfl
theorem z85 : szOf Tryz.prog 85 = some 1 := by kernel_rfl
theorem by85 : byOf Tryz.prog 85 = some 8 := by kernel_rfl
theorem zr85 : zrOf Tryz.prog 85 = some (.nilFunc) := by kernel_rfl
theorem g86 : aggOf Tryz.prog 86 = some false := by kernel_rfl
theorem z86 : szOf Tryz.prog 86 = some 1 := by kernel_rfl
theorem by86 : byOf Tryz.prog 86 = some 8 := by kernel_rfl
theorem zr86 : zrOf Tryz.prog 86 = some (.nilFunc) := by kernel_rfl
theorem g87 : aggOf Tryz.prog 87 = some false := by kernel_rfl
theorem z87 : szOf Tryz.prog 87 = some 1 := by kernel_rfl
theorem by87 : byOf Tryz.prog 87 = some 8 := by kernel_rfl
theorem zr87 : zrOf Tryz.prog 87 = some (.nilFunc) := by kernel_rfl
theorem g88 : aggOf Tryz.prog 88 = some false := by kernel_rfl
theorem z88 : szOf Tryz.prog 88 = some 1 := by kernel_rfl
theorem by88 : byOf Tryz.prog 88 = some 8 := by kernel_rfl
theorem zr88 : zrOf Tryz.prog 88 = some (.nilFunc) := by kernel_rfl
theorem g89 : aggOf Tryz.prog 89 = some false := by kernel_rfl
theorem z89 : szOf Tryz.prog 89 = some 1 := by kernel_rfl
theorem by89 : byOf Tryz.prog 89 = some 8 := by kernel_rfl
theorem zr89 : zrOf Tryz.prog 89 = some (.nilFunc) := by kernel_rfl
theorem g91 : aggOf Tryz.prog 91 = some false := by kernel_rfl
theorem z91 : szOf Tryz.prog 91 = some 1 := by kernel_rfl
theorem by91 : byOf Tryz.prog 91 = some 8 := by kernel_rfl
theorem zr91 : zrOf Tryz.prog 91 = some (.nilFunc) := by kernel_rfl
theorem g92 : aggOf Tryz.prog 92 = some false := by kernel_rfl
theorem z92 : szOf Tryz.prog 92 = some 1 := by kernel_rfl
theorem by92 : byOf Tryz.prog 92 = some 8 := by kernel_rfl
theorem zr92 : zrOf Tryz.prog 92 = some (.nilFunc) := by kernel_rfl
theorem g93 : aggOf Tryz.prog 93 = some false := by kernel_rfl
theorem z93 : szOf Tryz.prog 93 = some 1 := by kernel_rfl
theorem by93 : byOf Tryz.prog 93 = some 8 := by kernel_rfl
theorem zr93 : zrOf Tryz.prog 93 = some (.nilFunc) := by kernel_rfl
theorem g94 : aggOf Tryz.prog 94 = some false := by kernel_rfl
theorem z94 : szOf Tryz.prog 94 = some 1 := by kernel_rfl
theorem by94 : byOf Tryz.prog 94 = some 8 := by kernel_rfl
theorem zr94 : zrOf Tryz.prog 94 = some (.nilFunc) := by kernel_rfl
theorem g95 : aggOf Tryz.prog 95 = some false := by kernel_rfl
theorem z95 : szOf Tryz.prog 95 = some 1 := by kernel_rfl
theorem by95 : byOf Tryz.prog 95 = some 8 := by kernel_rfl
theorem zr95 : zrOf Tryz.prog 95 = some (.nilFunc) := by kernel_rfl
theorem g96 : aggOf Tryz.prog 96 = some false := by kernel_rfl
theorem z96 : szOf Tryz.prog 96 = some 1 := by kernel_rfl
theorem by96 : byOf Tryz.prog 96 = some 8 := by kernel_rfl
theorem zr96 : zrOf Tryz.prog 96 = some (.nilFunc) := by kernel_rfl
theorem g98 : aggOf Tryz.prog 98 = some false := by kernel_rfl
theorem z98 : szOf Tryz.prog 98 = some 1 := by kernel_rfl
theorem by98 : byOf Tryz.prog 98 = some 8 := by kernel_rfl
theorem zr98 : zrOf Tryz.prog 98 = some (.nilFunc) := by kernel_rfl
theorem g99 : aggOf Tryz.prog 99 = some false := by kernel_rfl
theorem z99 : szOf Tryz.prog 99 = some 1 := by kernel_rfl
theorem by99 : byOf Tryz.prog 99 = some 8 := by kernel_rfl
theorem zr99 : zrOf Tryz.prog 99 = some (.nilFunc) := by kernel_rfl
theorem g100 : aggOf Tryz.prog 100 = some false := by kernel_rfl
theorem z100 : szOf Tryz.prog 100 = some 1 := by kernel_rfl
theorem by100 : byOf Tryz.prog 100 = some 8 := by kernel_rfl
theorem zr100 : zrOf Tryz.prog 100 = some (.nilFunc) := by kernel_rfl
theorem g101 : aggOf Tryz.prog 101 = some false := by kernel_rfl
theorem z101 : szOf Tryz.prog 101 = some 1 := by kernel_rfl
theorem by101 : byOf Tryz.prog 101 = some 8 := by kernel_rfl
theorem zr101 : zrOf Tryz.prog 101 = some (.int .u64 (0)) := by kernel_rfl
theorem g102 : aggOf Tryz.prog 102 = some false := by kernel_rfl
theorem z102 : szOf Tryz.prog 102 = some 1 := by kernel_rfl
theorem by102 : byOf Tryz.prog 102 = some 8 := by kernel_rfl
theorem zr102 : zrOf Tryz.prog 102 = some (.nilFunc) := by kernel_rfl
theorem g103 : aggOf Tryz.prog 103 = some false := by kernel_rfl
theorem z103 : szOf Tryz.prog 103 = some 1 := by kernel_rfl
theorem by103 : byOf Tryz.prog 103 = some 8 := by kernel_rfl
theorem zr103 : zrOf Tryz.prog 103 = some (.nilFunc) := by kernel_rfl
theorem g104 : aggOf Tryz.prog 104 = some false := by kernel_rfl
theorem z104 : szOf Tryz.prog 104 = some 1 := by kernel_rfl
theorem by104 : byOf Tryz.prog 104 = some 8 := by kernel_rfl
theorem zr104 : zrOf Tryz.prog 104 = some (.nilFunc) := by kernel_rfl
theorem g107 : aggOf Tryz.prog 107 = some false := by kernel_rfl
theorem z107 : szOf Tryz.prog 107 = some 1 := by kernel_rfl
theorem by107 : byOf Tryz.prog 107 = some 8 := by kernel_rfl
theorem zr107 : zrOf Tryz.prog 107 = some (.nilFunc) := by kernel_rfl
theorem g108 : aggOf Tryz.prog 108 = some false := by kernel_rfl
theorem z108 : szOf Tryz.prog 108 = some 1 := by kernel_rfl
theorem by108 : byOf Tryz.prog 108 = some 8 := by kernel_rfl
theorem zr108 : zrOf Tryz.prog 108 = some (.nilFunc) := by kernel_rfl
theorem g110 : aggOf Tryz.prog 110 = some false := by kernel_rfl
theorem z110 : szOf Tryz.prog 110 = some 1 := by kernel_rfl
theorem by110 : byOf Tryz.prog 110 = some 8 := by kernel_rfl
theorem zr110 : zrOf Tryz.prog 110 = some (.nilFunc) := by kernel_rfl
theorem g111 : aggOf Tryz.prog 111 = some false := by kernel_rfl
theorem z111 : szOf Tryz.prog 111 = some 1 := by kernel_rfl
theorem by111 : byOf Tryz.prog 111 = some 8 := by kernel_rfl
theorem zr111 : zrOf Tryz.prog 111 = some (.nilFunc) := by kernel_rfl
theorem g114 : aggOf Tryz.prog 114 = some false := by kernel_rfl
theorem z114 : szOf Tryz.prog 114 = some 1 := by kernel_rfl
theorem by114 : byOf Tryz.prog 114 = some 8 := by kernel_rfl
theorem zr114 : zrOf Tryz.prog 114 = some (.nilFunc) := by kernel_rfl
theorem g115 : aggOf Tryz.prog 115 = some false := by kernel_rfl
theorem z115 : szOf Tryz.prog 115 = some 1 := by kernel_rfl
theorem by115 : byOf Tryz.prog 115 = some 24 := by kernel_rfl
theorem zr115 : zrOf Tryz.prog 115 = some (.slice none 0 0) := by kernel_rfl
theorem g116 : aggOf Tryz.prog 116 = some false := by kernel_rfl
theorem z116 : szOf Tryz.prog 116 = some 1 := by kernel_rfl
theorem by116 : byOf Tryz.prog 116 = some 8 := by kernel_rfl
theorem zr116 : zrOf Tryz.prog 116 = some (.nilFunc) := by kernel_rfl
theorem g118 : aggOf Tryz.prog 118 = some false := by kernel_rfl
theorem z118 : szOf Tryz.prog 118 = some 1 := by kernel_rfl
theorem by118 : byOf Tryz.prog 118 = some 8 := by kernel_rfl
theorem zr118 : zrOf Tryz.prog 118 = some (.nilFunc) := by kernel_rfl
theorem g119 : aggOf Tryz.prog 119 = some false := by kernel_rfl
theorem z119 : szOf Tryz.prog 119 = some 1 := by kernel_rfl
theorem by119 : byOf Tryz.prog 119 = some 8 := by kernel_rfl
theorem zr119 : zrOf Tryz.prog 119 = some (.nilFunc) := by kernel_rfl
theorem g120 : aggOf Tryz.prog 120 = some false := by kernel_rfl
theorem z120 : szOf Tryz.prog 120 = some 1 := by kernel_rfl
theorem by120 : byOf Tryz.prog 120 = some 8 := by kernel_rfl
theorem zr120 : zrOf Tryz.prog 120 = some (.nilFunc) := by kernel_rfl
theorem g122 : aggOf Tryz.prog 122 = some false := by kernel_rfl
theorem z122 : szOf Tryz.prog 122 = some 1 := by kernel_rfl
theorem by122 : byOf Tryz.prog 122 = some 8 := by kernel_rfl
theorem zr122 : zrOf Tryz.prog 122 = some (.nilFunc) := by kernel_rfl
theorem g124 : aggOf Tryz.prog 124 = some false := by kernel_rfl
theorem z124 : szOf Tryz.prog 124 = some 1 := by kernel_rfl
theorem by124 : byOf Tryz.prog 124 = some 8 := by kernel_rfl
theorem zr124 : zrOf Tryz.prog 124 = some (.nilFunc) := by kernel_rfl
theorem g125 : aggOf Tryz.prog 125 = some false := by kernel_rfl
theorem z125 : szOf Tryz.prog 125 = some 1 := by kernel_rfl
theorem by125 : byOf Tryz.prog 125 = some 8 := by kernel_rfl
theorem zr125 : zrOf Tryz.prog 125 = some (.int .i64 (0)) := by kernel_rfl
theorem g129 : aggOf Tryz.prog 129 = some false := by kernel_rfl
theorem z129 : szOf Tryz.prog 129 = some 1 := by kernel_rfl
theorem by129 : byOf Tryz.prog 129 = some 8 := by kernel_rfl
theorem zr129 : zrOf Tryz.prog 129 = some (.nilFunc) := by kernel_rfl
theorem g130 : aggOf Tryz.prog 130 = some false := by kernel_rfl
theorem z130 : szOf Tryz.prog 130 = some 1 := by kernel_rfl
theorem by130 : byOf Tryz.prog 130 = some 8 := by kernel_rfl
theorem zr130 : zrOf Tryz.prog 130 = some (.nilFunc) := by kernel_rfl
theorem g135 : aggOf Tryz.prog 135 = some false := by kernel_rfl
theorem z135 : szOf Tryz.prog 135 = some 1 := by kernel_rfl
theorem by135 : byOf Tryz.prog 135 = some 8 := by kernel_rfl
theorem zr135 : zrOf Tryz.prog 135 = some (.nilFunc) := by kernel_rfl
theorem g136 : aggOf Tryz.prog 136 = some false := by kernel_rfl
theorem z136 : szOf Tryz.prog 136 = some 1 := by kernel_rfl
theorem by136 : byOf Tryz.prog 136 = some 8 := by kernel_rfl
theorem zr136 : zrOf Tryz.prog 136 = some (.nilFunc) := by kernel_rfl
theorem g138 : aggOf Tryz.prog 138 = some false := by kernel_rfl
theorem z138 : szOf Tryz.prog 138 = some 1 := by kernel_rfl
theorem by138 : byOf Tryz.prog 138 = some 8 := by kernel_rfl
theorem zr138 : zrOf Tryz.prog 138 = some (.nilFunc) := by kernel_rfl
theorem g140 : aggOf Tryz.prog 140 = some false := by kernel_rfl
theorem z140 : szOf Tryz.prog 140 = some 1 := by kernel_rfl
theorem by140 : byOf Tryz.prog 140 = some 8 := by kernel_rfl
theorem zr140 : zrOf Tryz.prog 140 = some (.nilFunc) := by kernel_rfl
theorem g141 : aggOf Tryz.prog 141 = some false := by kernel_rfl
theorem z141 : szOf Tryz.prog 141 = some 1 := by kernel_rfl
theorem by141 : byOf Tryz.prog 141 = some 8 := by kernel_rfl
theorem zr141 : zrOf Tryz.prog 141 = some (.nilFunc) := by kernel_rfl
theorem g143 : aggOf Tryz.prog 143 = some false := by kernel_rfl
theorem z143 : szOf Tryz.prog 143 = some 1 := by kernel_rfl
theorem by143 : byOf Tryz.prog 143 = some 8 := by kernel_rfl
theorem zr143 : zrOf Tryz.prog 143 = some (.pointer none) := by kernel_rfl
theorem g148 : aggOf Tryz.prog 148 = some false := by kernel_rfl
theorem z148 : szOf Tryz.prog 148 = some 1 := by kernel_rfl
theorem by148 : byOf Tryz.prog 148 = some 8 := by kernel_rfl
theorem zr148 : zrOf Tryz.prog 148 = some (.nilFunc) := by kernel_rfl
theorem g150 : aggOf Tryz.prog 150 = some false := by kernel_rfl
theorem z150 : szOf Tryz.prog 150 = some 1 := by kernel_rfl
theorem by150 : byOf Tryz.prog 150 = some 8 := by kernel_rfl
theorem zr150 : zrOf Tryz.prog 150 = some (.nilFunc) := by kernel_rfl
theorem g151 : aggOf Tryz.prog 151 = some false := by kernel_rfl
theorem z151 : szOf Tryz.prog 151 = some 1 := by kernel_rfl
theorem by151 : byOf Tryz.prog 151 = some 8 := by kernel_rfl
theorem zr151 : zrOf Tryz.prog 151 = some (.int .u64 (0)) := by kernel_rfl
theorem g154 : aggOf Tryz.prog 154 = some false := by kernel_rfl
theorem z154 : szOf Tryz.prog 154 = some 1 := by kernel_rfl
theorem by154 : byOf Tryz.prog 154 = some 8 := by kernel_rfl
theorem zr154 : zrOf Tryz.prog 154 = some (.nilFunc) := by kernel_rfl
theorem g155 : aggOf Tryz.prog 155 = some false := by kernel_rfl
theorem z155 : szOf Tryz.prog 155 = some 1 := by kernel_rfl
theorem by155 : byOf Tryz.prog 155 = some 8 := by kernel_rfl
theorem zr155 : zrOf Tryz.prog 155 = some (.pointer none) := by kernel_rfl
theorem g156 : aggOf Tryz.prog 156 = some false := by kernel_rfl
theorem z156 : szOf Tryz.prog 156 = some 1 := by kernel_rfl
theorem by156 : byOf Tryz.prog 156 = some 8 := by kernel_rfl
theorem zr156 : zrOf Tryz.prog 156 = some (.nilFunc) := by kernel_rfl
theorem g158 : aggOf Tryz.prog 158 = some false := by kernel_rfl
theorem z158 : szOf Tryz.prog 158 = some 1 := by kernel_rfl
theorem by158 : byOf Tryz.prog 158 = some 8 := by kernel_rfl
theorem zr158 : zrOf Tryz.prog 158 = some (.nilFunc) := by kernel_rfl
theorem g159 : aggOf Tryz.prog 159 = some false := by kernel_rfl
theorem z159 : szOf Tryz.prog 159 = some 1 := by kernel_rfl
theorem by159 : byOf Tryz.prog 159 = some 8 := by kernel_rfl
theorem zr159 : zrOf Tryz.prog 159 = some (.nilFunc) := by kernel_rfl
theorem g160 : aggOf Tryz.prog 160 = some false := by kernel_rfl
theorem z160 : szOf Tryz.prog 160 = some 1 := by kernel_rfl
theorem by160 : byOf Tryz.prog 160 = some 8 := by kernel_rfl
theorem zr160 : zrOf Tryz.prog 160 = some (.nilFunc) := by kernel_rfl
theorem g163 : aggOf Tryz.prog 163 = some true := by kernel_rfl
theorem z163 : szOf Tryz.prog 163 = some 2 := by kernel_rfl
theorem by163 : byOf Tryz.prog 163 = some 32 := by kernel_rfl
theorem zr163 : zrOf Tryz.prog 163 = some (.agg [.bool false, .slice none 0 0].toArray) := by kernel_rfl
theorem g164 : aggOf Tryz.prog 164 = some true := by kernel_rfl
theorem z164 : szOf Tryz.prog 164 = some 2 := by kernel_rfl
theorem by164 : byOf Tryz.prog 164 = some 32 := by kernel_rfl
theorem zr164 : zrOf Tryz.prog 164 = some (.agg [.bool false, .slice none 0 0].toArray) := by kernel_rfl
theorem g166 : aggOf Tryz.prog 166 = some true := by kernel_rfl
theorem z166 : szOf Tryz.prog 166 = some 2 := by kernel_rfl
theorem by166 : byOf Tryz.prog 166 = some 32 := by kernel_rfl
theorem zr166 : zrOf Tryz.prog 166 = some (.agg [.bool false, .slice none 0 0].toArray) := by kernel_rfl
theorem g168 : aggOf Tryz.prog 168 = some false := by kernel_rfl
theorem z168 : szOf Tryz.prog 168 = some 1 := by kernel_rfl
theorem by168 : byOf Tryz.prog 168 = some 8 := by kernel_rfl
theorem zr168 : zrOf Tryz.prog 168 = some (.nilFunc) := by kernel_rfl
theorem g169 : aggOf Tryz.prog 169 = some false := by kernel_rfl
theorem z169 : szOf Tryz.prog 169 = some 1 := by kernel_rfl
theorem by169 : byOf Tryz.prog 169 = some 8 := by kernel_rfl
theorem zr169 : zrOf Tryz.prog 169 = some (.pointer none) := by kernel_rfl
theorem g172 : aggOf Tryz.prog 172 = some false := by kernel_rfl
theorem z172 : szOf Tryz.prog 172 = some 1 := by kernel_rfl
theorem by172 : byOf Tryz.prog 172 = some 8 := by kernel_rfl
theorem zr172 : zrOf Tryz.prog 172 = some (.nilFunc) := by kernel_rfl
theorem g173 : aggOf Tryz.prog 173 = some false := by kernel_rfl
theorem z173 : szOf Tryz.prog 173 = some 1 := by kernel_rfl
theorem by173 : byOf Tryz.prog 173 = some 8 := by kernel_rfl
theorem zr173 : zrOf Tryz.prog 173 = some (.nilFunc) := by kernel_rfl
theorem g174 : aggOf Tryz.prog 174 = some false := by kernel_rfl
theorem z174 : szOf Tryz.prog 174 = some 1 := by kernel_rfl
theorem by174 : byOf Tryz.prog 174 = some 8 := by kernel_rfl
theorem zr174 : zrOf Tryz.prog 174 = some (.nilFunc) := by kernel_rfl
theorem g176 : aggOf Tryz.prog 176 = some false := by kernel_rfl
theorem z176 : szOf Tryz.prog 176 = some 1 := by kernel_rfl
theorem by176 : byOf Tryz.prog 176 = some 8 := by kernel_rfl
theorem zr176 : zrOf Tryz.prog 176 = some (.nilFunc) := by kernel_rfl
theorem g177 : aggOf Tryz.prog 177 = some true := by kernel_rfl
theorem z177 : szOf Tryz.prog 177 = some 4 := by kernel_rfl
theorem by177 : byOf Tryz.prog 177 = some 40 := by kernel_rfl
theorem zr177 : zrOf Tryz.prog 177 = some (.agg [.pointer none, .pointer none, .pointer none, .string ⟨#[]⟩].toArray) := by kernel_rfl
theorem g178 : aggOf Tryz.prog 178 = some true := by kernel_rfl
theorem z178 : szOf Tryz.prog 178 = some 4 := by kernel_rfl
theorem by178 : byOf Tryz.prog 178 = some 40 := by kernel_rfl
theorem zr178 : zrOf Tryz.prog 178 = some (.agg [.pointer none, .pointer none, .pointer none, .string ⟨#[]⟩].toArray) := by kernel_rfl
theorem g179 : aggOf Tryz.prog 179 = some true := by kernel_rfl
theorem z179 : szOf Tryz.prog 179 = some 0 := by kernel_rfl
theorem by179 : byOf Tryz.prog 179 = some 0 := by kernel_rfl
theorem zr179 : zrOf Tryz.prog 179 = some (.agg [].toArray) := by kernel_rfl
theorem g181 : aggOf Tryz.prog 181 = some true := by kernel_rfl
theorem z181 : szOf Tryz.prog 181 = some 0 := by kernel_rfl
theorem by181 : byOf Tryz.prog 181 = some 0 := by kernel_rfl
theorem zr181 : zrOf Tryz.prog 181 = some (.agg [].toArray) := by kernel_rfl
theorem g182 : aggOf Tryz.prog 182 = some false := by kernel_rfl
theorem z182 : szOf Tryz.prog 182 = some 1 := by kernel_rfl
theorem by182 : byOf Tryz.prog 182 = some 8 := by kernel_rfl
theorem zr182 : zrOf Tryz.prog 182 = some (.nilFunc) := by kernel_rfl
theorem g183 : aggOf Tryz.prog 183 = some false := by kernel_rfl
theorem z183 : szOf Tryz.prog 183 = some 1 := by kernel_rfl
theorem by183 : byOf Tryz.prog 183 = some 1 := by kernel_rfl
theorem zr183 : zrOf Tryz.prog 183 = some (.int .u8 (0)) := by kernel_rfl
theorem g184 : aggOf Tryz.prog 184 = some false := by kernel_rfl
theorem z184 : szOf Tryz.prog 184 = some 1 := by kernel_rfl
theorem by184 : byOf Tryz.prog 184 = some 1 := by kernel_rfl
theorem zr184 : zrOf Tryz.prog 184 = some (.int .u8 (0)) := by kernel_rfl
theorem g185 : aggOf Tryz.prog 185 = some false := by kernel_rfl
theorem z185 : szOf Tryz.prog 185 = some 1 := by kernel_rfl
theorem by185 : byOf Tryz.prog 185 = some 8 := by kernel_rfl
theorem zr185 : zrOf Tryz.prog 185 = some (.nilFunc) := by kernel_rfl
theorem g186 : aggOf Tryz.prog 186 = some false := by kernel_rfl
theorem z186 : szOf Tryz.prog 186 = some 1 := by kernel_rfl
theorem by186 : byOf Tryz.prog 186 = some 8 := by kernel_rfl
theorem zr186 : zrOf Tryz.prog 186 = some (.pointer none) := by kernel_rfl
theorem g187 : aggOf Tryz.prog 187 = some false := by kernel_rfl
theorem z187 : szOf Tryz.prog 187 = some 1 := by kernel_rfl
theorem by187 : byOf Tryz.prog 187 = some 4 := by kernel_rfl
theorem zr187 : zrOf Tryz.prog 187 = some (.int .i32 (0)) := by kernel_rfl
theorem g188 : aggOf Tryz.prog 188 = some false := by kernel_rfl
theorem z188 : szOf Tryz.prog 188 = some 1 := by kernel_rfl
theorem by188 : byOf Tryz.prog 188 = some 4 := by kernel_rfl
theorem zr188 : zrOf Tryz.prog 188 = some (.int .i32 (0)) := by kernel_rfl
theorem g190 : aggOf Tryz.prog 190 = some true := by kernel_rfl
theorem z190 : szOf Tryz.prog 190 = some 11 := by kernel_rfl
theorem by190 : byOf Tryz.prog 190 = some 48 := by kernel_rfl
theorem zr190 : zrOf Tryz.prog 190 = some (.agg [.int .u64 (0), .int .u64 (0), .int .u32 (0), .int .u8 (0), .int .u8 (0), .int .u8 (0), .int .u8 (0), .nilFunc, .pointer none, .int .i32 (0), .int .i32 (0)].toArray) := by kernel_rfl
theorem g192 : aggOf Tryz.prog 192 = some false := by kernel_rfl
theorem z192 : szOf Tryz.prog 192 = some 1 := by kernel_rfl
theorem by192 : byOf Tryz.prog 192 = some 8 := by kernel_rfl
theorem zr192 : zrOf Tryz.prog 192 = some (.pointer none) := by kernel_rfl
theorem fo38_0 : fldOff Tryz.prog 38 0 = some (0, 29, 1) := by kernel_rfl
theorem fo38_1 : fldOff Tryz.prog 38 1 = some (1, 23, 1) := by kernel_rfl
theorem fo38_2 : fldOff Tryz.prog 38 2 = some (2, 23, 1) := by kernel_rfl
theorem fo38_3 : fldOff Tryz.prog 38 3 = some (3, 4, 1) := by kernel_rfl
theorem fo40_0 : fldOff Tryz.prog 40 0 = some (0, 29, 1) := by kernel_rfl
theorem fo40_1 : fldOff Tryz.prog 40 1 = some (1, 23, 1) := by kernel_rfl
theorem fo50_0 : fldOff Tryz.prog 50 0 = some (0, 3, 1) := by kernel_rfl
theorem fo50_1 : fldOff Tryz.prog 50 1 = some (1, 23, 1) := by kernel_rfl
theorem fo50_2 : fldOff Tryz.prog 50 2 = some (2, 29, 1) := by kernel_rfl
theorem fo50_3 : fldOff Tryz.prog 50 3 = some (3, 48, 1) := by kernel_rfl
theorem fo52_0 : fldOff Tryz.prog 52 0 = some (0, 29, 1) := by kernel_rfl
theorem fo52_1 : fldOff Tryz.prog 52 1 = some (1, 50, 4) := by kernel_rfl
theorem fo55_0 : fldOff Tryz.prog 55 0 = some (0, 4, 1) := by kernel_rfl
theorem fo55_1 : fldOff Tryz.prog 55 1 = some (1, 29, 1) := by kernel_rfl
theorem fo55_2 : fldOff Tryz.prog 55 2 = some (2, 53, 1) := by kernel_rfl
theorem fo61_0 : fldOff Tryz.prog 61 0 = some (0, 3, 1) := by kernel_rfl
theorem fo61_1 : fldOff Tryz.prog 61 1 = some (1, 3, 1) := by kernel_rfl
theorem fo61_2 : fldOff Tryz.prog 61 2 = some (2, 29, 1) := by kernel_rfl
theorem fo61_3 : fldOff Tryz.prog 61 3 = some (3, 53, 1) := by kernel_rfl
theorem fo63_0 : fldOff Tryz.prog 63 0 = some (0, 3, 1) := by kernel_rfl
theorem fo63_1 : fldOff Tryz.prog 63 1 = some (1, 23, 1) := by kernel_rfl
theorem fo63_2 : fldOff Tryz.prog 63 2 = some (2, 29, 1) := by kernel_rfl
theorem fo63_3 : fldOff Tryz.prog 63 3 = some (3, 23, 1) := by kernel_rfl
theorem fo63_4 : fldOff Tryz.prog 63 4 = some (4, 23, 1) := by kernel_rfl
theorem fo63_5 : fldOff Tryz.prog 63 5 = some (5, 29, 1) := by kernel_rfl
theorem fo63_6 : fldOff Tryz.prog 63 6 = some (6, 29, 1) := by kernel_rfl
theorem fo63_7 : fldOff Tryz.prog 63 7 = some (7, 61, 4) := by kernel_rfl
theorem fo63_8 : fldOff Tryz.prog 63 8 = some (11, 43, 1) := by kernel_rfl
theorem fo63_9 : fldOff Tryz.prog 63 9 = some (12, 27, 1) := by kernel_rfl
theorem fo63_10 : fldOff Tryz.prog 63 10 = some (13, 28, 1) := by kernel_rfl
theorem fo63_11 : fldOff Tryz.prog 63 11 = some (14, 29, 1) := by kernel_rfl
theorem fo74_0 : fldOff Tryz.prog 74 0 = some (0, 71, 1) := by kernel_rfl
theorem fo74_1 : fldOff Tryz.prog 74 1 = some (1, 72, 1) := by kernel_rfl
theorem fo74_2 : fldOff Tryz.prog 74 2 = some (2, 29, 1) := by kernel_rfl
theorem fo83_0 : fldOff Tryz.prog 83 0 = some (0, 27, 1) := by kernel_rfl
theorem fo83_1 : fldOff Tryz.prog 83 1 = some (1, 28, 1) := by kernel_rfl
theorem fo83_2 : fldOff Tryz.prog 83 2 = some (2, 29, 1) := by kernel_rfl
theorem fo164_0 : fldOff Tryz.prog 164 0 = some (0, 4, 1) := by kernel_rfl
theorem fo164_1 : fldOff Tryz.prog 164 1 = some (1, 53, 1) := by kernel_rfl
theorem fo166_0 : fldOff Tryz.prog 166 0 = some (0, 164, 2) := by kernel_rfl
theorem pl38 : placesOf Tryz.prog 38 = some [(0, 1), (1, 1), (2, 1), (3, 1)] := by kernel_rfl
theorem pl40 : placesOf Tryz.prog 40 = some [(0, 1), (1, 1)] := by kernel_rfl
theorem pl50 : placesOf Tryz.prog 50 = some [(0, 1), (1, 1), (2, 1), (3, 1)] := by kernel_rfl
theorem pl52 : placesOf Tryz.prog 52 = some [(0, 1), (1, 4)] := by kernel_rfl
theorem pl55 : placesOf Tryz.prog 55 = some [(0, 1), (1, 1), (2, 1)] := by kernel_rfl
theorem pl61 : placesOf Tryz.prog 61 = some [(0, 1), (1, 1), (2, 1), (3, 1)] := by kernel_rfl
theorem pl63 : placesOf Tryz.prog 63 = some [(0, 1), (1, 1), (2, 1), (3, 1), (4, 1), (5, 1), (6, 1), (7, 4), (11, 1), (12, 1), (13, 1), (14, 1)] := by kernel_rfl
theorem pl74 : placesOf Tryz.prog 74 = some [(0, 1), (1, 1), (2, 1)] := by kernel_rfl
theorem pl83 : placesOf Tryz.prog 83 = some [(0, 1), (1, 1), (2, 1)] := by kernel_rfl
theorem pl164 : placesOf Tryz.prog 164 = some [(0, 1), (1, 1)] := by kernel_rfl
theorem pl166 : placesOf Tryz.prog 166 = some [(0, 2)] := by kernel_rfl
theorem cal3 : Callable Tryz.prog 3 := callable_of Tryz.func3 rfl (by kernel_rfl)
theorem cal4 : Callable Tryz.prog 4 := callable_of Tryz.func4 rfl (by kernel_rfl)
theorem cal5 : Callable Tryz.prog 5 := callable_of Tryz.func5 rfl (by kernel_rfl)
theorem cal6 : Callable Tryz.prog 6 := callable_of Tryz.func6 rfl (by kernel_rfl)
theorem cal7 : Callable Tryz.prog 7 := callable_of Tryz.func7 rfl (by kernel_rfl)
theorem cal8 : Callable Tryz.prog 8 := callable_of Tryz.func8 rfl (by kernel_rfl)
theorem cal9 : Callable Tryz.prog 9 := callable_of Tryz.func9 rfl (by kernel_rfl)
theorem cal10 : Callable Tryz.prog 10 := callable_of Tryz.func10 rfl (by kernel_rfl)
theorem cal11 : Callable Tryz.prog 11 := callable_of Tryz.func11 rfl (by kernel_rfl)
theorem cal12 : Callable Tryz.prog 12 := callable_of Tryz.func12 rfl (by kernel_rfl)
theorem cal13 : Callable Tryz.prog 13 := callable_of Tryz.func13 rfl (by kernel_rfl)
theorem cal14 : Callable Tryz.prog 14 := callable_of Tryz.func14 rfl (by kernel_rfl)
theorem cal15 : Callable Tryz.prog 15 := callable_of Tryz.func15 rfl (by kernel_rfl)
theorem cal16 : Callable Tryz.prog 16 := callable_of Tryz.func16 rfl (by kernel_rfl)
theorem cal17 : Callable Tryz.prog 17 := callable_of Tryz.func17 rfl (by kernel_rfl)
theorem cal18 : Callable Tryz.prog 18 := callable_of Tryz.func18 rfl (by kernel_rfl)
theorem cal19 : Callable Tryz.prog 19 := callable_of Tryz.func19 rfl (by kernel_rfl)
theorem cal20 : Callable Tryz.prog 20 := callable_of Tryz.func20 rfl (by kernel_rfl)
theorem cal21 : Callable Tryz.prog 21 := callable_of Tryz.func21 rfl (by kernel_rfl)
theorem cal22 : Callable Tryz.prog 22 := callable_of Tryz.func22 rfl (by kernel_rfl)
theorem cal23 : Callable Tryz.prog 23 := callable_of Tryz.func23 rfl (by kernel_rfl)
theorem cal24 : Callable Tryz.prog 24 := callable_of Tryz.func24 rfl (by kernel_rfl)
theorem cal25 : Callable Tryz.prog 25 := callable_of Tryz.func25 rfl (by kernel_rfl)
theorem cal26 : Callable Tryz.prog 26 := callable_of Tryz.func26 rfl (by kernel_rfl)
theorem cal27 : Callable Tryz.prog 27 := callable_of Tryz.func27 rfl (by kernel_rfl)
theorem cal28 : Callable Tryz.prog 28 := callable_of Tryz.func28 rfl (by kernel_rfl)
theorem cal29 : Callable Tryz.prog 29 := callable_of Tryz.func29 rfl (by kernel_rfl)
theorem cal30 : Callable Tryz.prog 30 := callable_of Tryz.func30 rfl (by kernel_rfl)
theorem cal31 : Callable Tryz.prog 31 := callable_of Tryz.func31 rfl (by kernel_rfl)
theorem cal32 : Callable Tryz.prog 32 := callable_of Tryz.func32 rfl (by kernel_rfl)
theorem cal33 : Callable Tryz.prog 33 := callable_of Tryz.func33 rfl (by kernel_rfl)
theorem cal34 : Callable Tryz.prog 34 := callable_of Tryz.func34 rfl (by kernel_rfl)
theorem cal35 : Callable Tryz.prog 35 := callable_of Tryz.func35 rfl (by kernel_rfl)
theorem cal36 : Callable Tryz.prog 36 := callable_of Tryz.func36 rfl (by kernel_rfl)
theorem cal37 : Callable Tryz.prog 37 := callable_of Tryz.func37 rfl (by kernel_rfl)
theorem cal38 : Callable Tryz.prog 38 := callable_of Tryz.func38 rfl (by kernel_rfl)
theorem cal39 : Callable Tryz.prog 39 := callable_of Tryz.func39 rfl (by kernel_rfl)
theorem cal40 : Callable Tryz.prog 40 := callable_of Tryz.func40 rfl (by kernel_rfl)
theorem cal41 : Callable Tryz.prog 41 := callable_of Tryz.func41 rfl (by kernel_rfl)
theorem cal42 : Callable Tryz.prog 42 := callable_of Tryz.func42 rfl (by kernel_rfl)
theorem cal43 : Callable Tryz.prog 43 := callable_of Tryz.func43 rfl (by kernel_rfl)
theorem cal44 : Callable Tryz.prog 44 := callable_of Tryz.func44 rfl (by kernel_rfl)
theorem cal45 : Callable Tryz.prog 45 := callable_of Tryz.func45 rfl (by kernel_rfl)
theorem cal46 : Callable Tryz.prog 46 := callable_of Tryz.func46 rfl (by kernel_rfl)
theorem cal47 : Callable Tryz.prog 47 := callable_of Tryz.func47 rfl (by kernel_rfl)
theorem cal48 : Callable Tryz.prog 48 := callable_of Tryz.func48 rfl (by kernel_rfl)
theorem cal49 : Callable Tryz.prog 49 := callable_of Tryz.func49 rfl (by kernel_rfl)
theorem cal50 : Callable Tryz.prog 50 := callable_of Tryz.func50 rfl (by kernel_rfl)
theorem cal51 : Callable Tryz.prog 51 := callable_of Tryz.func51 rfl (by kernel_rfl)
theorem cal52 : Callable Tryz.prog 52 := callable_of Tryz.func52 rfl (by kernel_rfl)
theorem cal53 : Callable Tryz.prog 53 := callable_of Tryz.func53 rfl (by kernel_rfl)
theorem cal54 : Callable Tryz.prog 54 := callable_of Tryz.func54 rfl (by kernel_rfl)
theorem cal55 : Callable Tryz.prog 55 := callable_of Tryz.func55 rfl (by kernel_rfl)
theorem cal56 : Callable Tryz.prog 56 := callable_of Tryz.func56 rfl (by kernel_rfl)
theorem cal57 : Callable Tryz.prog 57 := callable_of Tryz.func57 rfl (by kernel_rfl)
theorem cal58 : Callable Tryz.prog 58 := callable_of Tryz.func58 rfl (by kernel_rfl)
theorem cal59 : Callable Tryz.prog 59 := callable_of Tryz.func59 rfl (by kernel_rfl)
theorem cal60 : Callable Tryz.prog 60 := callable_of Tryz.func60 rfl (by kernel_rfl)
theorem cal61 : Callable Tryz.prog 61 := callable_of Tryz.func61 rfl (by kernel_rfl)
theorem cal62 : Callable Tryz.prog 62 := callable_of Tryz.func62 rfl (by kernel_rfl)
theorem cal63 : Callable Tryz.prog 63 := callable_of Tryz.func63 rfl (by kernel_rfl)
theorem cal64 : Callable Tryz.prog 64 := callable_of Tryz.func64 rfl (by kernel_rfl)
theorem cal65 : Callable Tryz.prog 65 := callable_of Tryz.func65 rfl (by kernel_rfl)
theorem cal66 : Callable Tryz.prog 66 := callable_of Tryz.func66 rfl (by kernel_rfl)
theorem cal67 : Callable Tryz.prog 67 := callable_of Tryz.func67 rfl (by kernel_rfl)
theorem cal68 : Callable Tryz.prog 68 := callable_of Tryz.func68 rfl (by kernel_rfl)
theorem cal69 : Callable Tryz.prog 69 := callable_of Tryz.func69 rfl (by kernel_rfl)
theorem cal70 : Callable Tryz.prog 70 := callable_of Tryz.func70 rfl (by kernel_rfl)
theorem cal71 : Callable Tryz.prog 71 := callable_of Tryz.func71 rfl (by kernel_rfl)
theorem cal72 : Callable Tryz.prog 72 := callable_of Tryz.func72 rfl (by kernel_rfl)
theorem cal73 : Callable Tryz.prog 73 := callable_of Tryz.func73 rfl (by kernel_rfl)
theorem cal74 : Callable Tryz.prog 74 := callable_of Tryz.func74 rfl (by kernel_rfl)
theorem cal75 : Callable Tryz.prog 75 := callable_of Tryz.func75 rfl (by kernel_rfl)
theorem cal76 : Callable Tryz.prog 76 := callable_of Tryz.func76 rfl (by kernel_rfl)
theorem cal77 : Callable Tryz.prog 77 := callable_of Tryz.func77 rfl (by kernel_rfl)
theorem cal78 : Callable Tryz.prog 78 := callable_of Tryz.func78 rfl (by kernel_rfl)
theorem cal79 : Callable Tryz.prog 79 := callable_of Tryz.func79 rfl (by kernel_rfl)
theorem cal80 : Callable Tryz.prog 80 := callable_of Tryz.func80 rfl (by kernel_rfl)
theorem cal81 : Callable Tryz.prog 81 := callable_of Tryz.func81 rfl (by kernel_rfl)
theorem cal82 : Callable Tryz.prog 82 := callable_of Tryz.func82 rfl (by kernel_rfl)
theorem cal83 : Callable Tryz.prog 83 := callable_of Tryz.func83 rfl (by kernel_rfl)
theorem cal84 : Callable Tryz.prog 84 := callable_of Tryz.func84 rfl (by kernel_rfl)
theorem cal85 : Callable Tryz.prog 85 := callable_of Tryz.func85 rfl (by kernel_rfl)
theorem cal86 : Callable Tryz.prog 86 := callable_of Tryz.func86 rfl (by kernel_rfl)
theorem cal87 : Callable Tryz.prog 87 := callable_of Tryz.func87 rfl (by kernel_rfl)
theorem cal88 : Callable Tryz.prog 88 := callable_of Tryz.func88 rfl (by kernel_rfl)
theorem cal89 : Callable Tryz.prog 89 := callable_of Tryz.func89 rfl (by kernel_rfl)
theorem cal90 : Callable Tryz.prog 90 := callable_of Tryz.func90 rfl (by kernel_rfl)
theorem cal91 : Callable Tryz.prog 91 := callable_of Tryz.func91 rfl (by kernel_rfl)
theorem cal92 : Callable Tryz.prog 92 := callable_of Tryz.func92 rfl (by kernel_rfl)
theorem cal93 : Callable Tryz.prog 93 := callable_of Tryz.func93 rfl (by kernel_rfl)
theorem cal94 : Callable Tryz.prog 94 := callable_of Tryz.func94 rfl (by kernel_rfl)
theorem cal95 : Callable Tryz.prog 95 := callable_of Tryz.func95 rfl (by kernel_rfl)
theorem cal96 : Callable Tryz.prog 96 := callable_of Tryz.func96 rfl (by kernel_rfl)
theorem cal97 : Callable Tryz.prog 97 := callable_of Tryz.func97 rfl (by kernel_rfl)
theorem cal98 : Callable Tryz.prog 98 := callable_of Tryz.func98 rfl (by kernel_rfl)
theorem cal99 : Callable Tryz.prog 99 := callable_of Tryz.func99 rfl (by kernel_rfl)
theorem cal100 : Callable Tryz.prog 100 := callable_of Tryz.func100 rfl (by kernel_rfl)
theorem cal101 : Callable Tryz.prog 101 := callable_of Tryz.func101 rfl (by kernel_rfl)
theorem cal102 : Callable Tryz.prog 102 := callable_of Tryz.func102 rfl (by kernel_rfl)
theorem cal103 : Callable Tryz.prog 103 := callable_of Tryz.func103 rfl (by kernel_rfl)
theorem cal104 : Callable Tryz.prog 104 := callable_of Tryz.func104 rfl (by kernel_rfl)
theorem cal105 : Callable Tryz.prog 105 := callable_of Tryz.func105 rfl (by kernel_rfl)
theorem cal106 : Callable Tryz.prog 106 := callable_of Tryz.func106 rfl (by kernel_rfl)
theorem cal108 : Callable Tryz.prog 108 := callable_of Tryz.func108 rfl (by kernel_rfl)
theorem cal109 : Callable Tryz.prog 109 := callable_of Tryz.func109 rfl (by kernel_rfl)
theorem cal110 : Callable Tryz.prog 110 := callable_of Tryz.func110 rfl (by kernel_rfl)
theorem cal111 : Callable Tryz.prog 111 := callable_of Tryz.func111 rfl (by kernel_rfl)
theorem cal112 : Callable Tryz.prog 112 := callable_of Tryz.func112 rfl (by kernel_rfl)
theorem cal113 : Callable Tryz.prog 113 := callable_of Tryz.func113 rfl (by kernel_rfl)
theorem cal114 : Callable Tryz.prog 114 := callable_of Tryz.func114 rfl (by kernel_rfl)
theorem cal115 : Callable Tryz.prog 115 := callable_of Tryz.func115 rfl (by kernel_rfl)
theorem cal116 : Callable Tryz.prog 116 := callable_of Tryz.func116 rfl (by kernel_rfl)
theorem cal117 : Callable Tryz.prog 117 := callable_of Tryz.func117 rfl (by kernel_rfl)
theorem cal118 : Callable Tryz.prog 118 := callable_of Tryz.func118 rfl (by kernel_rfl)
theorem cal119 : Callable Tryz.prog 119 := callable_of Tryz.func119 rfl (by kernel_rfl)
theorem cal120 : Callable Tryz.prog 120 := callable_of Tryz.func120 rfl (by kernel_rfl)
theorem cal121 : Callable Tryz.prog 121 := callable_of Tryz.func121 rfl (by kernel_rfl)
theorem cal122 : Callable Tryz.prog 122 := callable_of Tryz.func122 rfl (by kernel_rfl)
theorem cal123 : Callable Tryz.prog 123 := callable_of Tryz.func123 rfl (by kernel_rfl)
theorem cal124 : Callable Tryz.prog 124 := callable_of Tryz.func124 rfl (by kernel_rfl)
theorem cal125 : Callable Tryz.prog 125 := callable_of Tryz.func125 rfl (by kernel_rfl)
theorem cal126 : Callable Tryz.prog 126 := callable_of Tryz.func126 rfl (by kernel_rfl)
theorem cal127 : Callable Tryz.prog 127 := callable_of Tryz.func127 rfl (by kernel_rfl)
theorem cal128 : Callable Tryz.prog 128 := callable_of Tryz.func128 rfl (by kernel_rfl)
theorem cal129 : Callable Tryz.prog 129 := callable_of Tryz.func129 rfl (by kernel_rfl)
theorem cal130 : Callable Tryz.prog 130 := callable_of Tryz.func130 rfl (by kernel_rfl)
theorem cal131 : Callable Tryz.prog 131 := callable_of Tryz.func131 rfl (by kernel_rfl)
theorem cal132 : Callable Tryz.prog 132 := callable_of Tryz.func132 rfl (by kernel_rfl)
theorem cal133 : Callable Tryz.prog 133 := callable_of Tryz.func133 rfl (by kernel_rfl)
theorem cal134 : Callable Tryz.prog 134 := callable_of Tryz.func134 rfl (by kernel_rfl)
theorem cal135 : Callable Tryz.prog 135 := callable_of Tryz.func135 rfl (by kernel_rfl)
theorem cal136 : Callable Tryz.prog 136 := callable_of Tryz.func136 rfl (by kernel_rfl)
theorem cal137 : Callable Tryz.prog 137 := callable_of Tryz.func137 rfl (by kernel_rfl)
theorem cal138 : Callable Tryz.prog 138 := callable_of Tryz.func138 rfl (by kernel_rfl)
theorem cal139 : Callable Tryz.prog 139 := callable_of Tryz.func139 rfl (by kernel_rfl)
theorem cal141 : Callable Tryz.prog 141 := callable_of Tryz.func141 rfl (by kernel_rfl)
theorem cal142 : Callable Tryz.prog 142 := callable_of Tryz.func142 rfl (by kernel_rfl)
theorem cal143 : Callable Tryz.prog 143 := callable_of Tryz.func143 rfl (by kernel_rfl)
def undL : List (Nat × TypeDesc) := [(2, .int .i64), (3, .int .i64), (4, .bool), (5, .int .u8), (6, .int .u8), (9, .string), (10, .string), (11, .string), (12, .int .u64), (15, .pointer 178), (16, .pointer 181), (17, .pointer 190), (21, .int .i32), (22, .slice 63), (23, .int .u64), (27, .slice 38), (28, .slice 40), (29, .int .u32), (30, .int .i64), (33, .pointer 83), (43, .slice 52), (48, .slice 55), (53, .slice 5), (70, .pointer 74), (101, .int .u64), (115, .slice 23), (125, .int .i64), (143, .pointer 166), (151, .int .u64), (155, .pointer 3), (169, .pointer 151), (179, .array 0 16), (183, .int .u8), (184, .int .u8), (186, .pointer 5), (187, .int .i32), (188, .int .i32)]
theorem und {t : TypeId} {x : TypeDesc} (h : lkL undL t = some x) : Tryz.prog.underlying t = some x := look (f := Tryz.prog.underlying) undL ⟨Tryz.underlying2, Tryz.underlying3, Tryz.underlying4, Tryz.underlying5, Tryz.underlying6, Tryz.underlying9, Tryz.underlying10, Tryz.underlying11, Tryz.underlying12, Tryz.underlying15, Tryz.underlying16, Tryz.underlying17, Tryz.underlying21, Tryz.underlying22, Tryz.underlying23, Tryz.underlying27, Tryz.underlying28, Tryz.underlying29, Tryz.underlying30, Tryz.underlying33, Tryz.underlying43, Tryz.underlying48, Tryz.underlying53, Tryz.underlying70, Tryz.underlying101, Tryz.underlying115, Tryz.underlying125, Tryz.underlying143, Tryz.underlying151, Tryz.underlying155, Tryz.underlying169, Tryz.underlying179, Tryz.underlying183, Tryz.underlying184, Tryz.underlying186, Tryz.underlying187, Tryz.underlying188, trivial⟩ h
theorem fl38 : flatD Tryz.prog 38 = some [.int .u32, .int .u64, .int .u64, .bool] := by kernel_rfl
theorem fl40 : flatD Tryz.prog 40 = some [.int .u32, .int .u64] := by kernel_rfl
def flatL : List (Nat × List TypeDesc) := [(38, [.int .u32, .int .u64, .int .u64, .bool]), (40, [.int .u32, .int .u64])]
theorem flat {t : TypeId} {x : List TypeDesc} (h : lkL flatL t = some x) : flatD Tryz.prog t = some x := look (f := flatD Tryz.prog) flatL ⟨fl38, fl40, trivial⟩ h
def aggL : List (Nat × Bool) := [(1, false), (2, false), (3, false), (4, false), (5, false), (6, false), (7, true), (8, true), (9, false), (10, false), (11, false), (12, false), (13, true), (14, true), (15, false), (16, false), (17, false), (18, true), (19, true), (20, false), (21, false), (22, false), (23, false), (24, false), (25, false), (26, false), (27, false), (28, false), (29, false), (30, false), (32, false), (33, false), (35, false), (36, false), (37, true), (38, true), (39, true), (40, true), (41, false), (42, false), (43, false), (44, false), (46, false), (47, false), (48, false), (49, true), (50, true), (51, true), (52, true), (53, false), (54, true), (55, true), (56, false), (57, false), (58, false), (59, false), (60, true), (61, true), (62, true), (63, true), (64, false), (65, false), (66, false), (67, false), (68, false), (69, false), (70, false), (71, false), (72, false), (73, true), (74, true), (75, false), (76, false), (77, false), (78, false), (79, false), (80, false), (81, false), (82, true), (83, true), (84, false), (85, false), (86, false), (87, false), (88, false), (89, false), (91, false), (92, false), (93, false), (94, false), (95, false), (96, false), (98, false), (99, false), (100, false), (101, false), (102, false), (103, false), (104, false), (107, false), (108, false), (110, false), (111, false), (114, false), (115, false), (116, false), (118, false), (119, false), (120, false), (122, false), (124, false), (125, false), (129, false), (130, false), (135, false), (136, false), (138, false), (140, false), (141, false), (143, false), (148, false), (150, false), (151, false), (154, false), (155, false), (156, false), (158, false), (159, false), (160, false), (163, true), (164, true), (166, true), (168, false), (169, false), (172, false), (173, false), (174, false), (176, false), (177, true), (178, true), (179, true), (181, true), (182, false), (183, false), (184, false), (185, false), (186, false), (187, false), (188, false), (190, true), (192, false)]
theorem agg {t : TypeId} {x : Bool} (h : lkL aggL t = some x) : aggOf Tryz.prog t = some x := look (f := aggOf Tryz.prog) aggL ⟨g1, g2, g3, g4, g5, g6, g7, g8, g9, g10, g11, g12, g13, g14, g15, g16, g17, g18, g19, g20, g21, g22, g23, g24, g25, g26, g27, g28, g29, g30, g32, g33, g35, g36, g37, g38, g39, g40, g41, g42, g43, g44, g46, g47, g48, g49, g50, g51, g52, g53, g54, g55, g56, g57, g58, g59, g60, g61, g62, g63, g64, g65, g66, g67, g68, g69, g70, g71, g72, g73, g74, g75, g76, g77, g78, g79, g80, g81, g82, g83, g84, g85, g86, g87, g88, g89, g91, g92, g93, g94, g95, g96, g98, g99, g100, g101, g102, g103, g104, g107, g108, g110, g111, g114, g115, g116, g118, g119, g120, g122, g124, g125, g129, g130, g135, g136, g138, g140, g141, g143, g148, g150, g151, g154, g155, g156, g158, g159, g160, g163, g164, g166, g168, g169, g172, g173, g174, g176, g177, g178, g179, g181, g182, g183, g184, g185, g186, g187, g188, g190, g192, trivial⟩ h
def szL : List (Nat × Nat) := [(1, 1), (2, 1), (3, 1), (4, 1), (5, 1), (6, 1), (7, 4), (8, 4), (9, 1), (10, 1), (11, 1), (12, 1), (13, 2), (14, 2), (15, 1), (16, 1), (17, 1), (18, 1), (19, 1), (20, 1), (21, 1), (22, 1), (23, 1), (24, 1), (25, 1), (26, 1), (27, 1), (28, 1), (29, 1), (30, 1), (32, 1), (33, 1), (35, 1), (36, 1), (37, 4), (38, 4), (39, 2), (40, 2), (41, 1), (42, 1), (43, 1), (44, 1), (46, 1), (47, 1), (48, 1), (49, 4), (50, 4), (51, 5), (52, 5), (53, 1), (54, 3), (55, 3), (56, 1), (57, 1), (58, 1), (59, 1), (60, 4), (61, 4), (62, 15), (63, 15), (64, 1), (65, 1), (66, 1), (67, 1), (68, 1), (69, 1), (70, 1), (71, 1), (72, 1), (73, 3), (74, 3), (75, 1), (76, 1), (77, 1), (78, 1), (79, 1), (80, 1), (81, 1), (82, 3), (83, 3), (84, 1), (85, 1), (86, 1), (87, 1), (88, 1), (89, 1), (91, 1), (92, 1), (93, 1), (94, 1), (95, 1), (96, 1), (98, 1), (99, 1), (100, 1), (101, 1), (102, 1), (103, 1), (104, 1), (107, 1), (108, 1), (110, 1), (111, 1), (114, 1), (115, 1), (116, 1), (118, 1), (119, 1), (120, 1), (122, 1), (124, 1), (125, 1), (129, 1), (130, 1), (135, 1), (136, 1), (138, 1), (140, 1), (141, 1), (143, 1), (148, 1), (150, 1), (151, 1), (154, 1), (155, 1), (156, 1), (158, 1), (159, 1), (160, 1), (163, 2), (164, 2), (166, 2), (168, 1), (169, 1), (172, 1), (173, 1), (174, 1), (176, 1), (177, 4), (178, 4), (179, 0), (181, 0), (182, 1), (183, 1), (184, 1), (185, 1), (186, 1), (187, 1), (188, 1), (190, 11), (192, 1)]
theorem sz {t : TypeId} {x : Nat} (h : lkL szL t = some x) : szOf Tryz.prog t = some x := look (f := szOf Tryz.prog) szL ⟨z1, z2, z3, z4, z5, z6, z7, z8, z9, z10, z11, z12, z13, z14, z15, z16, z17, z18, z19, z20, z21, z22, z23, z24, z25, z26, z27, z28, z29, z30, z32, z33, z35, z36, z37, z38, z39, z40, z41, z42, z43, z44, z46, z47, z48, z49, z50, z51, z52, z53, z54, z55, z56, z57, z58, z59, z60, z61, z62, z63, z64, z65, z66, z67, z68, z69, z70, z71, z72, z73, z74, z75, z76, z77, z78, z79, z80, z81, z82, z83, z84, z85, z86, z87, z88, z89, z91, z92, z93, z94, z95, z96, z98, z99, z100, z101, z102, z103, z104, z107, z108, z110, z111, z114, z115, z116, z118, z119, z120, z122, z124, z125, z129, z130, z135, z136, z138, z140, z141, z143, z148, z150, z151, z154, z155, z156, z158, z159, z160, z163, z164, z166, z168, z169, z172, z173, z174, z176, z177, z178, z179, z181, z182, z183, z184, z185, z186, z187, z188, z190, z192, trivial⟩ h
def zrL : List (Nat × Value) := [(1, .nilFunc), (2, .int .i64 (0)), (3, .int .i64 (0)), (4, .bool false), (5, .int .u8 (0)), (6, .int .u8 (0)), (7, .agg [.int .i64 (0), .int .i64 (0), .bool false, .int .u8 (0)].toArray), (8, .agg [.int .i64 (0), .int .i64 (0), .bool false, .int .u8 (0)].toArray), (9, .string ⟨#[]⟩), (10, .string ⟨#[]⟩), (11, .string ⟨#[]⟩), (12, .int .u64 (0)), (13, .agg [.string ⟨#[]⟩, .int .u64 (0)].toArray), (14, .agg [.string ⟨#[]⟩, .int .u64 (0)].toArray), (15, .pointer none), (16, .pointer none), (17, .pointer none), (18, .agg [.pointer none].toArray), (19, .agg [.pointer none].toArray), (20, .nilIface), (21, .int .i32 (0)), (22, .slice none 0 0), (23, .int .u64 (0)), (24, .nilFunc), (25, .nilFunc), (26, .nilFunc), (27, .slice none 0 0), (28, .slice none 0 0), (29, .int .u32 (0)), (30, .int .i64 (0)), (32, .nilFunc), (33, .pointer none), (35, .nilFunc), (36, .nilFunc), (37, .agg [.int .u32 (0), .int .u64 (0), .int .u64 (0), .bool false].toArray), (38, .agg [.int .u32 (0), .int .u64 (0), .int .u64 (0), .bool false].toArray), (39, .agg [.int .u32 (0), .int .u64 (0)].toArray), (40, .agg [.int .u32 (0), .int .u64 (0)].toArray), (41, .nilFunc), (42, .nilFunc), (43, .slice none 0 0), (44, .nilFunc), (46, .nilFunc), (47, .nilFunc), (48, .slice none 0 0), (49, .agg [.int .i64 (0), .int .u64 (0), .int .u32 (0), .slice none 0 0].toArray), (50, .agg [.int .i64 (0), .int .u64 (0), .int .u32 (0), .slice none 0 0].toArray), (51, .agg [.int .u32 (0), .int .i64 (0), .int .u64 (0), .int .u32 (0), .slice none 0 0].toArray), (52, .agg [.int .u32 (0), .int .i64 (0), .int .u64 (0), .int .u32 (0), .slice none 0 0].toArray), (53, .slice none 0 0), (54, .agg [.bool false, .int .u32 (0), .slice none 0 0].toArray), (55, .agg [.bool false, .int .u32 (0), .slice none 0 0].toArray), (56, .nilFunc), (57, .nilFunc), (58, .nilFunc), (59, .nilFunc), (60, .agg [.int .i64 (0), .int .i64 (0), .int .u32 (0), .slice none 0 0].toArray), (61, .agg [.int .i64 (0), .int .i64 (0), .int .u32 (0), .slice none 0 0].toArray), (62, .agg [.int .i64 (0), .int .u64 (0), .int .u32 (0), .int .u64 (0), .int .u64 (0), .int .u32 (0), .int .u32 (0), .int .i64 (0), .int .i64 (0), .int .u32 (0), .slice none 0 0, .slice none 0 0, .slice none 0 0, .slice none 0 0, .int .u32 (0)].toArray), (63, .agg [.int .i64 (0), .int .u64 (0), .int .u32 (0), .int .u64 (0), .int .u64 (0), .int .u32 (0), .int .u32 (0), .int .i64 (0), .int .i64 (0), .int .u32 (0), .slice none 0 0, .slice none 0 0, .slice none 0 0, .slice none 0 0, .int .u32 (0)].toArray), (64, .nilFunc), (65, .nilFunc), (66, .nilFunc), (67, .nilFunc), (68, .nilFunc), (69, .nilFunc), (70, .pointer none), (71, .map none), (72, .map none), (73, .agg [.map none, .map none, .int .u32 (0)].toArray), (74, .agg [.map none, .map none, .int .u32 (0)].toArray), (75, .nilFunc), (76, .nilFunc), (77, .nilFunc), (78, .nilFunc), (79, .nilFunc), (80, .nilFunc), (81, .nilFunc), (82, .agg [.slice none 0 0, .slice none 0 0, .int .u32 (0)].toArray), (83, .agg [.slice none 0 0, .slice none 0 0, .int .u32 (0)].toArray), (84, .nilFunc), (85, .nilFunc), (86, .nilFunc), (87, .nilFunc), (88, .nilFunc), (89, .nilFunc), (91, .nilFunc), (92, .nilFunc), (93, .nilFunc), (94, .nilFunc), (95, .nilFunc), (96, .nilFunc), (98, .nilFunc), (99, .nilFunc), (100, .nilFunc), (101, .int .u64 (0)), (102, .nilFunc), (103, .nilFunc), (104, .nilFunc), (107, .nilFunc), (108, .nilFunc), (110, .nilFunc), (111, .nilFunc), (114, .nilFunc), (115, .slice none 0 0), (116, .nilFunc), (118, .nilFunc), (119, .nilFunc), (120, .nilFunc), (122, .nilFunc), (124, .nilFunc), (125, .int .i64 (0)), (129, .nilFunc), (130, .nilFunc), (135, .nilFunc), (136, .nilFunc), (138, .nilFunc), (140, .nilFunc), (141, .nilFunc), (143, .pointer none), (148, .nilFunc), (150, .nilFunc), (151, .int .u64 (0)), (154, .nilFunc), (155, .pointer none), (156, .nilFunc), (158, .nilFunc), (159, .nilFunc), (160, .nilFunc), (163, .agg [.bool false, .slice none 0 0].toArray), (164, .agg [.bool false, .slice none 0 0].toArray), (166, .agg [.bool false, .slice none 0 0].toArray), (168, .nilFunc), (169, .pointer none), (172, .nilFunc), (173, .nilFunc), (174, .nilFunc), (176, .nilFunc), (177, .agg [.pointer none, .pointer none, .pointer none, .string ⟨#[]⟩].toArray), (178, .agg [.pointer none, .pointer none, .pointer none, .string ⟨#[]⟩].toArray), (179, .agg [].toArray), (181, .agg [].toArray), (182, .nilFunc), (183, .int .u8 (0)), (184, .int .u8 (0)), (185, .nilFunc), (186, .pointer none), (187, .int .i32 (0)), (188, .int .i32 (0)), (190, .agg [.int .u64 (0), .int .u64 (0), .int .u32 (0), .int .u8 (0), .int .u8 (0), .int .u8 (0), .int .u8 (0), .nilFunc, .pointer none, .int .i32 (0), .int .i32 (0)].toArray), (192, .pointer none)]
theorem zr {t : TypeId} {x : Value} (h : lkL zrL t = some x) : zrOf Tryz.prog t = some x := look (f := zrOf Tryz.prog) zrL ⟨zr1, zr2, zr3, zr4, zr5, zr6, zr7, zr8, zr9, zr10, zr11, zr12, zr13, zr14, zr15, zr16, zr17, zr18, zr19, zr20, zr21, zr22, zr23, zr24, zr25, zr26, zr27, zr28, zr29, zr30, zr32, zr33, zr35, zr36, zr37, zr38, zr39, zr40, zr41, zr42, zr43, zr44, zr46, zr47, zr48, zr49, zr50, zr51, zr52, zr53, zr54, zr55, zr56, zr57, zr58, zr59, zr60, zr61, zr62, zr63, zr64, zr65, zr66, zr67, zr68, zr69, zr70, zr71, zr72, zr73, zr74, zr75, zr76, zr77, zr78, zr79, zr80, zr81, zr82, zr83, zr84, zr85, zr86, zr87, zr88, zr89, zr91, zr92, zr93, zr94, zr95, zr96, zr98, zr99, zr100, zr101, zr102, zr103, zr104, zr107, zr108, zr110, zr111, zr114, zr115, zr116, zr118, zr119, zr120, zr122, zr124, zr125, zr129, zr130, zr135, zr136, zr138, zr140, zr141, zr143, zr148, zr150, zr151, zr154, zr155, zr156, zr158, zr159, zr160, zr163, zr164, zr166, zr168, zr169, zr172, zr173, zr174, zr176, zr177, zr178, zr179, zr181, zr182, zr183, zr184, zr185, zr186, zr187, zr188, zr190, zr192, trivial⟩ h
def bytL : List (Nat × Nat) := [(1, 8), (2, 8), (3, 8), (4, 1), (5, 1), (6, 1), (7, 24), (8, 24), (9, 16), (10, 16), (11, 16), (12, 8), (13, 24), (14, 24), (15, 8), (16, 8), (17, 8), (18, 8), (19, 8), (20, 16), (21, 4), (22, 24), (23, 8), (24, 8), (25, 8), (26, 8), (27, 24), (28, 24), (29, 4), (30, 8), (32, 8), (33, 8), (35, 8), (36, 8), (37, 32), (38, 32), (39, 16), (40, 16), (41, 8), (42, 8), (43, 24), (44, 8), (46, 8), (47, 8), (48, 24), (49, 48), (50, 48), (51, 56), (52, 56), (53, 24), (54, 32), (55, 32), (56, 8), (57, 8), (58, 8), (59, 8), (60, 48), (61, 48), (62, 176), (63, 176), (64, 8), (65, 8), (66, 8), (67, 8), (68, 8), (69, 8), (70, 8), (71, 8), (72, 8), (73, 24), (74, 24), (75, 8), (76, 8), (77, 8), (78, 8), (79, 8), (80, 8), (81, 8), (82, 56), (83, 56), (84, 8), (85, 8), (86, 8), (87, 8), (88, 8), (89, 8), (91, 8), (92, 8), (93, 8), (94, 8), (95, 8), (96, 8), (98, 8), (99, 8), (100, 8), (101, 8), (102, 8), (103, 8), (104, 8), (107, 8), (108, 8), (110, 8), (111, 8), (114, 8), (115, 24), (116, 8), (118, 8), (119, 8), (120, 8), (122, 8), (124, 8), (125, 8), (129, 8), (130, 8), (135, 8), (136, 8), (138, 8), (140, 8), (141, 8), (143, 8), (148, 8), (150, 8), (151, 8), (154, 8), (155, 8), (156, 8), (158, 8), (159, 8), (160, 8), (163, 32), (164, 32), (166, 32), (168, 8), (169, 8), (172, 8), (173, 8), (174, 8), (176, 8), (177, 40), (178, 40), (179, 0), (181, 0), (182, 8), (183, 1), (184, 1), (185, 8), (186, 8), (187, 4), (188, 4), (190, 48), (192, 8)]
theorem byt {t : TypeId} {x : Nat} (h : lkL bytL t = some x) : byOf Tryz.prog t = some x := look (f := byOf Tryz.prog) bytL ⟨by1, by2, by3, by4, by5, by6, by7, by8, by9, by10, by11, by12, by13, by14, by15, by16, by17, by18, by19, by20, by21, by22, by23, by24, by25, by26, by27, by28, by29, by30, by32, by33, by35, by36, by37, by38, by39, by40, by41, by42, by43, by44, by46, by47, by48, by49, by50, by51, by52, by53, by54, by55, by56, by57, by58, by59, by60, by61, by62, by63, by64, by65, by66, by67, by68, by69, by70, by71, by72, by73, by74, by75, by76, by77, by78, by79, by80, by81, by82, by83, by84, by85, by86, by87, by88, by89, by91, by92, by93, by94, by95, by96, by98, by99, by100, by101, by102, by103, by104, by107, by108, by110, by111, by114, by115, by116, by118, by119, by120, by122, by124, by125, by129, by130, by135, by136, by138, by140, by141, by143, by148, by150, by151, by154, by155, by156, by158, by159, by160, by163, by164, by166, by168, by169, by172, by173, by174, by176, by177, by178, by179, by181, by182, by183, by184, by185, by186, by187, by188, by190, by192, trivial⟩ h
def lkP {α : Type} : List (Nat × Nat × α) → Nat → Nat → Option α
 | [], _, _ => none
 | (k, j, v) :: E, t, i => match Nat.beq k t && Nat.beq j i with
  | true => some v
  | false => lkP E t i
def allP {α : Type} (f : Nat → Nat → Option α) : List (Nat × Nat × α) → Prop
 | [] => True
 | p :: l => f p.1 p.2.1 = some p.2.2 ∧ allP f l
theorem lookP {α : Type} {f : Nat → Nat → Option α} : ∀ (l : List (Nat × Nat × α)), allP f l → ∀ {t i : Nat} {x : α}, lkP l t i = some x → f t i = some x
 | [], _, _, _, _, h => (Option.some_ne_none _ h.symm).elim
 | (k, j, v) :: E, hA, t, i, x, h => by
  unfold lkP at h
  cases hb : Nat.beq k t && Nat.beq j i with
  | true =>
   rw [hb] at h
   simp only [Bool.and_eq_true] at hb
   obtain rfl := Nat.eq_of_beq_eq_true hb.1
   obtain rfl := Nat.eq_of_beq_eq_true hb.2
   cases h
   exact hA.1
  | false =>
   rw [hb] at h
   exact lookP E hA.2 h
def foL : List (Nat × Nat × (Nat × Nat × Nat)) := [(38, 0, (0, 29, 1)), (38, 1, (1, 23, 1)), (38, 2, (2, 23, 1)), (38, 3, (3, 4, 1)), (40, 0, (0, 29, 1)), (40, 1, (1, 23, 1)), (50, 0, (0, 3, 1)), (50, 1, (1, 23, 1)), (50, 2, (2, 29, 1)), (50, 3, (3, 48, 1)), (52, 0, (0, 29, 1)), (52, 1, (1, 50, 4)), (55, 0, (0, 4, 1)), (55, 1, (1, 29, 1)), (55, 2, (2, 53, 1)), (61, 0, (0, 3, 1)), (61, 1, (1, 3, 1)), (61, 2, (2, 29, 1)), (61, 3, (3, 53, 1)), (63, 0, (0, 3, 1)), (63, 1, (1, 23, 1)), (63, 2, (2, 29, 1)), (63, 3, (3, 23, 1)), (63, 4, (4, 23, 1)), (63, 5, (5, 29, 1)), (63, 6, (6, 29, 1)), (63, 7, (7, 61, 4)), (63, 8, (11, 43, 1)), (63, 9, (12, 27, 1)), (63, 10, (13, 28, 1)), (63, 11, (14, 29, 1)), (74, 0, (0, 71, 1)), (74, 1, (1, 72, 1)), (74, 2, (2, 29, 1)), (83, 0, (0, 27, 1)), (83, 1, (1, 28, 1)), (83, 2, (2, 29, 1)), (164, 0, (0, 4, 1)), (164, 1, (1, 53, 1)), (166, 0, (0, 164, 2))]
theorem fo {t : TypeId} {i : Nat} {x : Nat × Nat × Nat} (h : lkP foL t i = some x) : fldOff Tryz.prog t i = some x := lookP (f := fldOff Tryz.prog) foL ⟨fo38_0, fo38_1, fo38_2, fo38_3, fo40_0, fo40_1, fo50_0, fo50_1, fo50_2, fo50_3, fo52_0, fo52_1, fo55_0, fo55_1, fo55_2, fo61_0, fo61_1, fo61_2, fo61_3, fo63_0, fo63_1, fo63_2, fo63_3, fo63_4, fo63_5, fo63_6, fo63_7, fo63_8, fo63_9, fo63_10, fo63_11, fo74_0, fo74_1, fo74_2, fo83_0, fo83_1, fo83_2, fo164_0, fo164_1, fo166_0, trivial⟩ h
def lkC : List Nat → Nat → Bool
 | [], _ => false
 | k :: E, t => match Nat.beq k t with
  | true => true
  | false => lkC E t
def allC (Q : Nat → Prop) : List Nat → Prop
 | [] => True
 | p :: l => Q p ∧ allC Q l
theorem lookC {Q : Nat → Prop} : ∀ (l : List Nat), allC Q l → ∀ {t : Nat}, lkC l t = true → Q t
 | [], _, _, h => (Bool.false_ne_true h).elim
 | k :: E, hA, t, h => by
  unfold lkC at h
  cases hb : Nat.beq k t with
  | true => obtain rfl := Nat.eq_of_beq_eq_true hb; exact hA.1
  | false => rw [hb] at h; exact lookC E hA.2 h
def calL : List Nat := [3, 4, 5, 6, 7, 8, 9, 10, 11, 12, 13, 14, 15, 16, 17, 18, 19, 20, 21, 22, 23, 24, 25, 26, 27, 28, 29, 30, 31, 32, 33, 34, 35, 36, 37, 38, 39, 40, 41, 42, 43, 44, 45, 46, 47, 48, 49, 50, 51, 52, 53, 54, 55, 56, 57, 58, 59, 60, 61, 62, 63, 64, 65, 66, 67, 68, 69, 70, 71, 72, 73, 74, 75, 76, 77, 78, 79, 80, 81, 82, 83, 84, 85, 86, 87, 88, 89, 90, 91, 92, 93, 94, 95, 96, 97, 98, 99, 100, 101, 102, 103, 104, 105, 106, 108, 109, 110, 111, 112, 113, 114, 115, 116, 117, 118, 119, 120, 121, 122, 123, 124, 125, 126, 127, 128, 129, 130, 131, 132, 133, 134, 135, 136, 137, 138, 139, 141, 142, 143]
theorem cal {t : Nat} (h : lkC calL t = true) : Callable Tryz.prog t := lookC (Q := Callable Tryz.prog) calL ⟨cal3, cal4, cal5, cal6, cal7, cal8, cal9, cal10, cal11, cal12, cal13, cal14, cal15, cal16, cal17, cal18, cal19, cal20, cal21, cal22, cal23, cal24, cal25, cal26, cal27, cal28, cal29, cal30, cal31, cal32, cal33, cal34, cal35, cal36, cal37, cal38, cal39, cal40, cal41, cal42, cal43, cal44, cal45, cal46, cal47, cal48, cal49, cal50, cal51, cal52, cal53, cal54, cal55, cal56, cal57, cal58, cal59, cal60, cal61, cal62, cal63, cal64, cal65, cal66, cal67, cal68, cal69, cal70, cal71, cal72, cal73, cal74, cal75, cal76, cal77, cal78, cal79, cal80, cal81, cal82, cal83, cal84, cal85, cal86, cal87, cal88, cal89, cal90, cal91, cal92, cal93, cal94, cal95, cal96, cal97, cal98, cal99, cal100, cal101, cal102, cal103, cal104, cal105, cal106, cal108, cal109, cal110, cal111, cal112, cal113, cal114, cal115, cal116, cal117, cal118, cal119, cal120, cal121, cal122, cal123, cal124, cal125, cal126, cal127, cal128, cal129, cal130, cal131, cal132, cal133, cal134, cal135, cal136, cal137, cal138, cal139, cal141, cal142, cal143, trivial⟩ h
def plL : List (Nat × List (Nat × Nat)) := [(38, [(0, 1), (1, 1), (2, 1), (3, 1)]), (40, [(0, 1), (1, 1)]), (50, [(0, 1), (1, 1), (2, 1), (3, 1)]), (52, [(0, 1), (1, 4)]), (55, [(0, 1), (1, 1), (2, 1)]), (61, [(0, 1), (1, 1), (2, 1), (3, 1)]), (63, [(0, 1), (1, 1), (2, 1), (3, 1), (4, 1), (5, 1), (6, 1), (7, 4), (11, 1), (12, 1), (13, 1), (14, 1)]), (74, [(0, 1), (1, 1), (2, 1)]), (83, [(0, 1), (1, 1), (2, 1)]), (164, [(0, 1), (1, 1)]), (166, [(0, 2)])]
theorem pl {t : TypeId} {x : List (Nat × Nat)} (h : lkL plL t = some x) : placesOf Tryz.prog t = some x := look (f := placesOf Tryz.prog) plL ⟨pl38, pl40, pl50, pl52, pl55, pl61, pl63, pl74, pl83, pl164, pl166, trivial⟩ h
theorem mixed : Tryz.prog.follows .mixedOrders = true := by kernel_rfl
end Go.Proofs.YtkdngpiiecmpgaaGreat.Fx
