/-
  Closed facts on the types and the functions of this seat. Written by program (facts.py). Conditions: none.
-/
import Derived.Test.YtmcdaegaopfihaaGreatQ1
import Derived.Test.YtmcdaegaopfihaaGreatProg
import Derived.KernelRfl
namespace Go.Proofs.YtmcdaegaopfihaaGreat.Fx
open Go Go.K Go.Proofs
set_option linter.unusedVariables false
def lkL {α : Type} : List (Nat × α) → Nat → Option α
  | [], _ => none
  | (k, v) :: E, t => match Nat.beq k t with
    | true => some v
    | false => lkL E t
def allL {α : Type} (f : Nat → Option α) : List (Nat × α) → Prop
  | [] => True
  | p :: l => f p.1 = some p.2 ∧ allL f l
theorem look {α : Type} {f : Nat → Option α} : ∀ (l : List (Nat × α)), allL f l → ∀ {t : Nat} {x : α}, lkL l t = some x → f t = some x
  | [], _, _, _, h => (Option.some_ne_none _ h.symm).elim
  | (k, v) :: E, hA, t, x, h => by
    unfold lkL at h
    split at h
    · rename_i hb
      rw [← Nat.eq_of_beq_eq_true hb, ← h]
      exact hA.1
    · exact look E hA.2 h
theorem g1 : aggOf Tryz.prog 1 = some false := by kernel_rfl
theorem z1 : szOf Tryz.prog 1 = some 1 := by kernel_rfl
theorem by1 : byOf Tryz.prog 1 = some 8 := by kernel_rfl
theorem zr1 : zrOf Tryz.prog 1 = some (.nilFunc) := by kernel_rfl
theorem g2 : aggOf Tryz.prog 2 = some false := by kernel_rfl
theorem z2 : szOf Tryz.prog 2 = some 1 := by kernel_rfl
theorem by2 : byOf Tryz.prog 2 = some 8 := by kernel_rfl
theorem zr2 : zrOf Tryz.prog 2 = some (.int .i64 (0)) := by kernel_rfl
theorem g3 : aggOf Tryz.prog 3 = some false := by kernel_rfl
theorem z3 : szOf Tryz.prog 3 = some 1 := by kernel_rfl
theorem by3 : byOf Tryz.prog 3 = some 8 := by kernel_rfl
theorem zr3 : zrOf Tryz.prog 3 = some (.int .i64 (0)) := by kernel_rfl
theorem g4 : aggOf Tryz.prog 4 = some false := by kernel_rfl
theorem z4 : szOf Tryz.prog 4 = some 1 := by kernel_rfl
theorem by4 : byOf Tryz.prog 4 = some 1 := by kernel_rfl
theorem zr4 : zrOf Tryz.prog 4 = some (.bool false) := by kernel_rfl
theorem g5 : aggOf Tryz.prog 5 = some false := by kernel_rfl
theorem z5 : szOf Tryz.prog 5 = some 1 := by kernel_rfl
theorem by5 : byOf Tryz.prog 5 = some 1 := by kernel_rfl
theorem zr5 : zrOf Tryz.prog 5 = some (.int .u8 (0)) := by kernel_rfl
theorem g6 : aggOf Tryz.prog 6 = some false := by kernel_rfl
theorem z6 : szOf Tryz.prog 6 = some 1 := by kernel_rfl
theorem by6 : byOf Tryz.prog 6 = some 1 := by kernel_rfl
theorem zr6 : zrOf Tryz.prog 6 = some (.int .u8 (0)) := by kernel_rfl
theorem g7 : aggOf Tryz.prog 7 = some true := by kernel_rfl
theorem z7 : szOf Tryz.prog 7 = some 4 := by kernel_rfl
theorem by7 : byOf Tryz.prog 7 = some 24 := by kernel_rfl
theorem zr7 : zrOf Tryz.prog 7 = some (.agg [.int .i64 (0), .int .i64 (0), .bool false, .int .u8 (0)].toArray) := by kernel_rfl
theorem g8 : aggOf Tryz.prog 8 = some true := by kernel_rfl
theorem z8 : szOf Tryz.prog 8 = some 4 := by kernel_rfl
theorem by8 : byOf Tryz.prog 8 = some 24 := by kernel_rfl
theorem zr8 : zrOf Tryz.prog 8 = some (.agg [.int .i64 (0), .int .i64 (0), .bool false, .int .u8 (0)].toArray) := by kernel_rfl
theorem g9 : aggOf Tryz.prog 9 = some false := by kernel_rfl
theorem z9 : szOf Tryz.prog 9 = some 1 := by kernel_rfl
theorem by9 : byOf Tryz.prog 9 = some 16 := by kernel_rfl
theorem zr9 : zrOf Tryz.prog 9 = some (.string ⟨#[]⟩) := by kernel_rfl
theorem g10 : aggOf Tryz.prog 10 = some false := by kernel_rfl
theorem z10 : szOf Tryz.prog 10 = some 1 := by kernel_rfl
theorem by10 : byOf Tryz.prog 10 = some 16 := by kernel_rfl
theorem zr10 : zrOf Tryz.prog 10 = some (.string ⟨#[]⟩) := by kernel_rfl
theorem g11 : aggOf Tryz.prog 11 = some false := by kernel_rfl
theorem z11 : szOf Tryz.prog 11 = some 1 := by kernel_rfl
theorem by11 : byOf Tryz.prog 11 = some 16 := by kernel_rfl
theorem zr11 : zrOf Tryz.prog 11 = some (.string ⟨#[]⟩) := by kernel_rfl
theorem g12 : aggOf Tryz.prog 12 = some false := by kernel_rfl
theorem z12 : szOf Tryz.prog 12 = some 1 := by kernel_rfl
theorem by12 : byOf Tryz.prog 12 = some 8 := by kernel_rfl
theorem zr12 : zrOf Tryz.prog 12 = some (.int .u64 (0)) := by kernel_rfl
theorem g13 : aggOf Tryz.prog 13 = some true := by kernel_rfl
theorem z13 : szOf Tryz.prog 13 = some 2 := by kernel_rfl
theorem by13 : byOf Tryz.prog 13 = some 24 := by kernel_rfl
theorem zr13 : zrOf Tryz.prog 13 = some (.agg [.string ⟨#[]⟩, .int .u64 (0)].toArray) := by kernel_rfl
theorem g14 : aggOf Tryz.prog 14 = some true := by kernel_rfl
theorem z14 : szOf Tryz.prog 14 = some 2 := by kernel_rfl
theorem by14 : byOf Tryz.prog 14 = some 24 := by kernel_rfl
theorem zr14 : zrOf Tryz.prog 14 = some (.agg [.string ⟨#[]⟩, .int .u64 (0)].toArray) := by kernel_rfl
theorem g15 : aggOf Tryz.prog 15 = some false := by kernel_rfl
theorem z15 : szOf Tryz.prog 15 = some 1 := by kernel_rfl
theorem by15 : byOf Tryz.prog 15 = some 8 := by kernel_rfl
theorem zr15 : zrOf Tryz.prog 15 = some (.pointer none) := by kernel_rfl
theorem g16 : aggOf Tryz.prog 16 = some false := by kernel_rfl
theorem z16 : szOf Tryz.prog 16 = some 1 := by kernel_rfl
theorem by16 : byOf Tryz.prog 16 = some 8 := by kernel_rfl
theorem zr16 : zrOf Tryz.prog 16 = some (.pointer none) := by kernel_rfl
theorem g17 : aggOf Tryz.prog 17 = some false := by kernel_rfl
theorem z17 : szOf Tryz.prog 17 = some 1 := by kernel_rfl
theorem by17 : byOf Tryz.prog 17 = some 8 := by kernel_rfl
theorem zr17 : zrOf Tryz.prog 17 = some (.pointer none) := by kernel_rfl
theorem g18 : aggOf Tryz.prog 18 = some true := by kernel_rfl
theorem z18 : szOf Tryz.prog 18 = some 1 := by kernel_rfl
theorem by18 : byOf Tryz.prog 18 = some 8 := by kernel_rfl
theorem zr18 : zrOf Tryz.prog 18 = some (.agg [.pointer none].toArray) := by kernel_rfl
theorem g19 : aggOf Tryz.prog 19 = some true := by kernel_rfl
theorem z19 : szOf Tryz.prog 19 = some 1 := by kernel_rfl
theorem by19 : byOf Tryz.prog 19 = some 8 := by kernel_rfl
theorem zr19 : zrOf Tryz.prog 19 = some (.agg [.pointer none].toArray) := by kernel_rfl
theorem g20 : aggOf Tryz.prog 20 = some false := by kernel_rfl
theorem z20 : szOf Tryz.prog 20 = some 1 := by kernel_rfl
theorem by20 : byOf Tryz.prog 20 = some 16 := by kernel_rfl
theorem zr20 : zrOf Tryz.prog 20 = some (.nilIface) := by kernel_rfl
theorem g21 : aggOf Tryz.prog 21 = some false := by kernel_rfl
theorem z21 : szOf Tryz.prog 21 = some 1 := by kernel_rfl
theorem by21 : byOf Tryz.prog 21 = some 4 := by kernel_rfl
theorem zr21 : zrOf Tryz.prog 21 = some (.int .i32 (0)) := by kernel_rfl
theorem g22 : aggOf Tryz.prog 22 = some false := by kernel_rfl
theorem z22 : szOf Tryz.prog 22 = some 1 := by kernel_rfl
theorem by22 : byOf Tryz.prog 22 = some 24 := by kernel_rfl
theorem zr22 : zrOf Tryz.prog 22 = some (.slice none 0 0) := by kernel_rfl
theorem g23 : aggOf Tryz.prog 23 = some false := by kernel_rfl
theorem z23 : szOf Tryz.prog 23 = some 1 := by kernel_rfl
theorem by23 : byOf Tryz.prog 23 = some 8 := by kernel_rfl
theorem zr23 : zrOf Tryz.prog 23 = some (.nilFunc) := by kernel_rfl
theorem g24 : aggOf Tryz.prog 24 = some false := by kernel_rfl
theorem z24 : szOf Tryz.prog 24 = some 1 := by kernel_rfl
theorem by24 : byOf Tryz.prog 24 = some 8 := by kernel_rfl
theorem zr24 : zrOf Tryz.prog 24 = some (.nilFunc) := by kernel_rfl
theorem g25 : aggOf Tryz.prog 25 = some false := by kernel_rfl
theorem z25 : szOf Tryz.prog 25 = some 1 := by kernel_rfl
theorem by25 : byOf Tryz.prog 25 = some 8 := by kernel_rfl
theorem zr25 : zrOf Tryz.prog 25 = some (.pointer none) := by kernel_rfl
theorem g26 : aggOf Tryz.prog 26 = some false := by kernel_rfl
theorem z26 : szOf Tryz.prog 26 = some 1 := by kernel_rfl
theorem by26 : byOf Tryz.prog 26 = some 8 := by kernel_rfl
theorem zr26 : zrOf Tryz.prog 26 = some (.pointer none) := by kernel_rfl
theorem g27 : aggOf Tryz.prog 27 = some false := by kernel_rfl
theorem z27 : szOf Tryz.prog 27 = some 1 := by kernel_rfl
theorem by27 : byOf Tryz.prog 27 = some 8 := by kernel_rfl
theorem zr27 : zrOf Tryz.prog 27 = some (.int .u64 (0)) := by kernel_rfl
theorem g28 : aggOf Tryz.prog 28 = some false := by kernel_rfl
theorem z28 : szOf Tryz.prog 28 = some 1 := by kernel_rfl
theorem by28 : byOf Tryz.prog 28 = some 4 := by kernel_rfl
theorem zr28 : zrOf Tryz.prog 28 = some (.int .u32 (0)) := by kernel_rfl
theorem g29 : aggOf Tryz.prog 29 = some true := by kernel_rfl
theorem z29 : szOf Tryz.prog 29 = some 5 := by kernel_rfl
theorem by29 : byOf Tryz.prog 29 = some 32 := by kernel_rfl
theorem zr29 : zrOf Tryz.prog 29 = some (.agg [.int .i64 (0), .int .u64 (0), .int .u64 (0), .int .u32 (0), .bool false].toArray) := by kernel_rfl
theorem g30 : aggOf Tryz.prog 30 = some true := by kernel_rfl
theorem z30 : szOf Tryz.prog 30 = some 5 := by kernel_rfl
theorem by30 : byOf Tryz.prog 30 = some 32 := by kernel_rfl
theorem zr30 : zrOf Tryz.prog 30 = some (.agg [.int .i64 (0), .int .u64 (0), .int .u64 (0), .int .u32 (0), .bool false].toArray) := by kernel_rfl
theorem g31 : aggOf Tryz.prog 31 = some false := by kernel_rfl
theorem z31 : szOf Tryz.prog 31 = some 1 := by kernel_rfl
theorem by31 : byOf Tryz.prog 31 = some 24 := by kernel_rfl
theorem zr31 : zrOf Tryz.prog 31 = some (.slice none 0 0) := by kernel_rfl
theorem g32 : aggOf Tryz.prog 32 = some false := by kernel_rfl
theorem z32 : szOf Tryz.prog 32 = some 1 := by kernel_rfl
theorem by32 : byOf Tryz.prog 32 = some 24 := by kernel_rfl
theorem zr32 : zrOf Tryz.prog 32 = some (.slice none 0 0) := by kernel_rfl
theorem g33 : aggOf Tryz.prog 33 = some true := by kernel_rfl
theorem z33 : szOf Tryz.prog 33 = some 9 := by kernel_rfl
theorem by33 : byOf Tryz.prog 33 = some 96 := by kernel_rfl
theorem zr33 : zrOf Tryz.prog 33 = some (.agg [.pointer none, .int .i64 (0), .int .u64 (0), .int .u64 (0), .int .u32 (0), .bool false, .slice none 0 0, .slice none 0 0, .int .u64 (0)].toArray) := by kernel_rfl
theorem g34 : aggOf Tryz.prog 34 = some true := by kernel_rfl
theorem z34 : szOf Tryz.prog 34 = some 9 := by kernel_rfl
theorem by34 : byOf Tryz.prog 34 = some 96 := by kernel_rfl
theorem zr34 : zrOf Tryz.prog 34 = some (.agg [.pointer none, .int .i64 (0), .int .u64 (0), .int .u64 (0), .int .u32 (0), .bool false, .slice none 0 0, .slice none 0 0, .int .u64 (0)].toArray) := by kernel_rfl
theorem g35 : aggOf Tryz.prog 35 = some false := by kernel_rfl
theorem z35 : szOf Tryz.prog 35 = some 1 := by kernel_rfl
theorem by35 : byOf Tryz.prog 35 = some 24 := by kernel_rfl
theorem zr35 : zrOf Tryz.prog 35 = some (.slice none 0 0) := by kernel_rfl
theorem g36 : aggOf Tryz.prog 36 = some false := by kernel_rfl
theorem z36 : szOf Tryz.prog 36 = some 1 := by kernel_rfl
theorem by36 : byOf Tryz.prog 36 = some 8 := by kernel_rfl
theorem zr36 : zrOf Tryz.prog 36 = some (.int .i64 (0)) := by kernel_rfl
theorem g38 : aggOf Tryz.prog 38 = some false := by kernel_rfl
theorem z38 : szOf Tryz.prog 38 = some 1 := by kernel_rfl
theorem by38 : byOf Tryz.prog 38 = some 8 := by kernel_rfl
theorem zr38 : zrOf Tryz.prog 38 = some (.nilFunc) := by kernel_rfl
theorem g39 : aggOf Tryz.prog 39 = some true := by kernel_rfl
theorem z39 : szOf Tryz.prog 39 = some 4 := by kernel_rfl
theorem by39 : byOf Tryz.prog 39 = some 48 := by kernel_rfl
theorem zr39 : zrOf Tryz.prog 39 = some (.agg [.int .i64 (0), .int .i64 (0), .int .u32 (0), .slice none 0 0].toArray) := by kernel_rfl
theorem g40 : aggOf Tryz.prog 40 = some true := by kernel_rfl
theorem z40 : szOf Tryz.prog 40 = some 4 := by kernel_rfl
theorem by40 : byOf Tryz.prog 40 = some 48 := by kernel_rfl
theorem zr40 : zrOf Tryz.prog 40 = some (.agg [.int .i64 (0), .int .i64 (0), .int .u32 (0), .slice none 0 0].toArray) := by kernel_rfl
theorem g41 : aggOf Tryz.prog 41 = some false := by kernel_rfl
theorem z41 : szOf Tryz.prog 41 = some 1 := by kernel_rfl
theorem by41 : byOf Tryz.prog 41 = some 24 := by kernel_rfl
theorem zr41 : zrOf Tryz.prog 41 = some (.slice none 0 0) := by kernel_rfl
theorem g42 : aggOf Tryz.prog 42 = some false := by kernel_rfl
theorem z42 : szOf Tryz.prog 42 = some 1 := by kernel_rfl
theorem by42 : byOf Tryz.prog 42 = some 24 := by kernel_rfl
theorem zr42 : zrOf Tryz.prog 42 = some (.slice none 0 0) := by kernel_rfl
theorem g43 : aggOf Tryz.prog 43 = some false := by kernel_rfl
theorem z43 : szOf Tryz.prog 43 = some 1 := by kernel_rfl
theorem by43 : byOf Tryz.prog 43 = some 24 := by kernel_rfl
theorem zr43 : zrOf Tryz.prog 43 = some (.slice none 0 0) := by kernel_rfl
theorem g44 : aggOf Tryz.prog 44 = some true := by kernel_rfl
theorem z44 : szOf Tryz.prog 44 = some 15 := by kernel_rfl
theorem by44 : byOf Tryz.prog 44 = some 176 := by kernel_rfl
theorem zr44 : zrOf Tryz.prog 44 = some (.agg [.int .i64 (0), .int .u64 (0), .int .u32 (0), .int .u64 (0), .int .u64 (0), .int .u32 (0), .int .u32 (0), .int .i64 (0), .int .i64 (0), .int .u32 (0), .slice none 0 0, .slice none 0 0, .slice none 0 0, .slice none 0 0, .int .u32 (0)].toArray) := by kernel_rfl
theorem g45 : aggOf Tryz.prog 45 = some true := by kernel_rfl
theorem z45 : szOf Tryz.prog 45 = some 15 := by kernel_rfl
theorem by45 : byOf Tryz.prog 45 = some 176 := by kernel_rfl
theorem zr45 : zrOf Tryz.prog 45 = some (.agg [.int .i64 (0), .int .u64 (0), .int .u32 (0), .int .u64 (0), .int .u64 (0), .int .u32 (0), .int .u32 (0), .int .i64 (0), .int .i64 (0), .int .u32 (0), .slice none 0 0, .slice none 0 0, .slice none 0 0, .slice none 0 0, .int .u32 (0)].toArray) := by kernel_rfl
theorem g46 : aggOf Tryz.prog 46 = some true := by kernel_rfl
theorem z46 : szOf Tryz.prog 46 = some 17 := by kernel_rfl
theorem by46 : byOf Tryz.prog 46 = some 192 := by kernel_rfl
theorem zr46 : zrOf Tryz.prog 46 = some (.agg [.int .i64 (0), .int .i64 (0), .int .u64 (0), .int .u32 (0), .int .u64 (0), .int .u64 (0), .int .u32 (0), .int .u32 (0), .int .i64 (0), .int .i64 (0), .int .u32 (0), .slice none 0 0, .slice none 0 0, .slice none 0 0, .slice none 0 0, .int .u32 (0), .int .i64 (0)].toArray) := by kernel_rfl
theorem g47 : aggOf Tryz.prog 47 = some true := by kernel_rfl
theorem z47 : szOf Tryz.prog 47 = some 17 := by kernel_rfl
theorem by47 : byOf Tryz.prog 47 = some 192 := by kernel_rfl
theorem zr47 : zrOf Tryz.prog 47 = some (.agg [.int .i64 (0), .int .i64 (0), .int .u64 (0), .int .u32 (0), .int .u64 (0), .int .u64 (0), .int .u32 (0), .int .u32 (0), .int .i64 (0), .int .i64 (0), .int .u32 (0), .slice none 0 0, .slice none 0 0, .slice none 0 0, .slice none 0 0, .int .u32 (0), .int .i64 (0)].toArray) := by kernel_rfl
theorem g48 : aggOf Tryz.prog 48 = some false := by kernel_rfl
theorem z48 : szOf Tryz.prog 48 = some 1 := by kernel_rfl
theorem by48 : byOf Tryz.prog 48 = some 8 := by kernel_rfl
theorem zr48 : zrOf Tryz.prog 48 = some (.nilFunc) := by kernel_rfl
theorem g49 : aggOf Tryz.prog 49 = some false := by kernel_rfl
theorem z49 : szOf Tryz.prog 49 = some 1 := by kernel_rfl
theorem by49 : byOf Tryz.prog 49 = some 8 := by kernel_rfl
theorem zr49 : zrOf Tryz.prog 49 = some (.nilFunc) := by kernel_rfl
theorem g50 : aggOf Tryz.prog 50 = some false := by kernel_rfl
theorem z50 : szOf Tryz.prog 50 = some 1 := by kernel_rfl
theorem by50 : byOf Tryz.prog 50 = some 8 := by kernel_rfl
theorem zr50 : zrOf Tryz.prog 50 = some (.nilFunc) := by kernel_rfl
theorem g51 : aggOf Tryz.prog 51 = some false := by kernel_rfl
theorem z51 : szOf Tryz.prog 51 = some 1 := by kernel_rfl
theorem by51 : byOf Tryz.prog 51 = some 8 := by kernel_rfl
theorem zr51 : zrOf Tryz.prog 51 = some (.nilFunc) := by kernel_rfl
theorem g52 : aggOf Tryz.prog 52 = some false := by kernel_rfl
theorem z52 : szOf Tryz.prog 52 = some 1 := by kernel_rfl
theorem by52 : byOf Tryz.prog 52 = some 8 := by kernel_rfl
theorem zr52 : zrOf Tryz.prog 52 = some (.nilFunc) := by kernel_rfl
theorem g53 : aggOf Tryz.prog 53 = some false := by kernel_rfl
theorem z53 : szOf Tryz.prog 53 = some 1 := by kernel_rfl
theorem by53 : byOf Tryz.prog 53 = some 8 := by kernel_rfl
theorem zr53 : zrOf Tryz.prog 53 = some (.nilFunc) := by kernel_rfl
theorem g54 : aggOf Tryz.prog 54 = some false := by kernel_rfl
theorem z54 : szOf Tryz.prog 54 = some 1 := by kernel_rfl
theorem by54 : byOf Tryz.prog 54 = some 24 := by kernel_rfl
theorem zr54 : zrOf Tryz.prog 54 = some (.slice none 0 0) := by kernel_rfl
theorem g56 : aggOf Tryz.prog 56 = some false := by kernel_rfl
theorem z56 : szOf Tryz.prog 56 = some 1 := by kernel_rfl
theorem by56 : byOf Tryz.prog 56 = some 8 := by kernel_rfl
theorem zr56 : zrOf Tryz.prog 56 = some (.nilFunc) := by kernel_rfl
theorem g57 : aggOf Tryz.prog 57 = some false := by kernel_rfl
theorem z57 : szOf Tryz.prog 57 = some 1 := by kernel_rfl
theorem by57 : byOf Tryz.prog 57 = some 8 := by kernel_rfl
theorem zr57 : zrOf Tryz.prog 57 = some (.nilFunc) := by kernel_rfl
theorem g58 : aggOf Tryz.prog 58 = some false := by kernel_rfl
theorem z58 : szOf Tryz.prog 58 = some 1 := by kernel_rfl
theorem by58 : byOf Tryz.prog 58 = some 8 := by kernel_rfl
theorem zr58 : zrOf Tryz.prog 58 = some (.nilFunc) := by kernel_rfl
theorem g59 : aggOf Tryz.prog 59 = some false := by kernel_rfl
theorem z59 : szOf Tryz.prog 59 = some 1 := by kernel_rfl
theorem by59 : byOf Tryz.prog 59 = some 24 := by kernel_rfl
theorem zr59 : zrOf Tryz.prog 59 = some (.slice none 0 0) := by kernel_rfl
theorem g61 : aggOf Tryz.prog 61 = some false := by kernel_rfl
theorem z61 : szOf Tryz.prog 61 = some 1 := by kernel_rfl
theorem by61 : byOf Tryz.prog 61 = some 8 := by kernel_rfl
theorem zr61 : zrOf Tryz.prog 61 = some (.nilFunc) := by kernel_rfl
theorem g62 : aggOf Tryz.prog 62 = some false := by kernel_rfl
theorem z62 : szOf Tryz.prog 62 = some 1 := by kernel_rfl
theorem by62 : byOf Tryz.prog 62 = some 8 := by kernel_rfl
theorem zr62 : zrOf Tryz.prog 62 = some (.pointer none) := by kernel_rfl
theorem g63 : aggOf Tryz.prog 63 = some true := by kernel_rfl
theorem z63 : szOf Tryz.prog 63 = some 9 := by kernel_rfl
theorem by63 : byOf Tryz.prog 63 = some 80 := by kernel_rfl
theorem zr63 : zrOf Tryz.prog 63 = some (.agg [.pointer none, .pointer none, .slice none 0 0, .int .i64 (0), .int .u64 (0), .int .u32 (0), .bool false, .int .u64 (0), .int .u32 (0)].toArray) := by kernel_rfl
theorem g64 : aggOf Tryz.prog 64 = some true := by kernel_rfl
theorem z64 : szOf Tryz.prog 64 = some 9 := by kernel_rfl
theorem by64 : byOf Tryz.prog 64 = some 80 := by kernel_rfl
theorem zr64 : zrOf Tryz.prog 64 = some (.agg [.pointer none, .pointer none, .slice none 0 0, .int .i64 (0), .int .u64 (0), .int .u32 (0), .bool false, .int .u64 (0), .int .u32 (0)].toArray) := by kernel_rfl
theorem g65 : aggOf Tryz.prog 65 = some false := by kernel_rfl
theorem z65 : szOf Tryz.prog 65 = some 1 := by kernel_rfl
theorem by65 : byOf Tryz.prog 65 = some 24 := by kernel_rfl
theorem zr65 : zrOf Tryz.prog 65 = some (.slice none 0 0) := by kernel_rfl
theorem g66 : aggOf Tryz.prog 66 = some false := by kernel_rfl
theorem z66 : szOf Tryz.prog 66 = some 1 := by kernel_rfl
theorem by66 : byOf Tryz.prog 66 = some 24 := by kernel_rfl
theorem zr66 : zrOf Tryz.prog 66 = some (.slice none 0 0) := by kernel_rfl
theorem g67 : aggOf Tryz.prog 67 = some true := by kernel_rfl
theorem z67 : szOf Tryz.prog 67 = some 4 := by kernel_rfl
theorem by67 : byOf Tryz.prog 67 = some 80 := by kernel_rfl
theorem zr67 : zrOf Tryz.prog 67 = some (.agg [.slice none 0 0, .int .i64 (0), .slice none 0 0, .slice none 0 0].toArray) := by kernel_rfl
theorem g68 : aggOf Tryz.prog 68 = some true := by kernel_rfl
theorem z68 : szOf Tryz.prog 68 = some 4 := by kernel_rfl
theorem by68 : byOf Tryz.prog 68 = some 80 := by kernel_rfl
theorem zr68 : zrOf Tryz.prog 68 = some (.agg [.slice none 0 0, .int .i64 (0), .slice none 0 0, .slice none 0 0].toArray) := by kernel_rfl
theorem g69 : aggOf Tryz.prog 69 = some false := by kernel_rfl
theorem z69 : szOf Tryz.prog 69 = some 1 := by kernel_rfl
theorem by69 : byOf Tryz.prog 69 = some 8 := by kernel_rfl
theorem zr69 : zrOf Tryz.prog 69 = some (.nilFunc) := by kernel_rfl
theorem g70 : aggOf Tryz.prog 70 = some false := by kernel_rfl
theorem z70 : szOf Tryz.prog 70 = some 1 := by kernel_rfl
theorem by70 : byOf Tryz.prog 70 = some 8 := by kernel_rfl
theorem zr70 : zrOf Tryz.prog 70 = some (.nilFunc) := by kernel_rfl
theorem g71 : aggOf Tryz.prog 71 = some false := by kernel_rfl
theorem z71 : szOf Tryz.prog 71 = some 1 := by kernel_rfl
theorem by71 : byOf Tryz.prog 71 = some 8 := by kernel_rfl
theorem zr71 : zrOf Tryz.prog 71 = some (.nilFunc) := by kernel_rfl
theorem g72 : aggOf Tryz.prog 72 = some true := by kernel_rfl
theorem z72 : szOf Tryz.prog 72 = some 3 := by kernel_rfl
theorem by72 : byOf Tryz.prog 72 = some 24 := by kernel_rfl
theorem zr72 : zrOf Tryz.prog 72 = some (.agg [.int .i64 (0), .int .i64 (0), .int .i64 (0)].toArray) := by kernel_rfl
theorem g73 : aggOf Tryz.prog 73 = some true := by kernel_rfl
theorem z73 : szOf Tryz.prog 73 = some 3 := by kernel_rfl
theorem by73 : byOf Tryz.prog 73 = some 24 := by kernel_rfl
theorem zr73 : zrOf Tryz.prog 73 = some (.agg [.int .i64 (0), .int .i64 (0), .int .i64 (0)].toArray) := by kernel_rfl
theorem g74 : aggOf Tryz.prog 74 = some false := by kernel_rfl
theorem z74 : szOf Tryz.prog 74 = some 1 := by kernel_rfl
theorem by74 : byOf Tryz.prog 74 = some 8 := by kernel_rfl
theorem zr74 : zrOf Tryz.prog 74 = some (.nilFunc) := by kernel_rfl
theorem g75 : aggOf Tryz.prog 75 = some false := by kernel_rfl
theorem z75 : szOf Tryz.prog 75 = some 1 := by kernel_rfl
theorem by75 : byOf Tryz.prog 75 = some 8 := by kernel_rfl
theorem zr75 : zrOf Tryz.prog 75 = some (.pointer none) := by kernel_rfl
theorem g76 : aggOf Tryz.prog 76 = some true := by kernel_rfl
theorem z76 : szOf Tryz.prog 76 = some 8 := by kernel_rfl
theorem by76 : byOf Tryz.prog 76 = some 112 := by kernel_rfl
theorem zr76 : zrOf Tryz.prog 76 = some (.agg [.int .i64 (0), .int .u64 (0), .int .u64 (0), .int .u32 (0), .slice none 0 0, .slice none 0 0, .slice none 0 0, .int .u64 (0)].toArray) := by kernel_rfl
theorem g77 : aggOf Tryz.prog 77 = some true := by kernel_rfl
theorem z77 : szOf Tryz.prog 77 = some 8 := by kernel_rfl
theorem by77 : byOf Tryz.prog 77 = some 112 := by kernel_rfl
theorem zr77 : zrOf Tryz.prog 77 = some (.agg [.int .i64 (0), .int .u64 (0), .int .u64 (0), .int .u32 (0), .slice none 0 0, .slice none 0 0, .slice none 0 0, .int .u64 (0)].toArray) := by kernel_rfl
theorem g78 : aggOf Tryz.prog 78 = some false := by kernel_rfl
theorem z78 : szOf Tryz.prog 78 = some 1 := by kernel_rfl
theorem by78 : byOf Tryz.prog 78 = some 8 := by kernel_rfl
theorem zr78 : zrOf Tryz.prog 78 = some (.nilFunc) := by kernel_rfl
theorem g79 : aggOf Tryz.prog 79 = some false := by kernel_rfl
theorem z79 : szOf Tryz.prog 79 = some 1 := by kernel_rfl
theorem by79 : byOf Tryz.prog 79 = some 8 := by kernel_rfl
theorem zr79 : zrOf Tryz.prog 79 = some (.nilFunc) := by kernel_rfl
theorem g80 : aggOf Tryz.prog 80 = some false := by kernel_rfl
theorem z80 : szOf Tryz.prog 80 = some 1 := by kernel_rfl
theorem by80 : byOf Tryz.prog 80 = some 8 := by kernel_rfl
theorem zr80 : zrOf Tryz.prog 80 = some (.nilFunc) := by kernel_rfl
theorem g81 : aggOf Tryz.prog 81 = some false := by kernel_rfl
theorem z81 : szOf Tryz.prog 81 = some 1 := by kernel_rfl
theorem by81 : byOf Tryz.prog 81 = some 8 := by kernel_rfl
theorem zr81 : zrOf Tryz.prog 81 = some (.nilFunc) := by kernel_rfl
theorem g82 : aggOf Tryz.prog 82 = some false := by kernel_rfl
theorem z82 : szOf Tryz.prog 82 = some 1 := by kernel_rfl
theorem by82 : byOf Tryz.prog 82 = some 8 := by kernel_rfl
theorem zr82 : zrOf Tryz.prog 82 = some (.nilFunc) := by kernel_rfl
theorem g83 : aggOf Tryz.prog 83 = some false := by kernel_rfl
theorem z83 : szOf Tryz.prog 83 = some 1 := by kernel_rfl
theorem by83 : byOf Tryz.prog 83 = some 8 := by kernel_rfl
theorem zr83 : zrOf Tryz.prog 83 = some (.nilFunc) := by kernel_rfl
theorem g84 : aggOf Tryz.prog 84 = some false := by kernel_rfl
theorem z84 : szOf Tryz.prog 84 = some 1 := by kernel_rfl
theorem by84 : byOf Tryz.prog 84 = some 24 := by kernel_rfl
theorem zr84 : zrOf Tryz.prog 84 = some (.slice none 0 0) := by kernel_rfl
theorem g85 : aggOf Tryz.prog 85 = some true := by kernel_rfl
theorem z85 : szOf Tryz.prog 85 = some 4 := by kernel_rfl
theorem by85 : byOf Tryz.prog 85 = some 48 := by kernel_rfl
theorem zr85 : zrOf Tryz.prog 85 = some (.agg [.int .i64 (0), .int .u64 (0), .int .u32 (0), .slice none 0 0].toArray) := by kernel_rfl
theorem g86 : aggOf Tryz.prog 86 = some true := by kernel_rfl
theorem z86 : szOf Tryz.prog 86 = some 4 := by kernel_rfl
theorem by86 : byOf Tryz.prog 86 = some 48 := by kernel_rfl
theorem zr86 : zrOf Tryz.prog 86 = some (.agg [.int .i64 (0), .int .u64 (0), .int .u32 (0), .slice none 0 0].toArray) := by kernel_rfl
theorem g87 : aggOf Tryz.prog 87 = some true := by kernel_rfl
theorem z87 : szOf Tryz.prog 87 = some 5 := by kernel_rfl
theorem by87 : byOf Tryz.prog 87 = some 56 := by kernel_rfl
theorem zr87 : zrOf Tryz.prog 87 = some (.agg [.int .u32 (0), .int .i64 (0), .int .u64 (0), .int .u32 (0), .slice none 0 0].toArray) := by kernel_rfl
theorem g88 : aggOf Tryz.prog 88 = some true := by kernel_rfl
theorem z88 : szOf Tryz.prog 88 = some 5 := by kernel_rfl
theorem by88 : byOf Tryz.prog 88 = some 56 := by kernel_rfl
theorem zr88 : zrOf Tryz.prog 88 = some (.agg [.int .u32 (0), .int .i64 (0), .int .u64 (0), .int .u32 (0), .slice none 0 0].toArray) := by kernel_rfl
theorem g89 : aggOf Tryz.prog 89 = some true := by kernel_rfl
theorem z89 : szOf Tryz.prog 89 = some 3 := by kernel_rfl
theorem by89 : byOf Tryz.prog 89 = some 32 := by kernel_rfl
theorem zr89 : zrOf Tryz.prog 89 = some (.agg [.bool false, .int .u32 (0), .slice none 0 0].toArray) := by kernel_rfl
theorem g90 : aggOf Tryz.prog 90 = some true := by kernel_rfl
theorem z90 : szOf Tryz.prog 90 = some 3 := by kernel_rfl
theorem by90 : byOf Tryz.prog 90 = some 32 := by kernel_rfl
theorem zr90 : zrOf Tryz.prog 90 = some (.agg [.bool false, .int .u32 (0), .slice none 0 0].toArray) := by kernel_rfl
theorem g92 : aggOf Tryz.prog 92 = some false := by kernel_rfl
theorem z92 : szOf Tryz.prog 92 = some 1 := by kernel_rfl
theorem by92 : byOf Tryz.prog 92 = some 8 := by kernel_rfl
theorem zr92 : zrOf Tryz.prog 92 = some (.nilFunc) := by kernel_rfl
theorem g93 : aggOf Tryz.prog 93 = some false := by kernel_rfl
theorem z93 : szOf Tryz.prog 93 = some 1 := by kernel_rfl
theorem by93 : byOf Tryz.prog 93 = some 8 := by kernel_rfl
theorem zr93 : zrOf Tryz.prog 93 = some (.nilFunc) := by kernel_rfl
theorem g95 : aggOf Tryz.prog 95 = some false := by kernel_rfl
theorem z95 : szOf Tryz.prog 95 = some 1 := by kernel_rfl
theorem by95 : byOf Tryz.prog 95 = some 8 := by kernel_rfl
theorem zr95 : zrOf Tryz.prog 95 = some (.nilFunc) := by kernel_rfl
theorem g96 : aggOf Tryz.prog 96 = some false := by kernel_rfl
theorem z96 : szOf Tryz.prog 96 = some 1 := by kernel_rfl
theorem by96 : byOf Tryz.prog 96 = some 8 := by kernel_rfl
theorem zr96 : zrOf Tryz.prog 96 = some (.nilFunc) := by kernel_rfl
theorem g97 : aggOf Tryz.prog 97 = some false := by kernel_rfl
theorem z97 : szOf Tryz.prog 97 = some 1 := by kernel_rfl
theorem by97 : byOf Tryz.prog 97 = some 8 := by kernel_rfl
theorem zr97 : zrOf Tryz.prog 97 = some (.nilFunc) := by kernel_rfl
theorem g98 : aggOf Tryz.prog 98 = some false := by kernel_rfl
theorem z98 : szOf Tryz.prog 98 = some 1 := by kernel_rfl
theorem by98 : byOf Tryz.prog 98 = some 8 := by kernel_rfl
theorem zr98 : zrOf Tryz.prog 98 = some (.nilFunc) := by kernel_rfl
theorem g100 : aggOf Tryz.prog 100 = some false := by kernel_rfl
theorem z100 : szOf Tryz.prog 100 = some 1 := by kernel_rfl
theorem by100 : byOf Tryz.prog 100 = some 8 := by kernel_rfl
theorem zr100 : zrOf Tryz.prog 100 = some (.nilFunc) := by kernel_rfl
theorem g101 : aggOf Tryz.prog 101 = some false := by kernel_rfl
theorem z101 : szOf Tryz.prog 101 = some 1 := by kernel_rfl
theorem by101 : byOf Tryz.prog 101 = some 24 := by kernel_rfl
theorem zr101 : zrOf Tryz.prog 101 = some (.slice none 0 0) := by kernel_rfl
theorem g103 : aggOf Tryz.prog 103 = some false := by kernel_rfl
theorem z103 : szOf Tryz.prog 103 = some 1 := by kernel_rfl
theorem by103 : byOf Tryz.prog 103 = some 8 := by kernel_rfl
theorem zr103 : zrOf Tryz.prog 103 = some (.nilFunc) := by kernel_rfl
theorem g105 : aggOf Tryz.prog 105 = some false := by kernel_rfl
theorem z105 : szOf Tryz.prog 105 = some 1 := by kernel_rfl
theorem by105 : byOf Tryz.prog 105 = some 8 := by kernel_rfl
theorem zr105 : zrOf Tryz.prog 105 = some (.nilFunc) := by kernel_rfl
theorem g106 : aggOf Tryz.prog 106 = some false := by kernel_rfl
theorem z106 : szOf Tryz.prog 106 = some 1 := by kernel_rfl
theorem by106 : byOf Tryz.prog 106 = some 8 := by kernel_rfl
theorem zr106 : zrOf Tryz.prog 106 = some (.nilFunc) := by kernel_rfl
theorem g107 : aggOf Tryz.prog 107 = some false := by kernel_rfl
theorem z107 : szOf Tryz.prog 107 = some 1 := by kernel_rfl
theorem by107 : byOf Tryz.prog 107 = some 24 := by kernel_rfl
theorem zr107 : zrOf Tryz.prog 107 = some (.slice none 0 0) := by kernel_rfl
theorem g109 : aggOf Tryz.prog 109 = some true := by kernel_rfl
theorem z109 : szOf Tryz.prog 109 = some 7 := by kernel_rfl
theorem by109 : byOf Tryz.prog 109 = some 88 := by kernel_rfl
theorem zr109 : zrOf Tryz.prog 109 = some (.agg [.slice none 0 0, .slice none 0 0, .int .i64 (0), .bool false, .int .i64 (0), .int .i64 (0), .int .i64 (0)].toArray) := by kernel_rfl
theorem g111 : aggOf Tryz.prog 111 = some false := by kernel_rfl
theorem z111 : szOf Tryz.prog 111 = some 1 := by kernel_rfl
theorem by111 : byOf Tryz.prog 111 = some 8 := by kernel_rfl
theorem zr111 : zrOf Tryz.prog 111 = some (.nilFunc) := by kernel_rfl
theorem g112 : aggOf Tryz.prog 112 = some true := by kernel_rfl
theorem z112 : szOf Tryz.prog 112 = some 512 := by kernel_rfl
theorem by112 : byOf Tryz.prog 112 = some 512 := by kernel_rfl
theorem g114 : aggOf Tryz.prog 114 = some true := by kernel_rfl
theorem z114 : szOf Tryz.prog 114 = some 513 := by kernel_rfl
theorem by114 : byOf Tryz.prog 114 = some 520 := by kernel_rfl
theorem g115 : aggOf Tryz.prog 115 = some false := by kernel_rfl
theorem z115 : szOf Tryz.prog 115 = some 1 := by kernel_rfl
theorem by115 : byOf Tryz.prog 115 = some 8 := by kernel_rfl
theorem zr115 : zrOf Tryz.prog 115 = some (.nilFunc) := by kernel_rfl
theorem g117 : aggOf Tryz.prog 117 = some false := by kernel_rfl
theorem z117 : szOf Tryz.prog 117 = some 1 := by kernel_rfl
theorem by117 : byOf Tryz.prog 117 = some 8 := by kernel_rfl
theorem zr117 : zrOf Tryz.prog 117 = some (.nilFunc) := by kernel_rfl
theorem g118 : aggOf Tryz.prog 118 = some false := by kernel_rfl
theorem z118 : szOf Tryz.prog 118 = some 1 := by kernel_rfl
theorem by118 : byOf Tryz.prog 118 = some 8 := by kernel_rfl
theorem zr118 : zrOf Tryz.prog 118 = some (.nilFunc) := by kernel_rfl
theorem g119 : aggOf Tryz.prog 119 = some false := by kernel_rfl
theorem z119 : szOf Tryz.prog 119 = some 1 := by kernel_rfl
theorem by119 : byOf Tryz.prog 119 = some 8 := by kernel_rfl
theorem zr119 : zrOf Tryz.prog 119 = some (.nilFunc) := by kernel_rfl
theorem g120 : aggOf Tryz.prog 120 = some false := by kernel_rfl
theorem z120 : szOf Tryz.prog 120 = some 1 := by kernel_rfl
theorem by120 : byOf Tryz.prog 120 = some 8 := by kernel_rfl
theorem zr120 : zrOf Tryz.prog 120 = some (.nilFunc) := by kernel_rfl
theorem g121 : aggOf Tryz.prog 121 = some false := by kernel_rfl
theorem z121 : szOf Tryz.prog 121 = some 1 := by kernel_rfl
theorem by121 : byOf Tryz.prog 121 = some 8 := by kernel_rfl
theorem zr121 : zrOf Tryz.prog 121 = some (.pointer none) := by kernel_rfl
theorem g122 : aggOf Tryz.prog 122 = some false := by kernel_rfl
theorem z122 : szOf Tryz.prog 122 = some 1 := by kernel_rfl
theorem by122 : byOf Tryz.prog 122 = some 8 := by kernel_rfl
theorem zr122 : zrOf Tryz.prog 122 = some (.nilFunc) := by kernel_rfl
theorem g123 : aggOf Tryz.prog 123 = some false := by kernel_rfl
theorem z123 : szOf Tryz.prog 123 = some 1 := by kernel_rfl
theorem by123 : byOf Tryz.prog 123 = some 8 := by kernel_rfl
theorem zr123 : zrOf Tryz.prog 123 = some (.nilFunc) := by kernel_rfl
theorem g124 : aggOf Tryz.prog 124 = some false := by kernel_rfl
theorem z124 : szOf Tryz.prog 124 = some 1 := by kernel_rfl
theorem by124 : byOf Tryz.prog 124 = some 2 := by kernel_rfl
theorem zr124 : zrOf Tryz.prog 124 = some (.int .u16 (0)) := by kernel_rfl
theorem g125 : aggOf Tryz.prog 125 = some false := by kernel_rfl
theorem z125 : szOf Tryz.prog 125 = some 1 := by kernel_rfl
theorem by125 : byOf Tryz.prog 125 = some 8 := by kernel_rfl
theorem zr125 : zrOf Tryz.prog 125 = some (.nilFunc) := by kernel_rfl
theorem g126 : aggOf Tryz.prog 126 = some false := by kernel_rfl
theorem z126 : szOf Tryz.prog 126 = some 1 := by kernel_rfl
theorem by126 : byOf Tryz.prog 126 = some 8 := by kernel_rfl
theorem zr126 : zrOf Tryz.prog 126 = some (.int .u64 (0)) := by kernel_rfl
theorem g128 : aggOf Tryz.prog 128 = some false := by kernel_rfl
theorem z128 : szOf Tryz.prog 128 = some 1 := by kernel_rfl
theorem by128 : byOf Tryz.prog 128 = some 24 := by kernel_rfl
theorem zr128 : zrOf Tryz.prog 128 = some (.slice none 0 0) := by kernel_rfl
theorem g130 : aggOf Tryz.prog 130 = some false := by kernel_rfl
theorem z130 : szOf Tryz.prog 130 = some 1 := by kernel_rfl
theorem by130 : byOf Tryz.prog 130 = some 8 := by kernel_rfl
theorem zr130 : zrOf Tryz.prog 130 = some (.pointer none) := by kernel_rfl
theorem g135 : aggOf Tryz.prog 135 = some false := by kernel_rfl
theorem z135 : szOf Tryz.prog 135 = some 1 := by kernel_rfl
theorem by135 : byOf Tryz.prog 135 = some 8 := by kernel_rfl
theorem zr135 : zrOf Tryz.prog 135 = some (.nilFunc) := by kernel_rfl
theorem g138 : aggOf Tryz.prog 138 = some true := by kernel_rfl
theorem z138 : szOf Tryz.prog 138 = some 4 := by kernel_rfl
theorem by138 : byOf Tryz.prog 138 = some 32 := by kernel_rfl
theorem zr138 : zrOf Tryz.prog 138 = some (.agg [.int .u32 (0), .int .u64 (0), .int .u64 (0), .bool false].toArray) := by kernel_rfl
theorem g139 : aggOf Tryz.prog 139 = some true := by kernel_rfl
theorem z139 : szOf Tryz.prog 139 = some 4 := by kernel_rfl
theorem by139 : byOf Tryz.prog 139 = some 32 := by kernel_rfl
theorem zr139 : zrOf Tryz.prog 139 = some (.agg [.int .u32 (0), .int .u64 (0), .int .u64 (0), .bool false].toArray) := by kernel_rfl
theorem g141 : aggOf Tryz.prog 141 = some true := by kernel_rfl
theorem z141 : szOf Tryz.prog 141 = some 2 := by kernel_rfl
theorem by141 : byOf Tryz.prog 141 = some 16 := by kernel_rfl
theorem zr141 : zrOf Tryz.prog 141 = some (.agg [.int .u32 (0), .int .u64 (0)].toArray) := by kernel_rfl
theorem g143 : aggOf Tryz.prog 143 = some false := by kernel_rfl
theorem z143 : szOf Tryz.prog 143 = some 1 := by kernel_rfl
theorem by143 : byOf Tryz.prog 143 = some 8 := by kernel_rfl
theorem zr143 : zrOf Tryz.prog 143 = some (.nilFunc) := by kernel_rfl
theorem g146 : aggOf Tryz.prog 146 = some true := by kernel_rfl
theorem z146 : szOf Tryz.prog 146 = some 2 := by kernel_rfl
theorem by146 : byOf Tryz.prog 146 = some 32 := by kernel_rfl
theorem zr146 : zrOf Tryz.prog 146 = some (.agg [.bool false, .slice none 0 0].toArray) := by kernel_rfl
theorem g147 : aggOf Tryz.prog 147 = some true := by kernel_rfl
theorem z147 : szOf Tryz.prog 147 = some 2 := by kernel_rfl
theorem by147 : byOf Tryz.prog 147 = some 32 := by kernel_rfl
theorem zr147 : zrOf Tryz.prog 147 = some (.agg [.bool false, .slice none 0 0].toArray) := by kernel_rfl
theorem g148 : aggOf Tryz.prog 148 = some true := by kernel_rfl
theorem z148 : szOf Tryz.prog 148 = some 2 := by kernel_rfl
theorem by148 : byOf Tryz.prog 148 = some 32 := by kernel_rfl
theorem zr148 : zrOf Tryz.prog 148 = some (.agg [.bool false, .slice none 0 0].toArray) := by kernel_rfl
theorem g149 : aggOf Tryz.prog 149 = some false := by kernel_rfl
theorem z149 : szOf Tryz.prog 149 = some 1 := by kernel_rfl
theorem by149 : byOf Tryz.prog 149 = some 8 := by kernel_rfl
theorem zr149 : zrOf Tryz.prog 149 = some (.nilFunc) := by kernel_rfl
theorem g152 : aggOf Tryz.prog 152 = some false := by kernel_rfl
theorem z152 : szOf Tryz.prog 152 = some 1 := by kernel_rfl
theorem by152 : byOf Tryz.prog 152 = some 8 := by kernel_rfl
theorem zr152 : zrOf Tryz.prog 152 = some (.nilFunc) := by kernel_rfl
theorem g154 : aggOf Tryz.prog 154 = some false := by kernel_rfl
theorem z154 : szOf Tryz.prog 154 = some 1 := by kernel_rfl
theorem by154 : byOf Tryz.prog 154 = some 8 := by kernel_rfl
theorem zr154 : zrOf Tryz.prog 154 = some (.nilFunc) := by kernel_rfl
theorem g155 : aggOf Tryz.prog 155 = some false := by kernel_rfl
theorem z155 : szOf Tryz.prog 155 = some 1 := by kernel_rfl
theorem by155 : byOf Tryz.prog 155 = some 8 := by kernel_rfl
theorem zr155 : zrOf Tryz.prog 155 = some (.nilFunc) := by kernel_rfl
theorem g156 : aggOf Tryz.prog 156 = some true := by kernel_rfl
theorem z156 : szOf Tryz.prog 156 = some 3 := by kernel_rfl
theorem by156 : byOf Tryz.prog 156 = some 40 := by kernel_rfl
theorem zr156 : zrOf Tryz.prog 156 = some (.agg [.bool false, .slice none 0 0, .bool false].toArray) := by kernel_rfl
theorem g157 : aggOf Tryz.prog 157 = some true := by kernel_rfl
theorem z157 : szOf Tryz.prog 157 = some 3 := by kernel_rfl
theorem by157 : byOf Tryz.prog 157 = some 40 := by kernel_rfl
theorem zr157 : zrOf Tryz.prog 157 = some (.agg [.bool false, .slice none 0 0, .bool false].toArray) := by kernel_rfl
theorem g160 : aggOf Tryz.prog 160 = some false := by kernel_rfl
theorem z160 : szOf Tryz.prog 160 = some 1 := by kernel_rfl
theorem by160 : byOf Tryz.prog 160 = some 8 := by kernel_rfl
theorem zr160 : zrOf Tryz.prog 160 = some (.nilFunc) := by kernel_rfl
theorem g167 : aggOf Tryz.prog 167 = some false := by kernel_rfl
theorem z167 : szOf Tryz.prog 167 = some 1 := by kernel_rfl
theorem by167 : byOf Tryz.prog 167 = some 8 := by kernel_rfl
theorem zr167 : zrOf Tryz.prog 167 = some (.nilFunc) := by kernel_rfl
theorem g168 : aggOf Tryz.prog 168 = some false := by kernel_rfl
theorem z168 : szOf Tryz.prog 168 = some 1 := by kernel_rfl
theorem by168 : byOf Tryz.prog 168 = some 8 := by kernel_rfl
theorem zr168 : zrOf Tryz.prog 168 = some (.nilFunc) := by kernel_rfl
theorem g170 : aggOf Tryz.prog 170 = some false := by kernel_rfl
theorem z170 : szOf Tryz.prog 170 = some 1 := by kernel_rfl
theorem by170 : byOf Tryz.prog 170 = some 8 := by kernel_rfl
theorem zr170 : zrOf Tryz.prog 170 = some (.nilFunc) := by kernel_rfl
theorem g171 : aggOf Tryz.prog 171 = some false := by kernel_rfl
theorem z171 : szOf Tryz.prog 171 = some 1 := by kernel_rfl
theorem by171 : byOf Tryz.prog 171 = some 8 := by kernel_rfl
theorem zr171 : zrOf Tryz.prog 171 = some (.nilFunc) := by kernel_rfl
theorem g172 : aggOf Tryz.prog 172 = some false := by kernel_rfl
theorem z172 : szOf Tryz.prog 172 = some 1 := by kernel_rfl
theorem by172 : byOf Tryz.prog 172 = some 8 := by kernel_rfl
theorem zr172 : zrOf Tryz.prog 172 = some (.nilFunc) := by kernel_rfl
theorem g173 : aggOf Tryz.prog 173 = some false := by kernel_rfl
theorem z173 : szOf Tryz.prog 173 = some 1 := by kernel_rfl
theorem by173 : byOf Tryz.prog 173 = some 8 := by kernel_rfl
theorem zr173 : zrOf Tryz.prog 173 = some (.nilFunc) := by kernel_rfl
theorem g174 : aggOf Tryz.prog 174 = some false := by kernel_rfl
theorem z174 : szOf Tryz.prog 174 = some 1 := by kernel_rfl
theorem by174 : byOf Tryz.prog 174 = some 8 := by kernel_rfl
theorem zr174 : zrOf Tryz.prog 174 = some (.nilFunc) := by kernel_rfl
theorem g175 : aggOf Tryz.prog 175 = some false := by kernel_rfl
theorem z175 : szOf Tryz.prog 175 = some 1 := by kernel_rfl
theorem by175 : byOf Tryz.prog 175 = some 8 := by kernel_rfl
theorem zr175 : zrOf Tryz.prog 175 = some (.nilFunc) := by kernel_rfl
theorem g178 : aggOf Tryz.prog 178 = some false := by kernel_rfl
theorem z178 : szOf Tryz.prog 178 = some 1 := by kernel_rfl
theorem by178 : byOf Tryz.prog 178 = some 8 := by kernel_rfl
theorem zr178 : zrOf Tryz.prog 178 = some (.nilFunc) := by kernel_rfl
theorem g181 : aggOf Tryz.prog 181 = some false := by kernel_rfl
theorem z181 : szOf Tryz.prog 181 = some 1 := by kernel_rfl
theorem by181 : byOf Tryz.prog 181 = some 8 := by kernel_rfl
theorem zr181 : zrOf Tryz.prog 181 = some (.pointer none) := by kernel_rfl
theorem g184 : aggOf Tryz.prog 184 = some false := by kernel_rfl
theorem z184 : szOf Tryz.prog 184 = some 1 := by kernel_rfl
theorem by184 : byOf Tryz.prog 184 = some 8 := by kernel_rfl
theorem zr184 : zrOf Tryz.prog 184 = some (.nilFunc) := by kernel_rfl
theorem g188 : aggOf Tryz.prog 188 = some false := by kernel_rfl
theorem z188 : szOf Tryz.prog 188 = some 1 := by kernel_rfl
theorem by188 : byOf Tryz.prog 188 = some 8 := by kernel_rfl
theorem zr188 : zrOf Tryz.prog 188 = some (.nilFunc) := by kernel_rfl
theorem g189 : aggOf Tryz.prog 189 = some false := by kernel_rfl
theorem z189 : szOf Tryz.prog 189 = some 1 := by kernel_rfl
theorem by189 : byOf Tryz.prog 189 = some 8 := by kernel_rfl
theorem zr189 : zrOf Tryz.prog 189 = some (.nilFunc) := by kernel_rfl
theorem g195 : aggOf Tryz.prog 195 = some true := by kernel_rfl
theorem z195 : szOf Tryz.prog 195 = some 0 := by kernel_rfl
theorem by195 : byOf Tryz.prog 195 = some 0 := by kernel_rfl
theorem zr195 : zrOf Tryz.prog 195 = some (.agg [].toArray) := by kernel_rfl
theorem g196 : aggOf Tryz.prog 196 = some true := by kernel_rfl
theorem z196 : szOf Tryz.prog 196 = some 0 := by kernel_rfl
theorem by196 : byOf Tryz.prog 196 = some 0 := by kernel_rfl
theorem zr196 : zrOf Tryz.prog 196 = some (.agg [].toArray) := by kernel_rfl
theorem g197 : aggOf Tryz.prog 197 = some true := by kernel_rfl
theorem z197 : szOf Tryz.prog 197 = some 0 := by kernel_rfl
theorem by197 : byOf Tryz.prog 197 = some 0 := by kernel_rfl
theorem zr197 : zrOf Tryz.prog 197 = some (.agg [].toArray) := by kernel_rfl
theorem g198 : aggOf Tryz.prog 198 = some false := by kernel_rfl
theorem z198 : szOf Tryz.prog 198 = some 1 := by kernel_rfl
theorem by198 : byOf Tryz.prog 198 = some 1 := by kernel_rfl
theorem zr198 : zrOf Tryz.prog 198 = some (.int .u8 (0)) := by kernel_rfl
theorem g199 : aggOf Tryz.prog 199 = some false := by kernel_rfl
theorem z199 : szOf Tryz.prog 199 = some 1 := by kernel_rfl
theorem by199 : byOf Tryz.prog 199 = some 1 := by kernel_rfl
theorem zr199 : zrOf Tryz.prog 199 = some (.int .u8 (0)) := by kernel_rfl
theorem g200 : aggOf Tryz.prog 200 = some false := by kernel_rfl
theorem z200 : szOf Tryz.prog 200 = some 1 := by kernel_rfl
theorem by200 : byOf Tryz.prog 200 = some 8 := by kernel_rfl
theorem zr200 : zrOf Tryz.prog 200 = some (.nilFunc) := by kernel_rfl
theorem g201 : aggOf Tryz.prog 201 = some false := by kernel_rfl
theorem z201 : szOf Tryz.prog 201 = some 1 := by kernel_rfl
theorem by201 : byOf Tryz.prog 201 = some 8 := by kernel_rfl
theorem zr201 : zrOf Tryz.prog 201 = some (.pointer none) := by kernel_rfl
theorem g202 : aggOf Tryz.prog 202 = some false := by kernel_rfl
theorem z202 : szOf Tryz.prog 202 = some 1 := by kernel_rfl
theorem by202 : byOf Tryz.prog 202 = some 4 := by kernel_rfl
theorem zr202 : zrOf Tryz.prog 202 = some (.int .i32 (0)) := by kernel_rfl
theorem g203 : aggOf Tryz.prog 203 = some false := by kernel_rfl
theorem z203 : szOf Tryz.prog 203 = some 1 := by kernel_rfl
theorem by203 : byOf Tryz.prog 203 = some 4 := by kernel_rfl
theorem zr203 : zrOf Tryz.prog 203 = some (.int .i32 (0)) := by kernel_rfl
theorem g204 : aggOf Tryz.prog 204 = some true := by kernel_rfl
theorem z204 : szOf Tryz.prog 204 = some 11 := by kernel_rfl
theorem by204 : byOf Tryz.prog 204 = some 48 := by kernel_rfl
theorem zr204 : zrOf Tryz.prog 204 = some (.agg [.int .u64 (0), .int .u64 (0), .int .u32 (0), .int .u8 (0), .int .u8 (0), .int .u8 (0), .int .u8 (0), .nilFunc, .pointer none, .int .i32 (0), .int .i32 (0)].toArray) := by kernel_rfl
theorem fo30_0 : fldOff Tryz.prog 30 0 = some (0, 3, 1) := by kernel_rfl
theorem fo30_1 : fldOff Tryz.prog 30 1 = some (1, 27, 1) := by kernel_rfl
theorem fo30_2 : fldOff Tryz.prog 30 2 = some (2, 27, 1) := by kernel_rfl
theorem fo30_3 : fldOff Tryz.prog 30 3 = some (3, 28, 1) := by kernel_rfl
theorem fo30_4 : fldOff Tryz.prog 30 4 = some (4, 4, 1) := by kernel_rfl
theorem fo34_0 : fldOff Tryz.prog 34 0 = some (0, 26, 1) := by kernel_rfl
theorem fo34_1 : fldOff Tryz.prog 34 1 = some (1, 30, 5) := by kernel_rfl
theorem fo34_2 : fldOff Tryz.prog 34 2 = some (6, 31, 1) := by kernel_rfl
theorem fo34_3 : fldOff Tryz.prog 34 3 = some (7, 32, 1) := by kernel_rfl
theorem fo34_4 : fldOff Tryz.prog 34 4 = some (8, 27, 1) := by kernel_rfl
theorem fo40_0 : fldOff Tryz.prog 40 0 = some (0, 3, 1) := by kernel_rfl
theorem fo40_1 : fldOff Tryz.prog 40 1 = some (1, 3, 1) := by kernel_rfl
theorem fo40_2 : fldOff Tryz.prog 40 2 = some (2, 28, 1) := by kernel_rfl
theorem fo40_3 : fldOff Tryz.prog 40 3 = some (3, 31, 1) := by kernel_rfl
theorem fo45_0 : fldOff Tryz.prog 45 0 = some (0, 3, 1) := by kernel_rfl
theorem fo45_1 : fldOff Tryz.prog 45 1 = some (1, 27, 1) := by kernel_rfl
theorem fo45_2 : fldOff Tryz.prog 45 2 = some (2, 28, 1) := by kernel_rfl
theorem fo45_3 : fldOff Tryz.prog 45 3 = some (3, 27, 1) := by kernel_rfl
theorem fo45_4 : fldOff Tryz.prog 45 4 = some (4, 27, 1) := by kernel_rfl
theorem fo45_5 : fldOff Tryz.prog 45 5 = some (5, 28, 1) := by kernel_rfl
theorem fo45_6 : fldOff Tryz.prog 45 6 = some (6, 28, 1) := by kernel_rfl
theorem fo45_7 : fldOff Tryz.prog 45 7 = some (7, 40, 4) := by kernel_rfl
theorem fo45_8 : fldOff Tryz.prog 45 8 = some (11, 41, 1) := by kernel_rfl
theorem fo45_9 : fldOff Tryz.prog 45 9 = some (12, 42, 1) := by kernel_rfl
theorem fo45_10 : fldOff Tryz.prog 45 10 = some (13, 43, 1) := by kernel_rfl
theorem fo45_11 : fldOff Tryz.prog 45 11 = some (14, 28, 1) := by kernel_rfl
theorem fo47_0 : fldOff Tryz.prog 47 0 = some (0, 3, 1) := by kernel_rfl
theorem fo47_1 : fldOff Tryz.prog 47 1 = some (1, 45, 15) := by kernel_rfl
theorem fo47_2 : fldOff Tryz.prog 47 2 = some (16, 3, 1) := by kernel_rfl
theorem fo64_0 : fldOff Tryz.prog 64 0 = some (0, 26, 1) := by kernel_rfl
theorem fo64_1 : fldOff Tryz.prog 64 1 = some (1, 25, 1) := by kernel_rfl
theorem fo64_2 : fldOff Tryz.prog 64 2 = some (2, 54, 1) := by kernel_rfl
theorem fo64_3 : fldOff Tryz.prog 64 3 = some (3, 3, 1) := by kernel_rfl
theorem fo64_4 : fldOff Tryz.prog 64 4 = some (4, 27, 1) := by kernel_rfl
theorem fo64_5 : fldOff Tryz.prog 64 5 = some (5, 28, 1) := by kernel_rfl
theorem fo64_6 : fldOff Tryz.prog 64 6 = some (6, 4, 1) := by kernel_rfl
theorem fo64_7 : fldOff Tryz.prog 64 7 = some (7, 27, 1) := by kernel_rfl
theorem fo64_8 : fldOff Tryz.prog 64 8 = some (8, 28, 1) := by kernel_rfl
theorem fo68_0 : fldOff Tryz.prog 68 0 = some (0, 22, 1) := by kernel_rfl
theorem fo68_1 : fldOff Tryz.prog 68 1 = some (1, 3, 1) := by kernel_rfl
theorem fo68_2 : fldOff Tryz.prog 68 2 = some (2, 65, 1) := by kernel_rfl
theorem fo68_3 : fldOff Tryz.prog 68 3 = some (3, 66, 1) := by kernel_rfl
theorem fo73_0 : fldOff Tryz.prog 73 0 = some (0, 3, 1) := by kernel_rfl
theorem fo73_1 : fldOff Tryz.prog 73 1 = some (1, 3, 1) := by kernel_rfl
theorem fo73_2 : fldOff Tryz.prog 73 2 = some (2, 3, 1) := by kernel_rfl
theorem fo77_0 : fldOff Tryz.prog 77 0 = some (0, 3, 1) := by kernel_rfl
theorem fo77_1 : fldOff Tryz.prog 77 1 = some (1, 27, 1) := by kernel_rfl
theorem fo77_2 : fldOff Tryz.prog 77 2 = some (2, 27, 1) := by kernel_rfl
theorem fo77_3 : fldOff Tryz.prog 77 3 = some (3, 28, 1) := by kernel_rfl
theorem fo77_4 : fldOff Tryz.prog 77 4 = some (4, 31, 1) := by kernel_rfl
theorem fo77_5 : fldOff Tryz.prog 77 5 = some (5, 32, 1) := by kernel_rfl
theorem fo77_6 : fldOff Tryz.prog 77 6 = some (6, 54, 1) := by kernel_rfl
theorem fo77_7 : fldOff Tryz.prog 77 7 = some (7, 27, 1) := by kernel_rfl
theorem fo86_0 : fldOff Tryz.prog 86 0 = some (0, 3, 1) := by kernel_rfl
theorem fo86_1 : fldOff Tryz.prog 86 1 = some (1, 27, 1) := by kernel_rfl
theorem fo86_2 : fldOff Tryz.prog 86 2 = some (2, 28, 1) := by kernel_rfl
theorem fo86_3 : fldOff Tryz.prog 86 3 = some (3, 84, 1) := by kernel_rfl
theorem fo88_0 : fldOff Tryz.prog 88 0 = some (0, 28, 1) := by kernel_rfl
theorem fo88_1 : fldOff Tryz.prog 88 1 = some (1, 86, 4) := by kernel_rfl
theorem fo90_0 : fldOff Tryz.prog 90 0 = some (0, 4, 1) := by kernel_rfl
theorem fo90_1 : fldOff Tryz.prog 90 1 = some (1, 28, 1) := by kernel_rfl
theorem fo90_2 : fldOff Tryz.prog 90 2 = some (2, 31, 1) := by kernel_rfl
theorem fo109_0 : fldOff Tryz.prog 109 0 = some (0, 101, 1) := by kernel_rfl
theorem fo109_1 : fldOff Tryz.prog 109 1 = some (1, 107, 1) := by kernel_rfl
theorem fo109_2 : fldOff Tryz.prog 109 2 = some (2, 3, 1) := by kernel_rfl
theorem fo109_3 : fldOff Tryz.prog 109 3 = some (3, 4, 1) := by kernel_rfl
theorem fo109_4 : fldOff Tryz.prog 109 4 = some (4, 73, 3) := by kernel_rfl
theorem fo114_0 : fldOff Tryz.prog 114 0 = some (0, 3, 1) := by kernel_rfl
theorem fo114_1 : fldOff Tryz.prog 114 1 = some (1, 112, 512) := by kernel_rfl
theorem fo139_0 : fldOff Tryz.prog 139 0 = some (0, 28, 1) := by kernel_rfl
theorem fo139_1 : fldOff Tryz.prog 139 1 = some (1, 27, 1) := by kernel_rfl
theorem fo139_2 : fldOff Tryz.prog 139 2 = some (2, 27, 1) := by kernel_rfl
theorem fo139_3 : fldOff Tryz.prog 139 3 = some (3, 4, 1) := by kernel_rfl
theorem fo141_0 : fldOff Tryz.prog 141 0 = some (0, 28, 1) := by kernel_rfl
theorem fo141_1 : fldOff Tryz.prog 141 1 = some (1, 27, 1) := by kernel_rfl
theorem fo146_0 : fldOff Tryz.prog 146 0 = some (0, 4, 1) := by kernel_rfl
theorem fo146_1 : fldOff Tryz.prog 146 1 = some (1, 31, 1) := by kernel_rfl
theorem fo148_0 : fldOff Tryz.prog 148 0 = some (0, 146, 2) := by kernel_rfl
theorem fo157_0 : fldOff Tryz.prog 157 0 = some (0, 146, 2) := by kernel_rfl
theorem fo157_1 : fldOff Tryz.prog 157 1 = some (2, 4, 1) := by kernel_rfl
theorem pl30 : placesOf Tryz.prog 30 = some [(0, 1), (1, 1), (2, 1), (3, 1), (4, 1)] := by kernel_rfl
theorem pl34 : placesOf Tryz.prog 34 = some [(0, 1), (1, 5), (6, 1), (7, 1), (8, 1)] := by kernel_rfl
theorem pl45 : placesOf Tryz.prog 45 = some [(0, 1), (1, 1), (2, 1), (3, 1), (4, 1), (5, 1), (6, 1), (7, 4), (11, 1), (12, 1), (13, 1), (14, 1)] := by kernel_rfl
theorem pl64 : placesOf Tryz.prog 64 = some [(0, 1), (1, 1), (2, 1), (3, 1), (4, 1), (5, 1), (6, 1), (7, 1), (8, 1)] := by kernel_rfl
theorem pl73 : placesOf Tryz.prog 73 = some [(0, 1), (1, 1), (2, 1)] := by kernel_rfl
theorem pl77 : placesOf Tryz.prog 77 = some [(0, 1), (1, 1), (2, 1), (3, 1), (4, 1), (5, 1), (6, 1), (7, 1)] := by kernel_rfl
theorem pl86 : placesOf Tryz.prog 86 = some [(0, 1), (1, 1), (2, 1), (3, 1)] := by kernel_rfl
theorem pl88 : placesOf Tryz.prog 88 = some [(0, 1), (1, 4)] := by kernel_rfl
theorem pl109 : placesOf Tryz.prog 109 = some [(0, 1), (1, 1), (2, 1), (3, 1), (4, 3)] := by kernel_rfl
theorem pl114 : placesOf Tryz.prog 114 = some [(0, 1), (1, 512)] := by kernel_rfl
theorem pl139 : placesOf Tryz.prog 139 = some [(0, 1), (1, 1), (2, 1), (3, 1)] := by kernel_rfl
theorem pl141 : placesOf Tryz.prog 141 = some [(0, 1), (1, 1)] := by kernel_rfl
theorem pl146 : placesOf Tryz.prog 146 = some [(0, 1), (1, 1)] := by kernel_rfl
theorem pl148 : placesOf Tryz.prog 148 = some [(0, 2)] := by kernel_rfl
theorem pl157 : placesOf Tryz.prog 157 = some [(0, 2), (2, 1)] := by kernel_rfl
theorem cal3 : Callable Tryz.prog 3 := callable_of Tryz.func3 rfl (by kernel_rfl)
theorem cal4 : Callable Tryz.prog 4 := callable_of Tryz.func4 rfl (by kernel_rfl)
theorem cal5 : Callable Tryz.prog 5 := callable_of Tryz.func5 rfl (by kernel_rfl)
theorem cal6 : Callable Tryz.prog 6 := callable_of Tryz.func6 rfl (by kernel_rfl)
theorem cal7 : Callable Tryz.prog 7 := callable_of Tryz.func7 rfl (by kernel_rfl)
theorem cal8 : Callable Tryz.prog 8 := callable_of Tryz.func8 rfl (by kernel_rfl)
theorem cal9 : Callable Tryz.prog 9 := callable_of Tryz.func9 rfl (by kernel_rfl)
theorem cal10 : Callable Tryz.prog 10 := callable_of Tryz.func10 rfl (by kernel_rfl)
theorem cal11 : Callable Tryz.prog 11 := callable_of Tryz.func11 rfl (by kernel_rfl)
theorem cal12 : Callable Tryz.prog 12 := callable_of Tryz.func12 rfl (by kernel_rfl)
theorem cal13 : Callable Tryz.prog 13 := callable_of Tryz.func13 rfl (by kernel_rfl)
theorem cal14 : Callable Tryz.prog 14 := callable_of Tryz.func14 rfl (by kernel_rfl)
theorem cal15 : Callable Tryz.prog 15 := callable_of Tryz.func15 rfl (by kernel_rfl)
theorem cal16 : Callable Tryz.prog 16 := callable_of Tryz.func16 rfl (by kernel_rfl)
theorem cal17 : Callable Tryz.prog 17 := callable_of Tryz.func17 rfl (by kernel_rfl)
theorem cal18 : Callable Tryz.prog 18 := callable_of Tryz.func18 rfl (by kernel_rfl)
theorem cal19 : Callable Tryz.prog 19 := callable_of Tryz.func19 rfl (by kernel_rfl)
theorem cal20 : Callable Tryz.prog 20 := callable_of Tryz.func20 rfl (by kernel_rfl)
theorem cal21 : Callable Tryz.prog 21 := callable_of Tryz.func21 rfl (by kernel_rfl)
theorem cal22 : Callable Tryz.prog 22 := callable_of Tryz.func22 rfl (by kernel_rfl)
theorem cal23 : Callable Tryz.prog 23 := callable_of Tryz.func23 rfl (by kernel_rfl)
theorem cal24 : Callable Tryz.prog 24 := callable_of Tryz.func24 rfl (by kernel_rfl)
theorem cal25 : Callable Tryz.prog 25 := callable_of Tryz.func25 rfl (by kernel_rfl)
theorem cal26 : Callable Tryz.prog 26 := callable_of Tryz.func26 rfl (by kernel_rfl)
theorem cal27 : Callable Tryz.prog 27 := callable_of Tryz.func27 rfl (by kernel_rfl)
theorem cal28 : Callable Tryz.prog 28 := callable_of Tryz.func28 rfl (by kernel_rfl)
theorem cal29 : Callable Tryz.prog 29 := callable_of Tryz.func29 rfl (by kernel_rfl)
theorem cal30 : Callable Tryz.prog 30 := callable_of Tryz.func30 rfl (by kernel_rfl)
theorem cal31 : Callable Tryz.prog 31 := callable_of Tryz.func31 rfl (by kernel_rfl)
theorem cal32 : Callable Tryz.prog 32 := callable_of Tryz.func32 rfl (by kernel_rfl)
theorem cal33 : Callable Tryz.prog 33 := callable_of Tryz.func33 rfl (by kernel_rfl)
theorem cal34 : Callable Tryz.prog 34 := callable_of Tryz.func34 rfl (by kernel_rfl)
theorem cal35 : Callable Tryz.prog 35 := callable_of Tryz.func35 rfl (by kernel_rfl)
theorem cal36 : Callable Tryz.prog 36 := callable_of Tryz.func36 rfl (by kernel_rfl)
theorem cal37 : Callable Tryz.prog 37 := callable_of Tryz.func37 rfl (by kernel_rfl)
theorem cal38 : Callable Tryz.prog 38 := callable_of Tryz.func38 rfl (by kernel_rfl)
theorem cal39 : Callable Tryz.prog 39 := callable_of Tryz.func39 rfl (by kernel_rfl)
theorem cal40 : Callable Tryz.prog 40 := callable_of Tryz.func40 rfl (by kernel_rfl)
theorem cal41 : Callable Tryz.prog 41 := callable_of Tryz.func41 rfl (by kernel_rfl)
theorem cal42 : Callable Tryz.prog 42 := callable_of Tryz.func42 rfl (by kernel_rfl)
theorem cal43 : Callable Tryz.prog 43 := callable_of Tryz.func43 rfl (by kernel_rfl)
theorem cal44 : Callable Tryz.prog 44 := callable_of Tryz.func44 rfl (by kernel_rfl)
theorem cal45 : Callable Tryz.prog 45 := callable_of Tryz.func45 rfl (by kernel_rfl)
theorem cal46 : Callable Tryz.prog 46 := callable_of Tryz.func46 rfl (by kernel_rfl)
theorem cal47 : Callable Tryz.prog 47 := callable_of Tryz.func47 rfl (by kernel_rfl)
theorem cal48 : Callable Tryz.prog 48 := callable_of Tryz.func48 rfl (by kernel_rfl)
theorem cal49 : Callable Tryz.prog 49 := callable_of Tryz.func49 rfl (by kernel_rfl)
theorem cal50 : Callable Tryz.prog 50 := callable_of Tryz.func50 rfl (by kernel_rfl)
theorem cal51 : Callable Tryz.prog 51 := callable_of Tryz.func51 rfl (by kernel_rfl)
theorem cal52 : Callable Tryz.prog 52 := callable_of Tryz.func52 rfl (by kernel_rfl)
theorem cal53 : Callable Tryz.prog 53 := callable_of Tryz.func53 rfl (by kernel_rfl)
theorem cal54 : Callable Tryz.prog 54 := callable_of Tryz.func54 rfl (by kernel_rfl)
theorem cal55 : Callable Tryz.prog 55 := callable_of Tryz.func55 rfl (by kernel_rfl)
theorem cal56 : Callable Tryz.prog 56 := callable_of Tryz.func56 rfl (by kernel_rfl)
theorem cal57 : Callable Tryz.prog 57 := callable_of Tryz.func57 rfl (by kernel_rfl)
theorem cal58 : Callable Tryz.prog 58 := callable_of Tryz.func58 rfl (by kernel_rfl)
theorem cal59 : Callable Tryz.prog 59 := callable_of Tryz.func59 rfl (by kernel_rfl)
theorem cal60 : Callable Tryz.prog 60 := callable_of Tryz.func60 rfl (by kernel_rfl)
theorem cal61 : Callable Tryz.prog 61 := callable_of Tryz.func61 rfl (by kernel_rfl)
theorem cal62 : Callable Tryz.prog 62 := callable_of Tryz.func62 rfl (by kernel_rfl)
theorem cal63 : Callable Tryz.prog 63 := callable_of Tryz.func63 rfl (by kernel_rfl)
theorem cal64 : Callable Tryz.prog 64 := callable_of Tryz.func64 rfl (by kernel_rfl)
theorem cal65 : Callable Tryz.prog 65 := callable_of Tryz.func65 rfl (by kernel_rfl)
theorem cal66 : Callable Tryz.prog 66 := callable_of Tryz.func66 rfl (by kernel_rfl)
theorem cal67 : Callable Tryz.prog 67 := callable_of Tryz.func67 rfl (by kernel_rfl)
theorem cal68 : Callable Tryz.prog 68 := callable_of Tryz.func68 rfl (by kernel_rfl)
theorem cal69 : Callable Tryz.prog 69 := callable_of Tryz.func69 rfl (by kernel_rfl)
theorem cal70 : Callable Tryz.prog 70 := callable_of Tryz.func70 rfl (by kernel_rfl)
theorem cal71 : Callable Tryz.prog 71 := callable_of Tryz.func71 rfl (by kernel_rfl)
theorem cal72 : Callable Tryz.prog 72 := callable_of Tryz.func72 rfl (by kernel_rfl)
theorem cal73 : Callable Tryz.prog 73 := callable_of Tryz.func73 rfl (by kernel_rfl)
theorem cal74 : Callable Tryz.prog 74 := callable_of Tryz.func74 rfl (by kernel_rfl)
theorem cal75 : Callable Tryz.prog 75 := callable_of Tryz.func75 rfl (by kernel_rfl)
theorem cal76 : Callable Tryz.prog 76 := callable_of Tryz.func76 rfl (by kernel_rfl)
theorem cal77 : Callable Tryz.prog 77 := callable_of Tryz.func77 rfl (by kernel_rfl)
theorem cal78 : Callable Tryz.prog 78 := callable_of Tryz.func78 rfl (by kernel_rfl)
theorem cal79 : Callable Tryz.prog 79 := callable_of Tryz.func79 rfl (by kernel_rfl)
theorem cal80 : Callable Tryz.prog 80 := callable_of Tryz.func80 rfl (by kernel_rfl)
theorem cal81 : Callable Tryz.prog 81 := callable_of Tryz.func81 rfl (by kernel_rfl)
theorem cal82 : Callable Tryz.prog 82 := callable_of Tryz.func82 rfl (by kernel_rfl)
theorem cal83 : Callable Tryz.prog 83 := callable_of Tryz.func83 rfl (by kernel_rfl)
theorem cal84 : Callable Tryz.prog 84 := callable_of Tryz.func84 rfl (by kernel_rfl)
theorem cal85 : Callable Tryz.prog 85 := callable_of Tryz.func85 rfl (by kernel_rfl)
theorem cal86 : Callable Tryz.prog 86 := callable_of Tryz.func86 rfl (by kernel_rfl)
theorem cal87 : Callable Tryz.prog 87 := callable_of Tryz.func87 rfl (by kernel_rfl)
theorem cal88 : Callable Tryz.prog 88 := callable_of Tryz.func88 rfl (by kernel_rfl)
theorem cal89 : Callable Tryz.prog 89 := callable_of Tryz.func89 rfl (by kernel_rfl)
theorem cal90 : Callable Tryz.prog 90 := callable_of Tryz.func90 rfl (by kernel_rfl)
theorem cal91 : Callable Tryz.prog 91 := callable_of Tryz.func91 rfl (by kernel_rfl)
theorem cal92 : Callable Tryz.prog 92 := callable_of Tryz.func92 rfl (by kernel_rfl)
theorem cal93 : Callable Tryz.prog 93 := callable_of Tryz.func93 rfl (by kernel_rfl)
theorem cal94 : Callable Tryz.prog 94 := callable_of Tryz.func94 rfl (by kernel_rfl)
theorem cal95 : Callable Tryz.prog 95 := callable_of Tryz.func95 rfl (by kernel_rfl)
theorem cal96 : Callable Tryz.prog 96 := callable_of Tryz.func96 rfl (by kernel_rfl)
theorem cal97 : Callable Tryz.prog 97 := callable_of Tryz.func97 rfl (by kernel_rfl)
theorem cal98 : Callable Tryz.prog 98 := callable_of Tryz.func98 rfl (by kernel_rfl)
theorem cal99 : Callable Tryz.prog 99 := callable_of Tryz.func99 rfl (by kernel_rfl)
theorem cal100 : Callable Tryz.prog 100 := callable_of Tryz.func100 rfl (by kernel_rfl)
theorem cal101 : Callable Tryz.prog 101 := callable_of Tryz.func101 rfl (by kernel_rfl)
theorem cal102 : Callable Tryz.prog 102 := callable_of Tryz.func102 rfl (by kernel_rfl)
theorem cal103 : Callable Tryz.prog 103 := callable_of Tryz.func103 rfl (by kernel_rfl)
theorem cal104 : Callable Tryz.prog 104 := callable_of Tryz.func104 rfl (by kernel_rfl)
theorem cal105 : Callable Tryz.prog 105 := callable_of Tryz.func105 rfl (by kernel_rfl)
theorem cal106 : Callable Tryz.prog 106 := callable_of Tryz.func106 rfl (by kernel_rfl)
theorem cal107 : Callable Tryz.prog 107 := callable_of Tryz.func107 rfl (by kernel_rfl)
theorem cal108 : Callable Tryz.prog 108 := callable_of Tryz.func108 rfl (by kernel_rfl)
theorem cal109 : Callable Tryz.prog 109 := callable_of Tryz.func109 rfl (by kernel_rfl)
theorem cal110 : Callable Tryz.prog 110 := callable_of Tryz.func110 rfl (by kernel_rfl)
theorem cal111 : Callable Tryz.prog 111 := callable_of Tryz.func111 rfl (by kernel_rfl)
theorem cal112 : Callable Tryz.prog 112 := callable_of Tryz.func112 rfl (by kernel_rfl)
theorem cal113 : Callable Tryz.prog 113 := callable_of Tryz.func113 rfl (by kernel_rfl)
theorem cal114 : Callable Tryz.prog 114 := callable_of Tryz.func114 rfl (by kernel_rfl)
theorem cal115 : Callable Tryz.prog 115 := callable_of Tryz.func115 rfl (by kernel_rfl)
theorem cal116 : Callable Tryz.prog 116 := callable_of Tryz.func116 rfl (by kernel_rfl)
theorem cal117 : Callable Tryz.prog 117 := callable_of Tryz.func117 rfl (by kernel_rfl)
theorem cal118 : Callable Tryz.prog 118 := callable_of Tryz.func118 rfl (by kernel_rfl)
theorem cal119 : Callable Tryz.prog 119 := callable_of Tryz.func119 rfl (by kernel_rfl)
theorem cal120 : Callable Tryz.prog 120 := callable_of Tryz.func120 rfl (by kernel_rfl)
theorem cal121 : Callable Tryz.prog 121 := callable_of Tryz.func121 rfl (by kernel_rfl)
theorem cal122 : Callable Tryz.prog 122 := callable_of Tryz.func122 rfl (by kernel_rfl)
theorem cal123 : Callable Tryz.prog 123 := callable_of Tryz.func123 rfl (by kernel_rfl)
theorem cal124 : Callable Tryz.prog 124 := callable_of Tryz.func124 rfl (by kernel_rfl)
theorem cal125 : Callable Tryz.prog 125 := callable_of Tryz.func125 rfl (by kernel_rfl)
theorem cal126 : Callable Tryz.prog 126 := callable_of Tryz.func126 rfl (by kernel_rfl)
theorem cal127 : Callable Tryz.prog 127 := callable_of Tryz.func127 rfl (by kernel_rfl)
theorem cal128 : Callable Tryz.prog 128 := callable_of Tryz.func128 rfl (by kernel_rfl)
theorem cal129 : Callable Tryz.prog 129 := callable_of Tryz.func129 rfl (by kernel_rfl)
theorem cal130 : Callable Tryz.prog 130 := callable_of Tryz.func130 rfl (by kernel_rfl)
theorem cal131 : Callable Tryz.prog 131 := callable_of Tryz.func131 rfl (by kernel_rfl)
theorem cal132 : Callable Tryz.prog 132 := callable_of Tryz.func132 rfl (by kernel_rfl)
theorem cal133 : Callable Tryz.prog 133 := callable_of Tryz.func133 rfl (by kernel_rfl)
theorem cal134 : Callable Tryz.prog 134 := callable_of Tryz.func134 rfl (by kernel_rfl)
theorem cal135 : Callable Tryz.prog 135 := callable_of Tryz.func135 rfl (by kernel_rfl)
theorem cal136 : Callable Tryz.prog 136 := callable_of Tryz.func136 rfl (by kernel_rfl)
theorem cal137 : Callable Tryz.prog 137 := callable_of Tryz.func137 rfl (by kernel_rfl)
theorem cal138 : Callable Tryz.prog 138 := callable_of Tryz.func138 rfl (by kernel_rfl)
def undL : List (Nat × TypeDesc) := [(2, .int .i64), (3, .int .i64), (4, .bool), (5, .int .u8), (6, .int .u8), (9, .string), (10, .string), (11, .string), (12, .int .u64), (15, .pointer 194), (16, .pointer 197), (17, .pointer 205), (21, .int .i32), (22, .slice 47), (25, .pointer 34), (26, .pointer 109), (27, .int .u64), (28, .int .u32), (31, .slice 5), (32, .slice 27), (35, .slice 25), (36, .int .i64), (41, .slice 88), (42, .slice 139), (43, .slice 141), (54, .slice 45), (59, .slice 68), (62, .pointer 64), (65, .slice 4), (66, .slice 3), (75, .pointer 77), (84, .slice 90), (101, .slice 112), (107, .slice 114), (112, .array 512 5), (121, .pointer 148), (124, .int .u16), (126, .int .u64), (128, .slice 48), (130, .pointer 157), (181, .pointer 4), (195, .array 0 16), (198, .int .u8), (199, .int .u8), (201, .pointer 5), (202, .int .i32), (203, .int .i32)]
theorem und {t : TypeId} {x : TypeDesc} (h : lkL undL t = some x) : Tryz.prog.underlying t = some x := look (f := Tryz.prog.underlying) undL ⟨Tryz.underlying2, Tryz.underlying3, Tryz.underlying4, Tryz.underlying5, Tryz.underlying6, Tryz.underlying9, Tryz.underlying10, Tryz.underlying11, Tryz.underlying12, Tryz.underlying15, Tryz.underlying16, Tryz.underlying17, Tryz.underlying21, Tryz.underlying22, Tryz.underlying25, Tryz.underlying26, Tryz.underlying27, Tryz.underlying28, Tryz.underlying31, Tryz.underlying32, Tryz.underlying35, Tryz.underlying36, Tryz.underlying41, Tryz.underlying42, Tryz.underlying43, Tryz.underlying54, Tryz.underlying59, Tryz.underlying62, Tryz.underlying65, Tryz.underlying66, Tryz.underlying75, Tryz.underlying84, Tryz.underlying101, Tryz.underlying107, Tryz.underlying112, Tryz.underlying121, Tryz.underlying124, Tryz.underlying126, Tryz.underlying128, Tryz.underlying130, Tryz.underlying181, Tryz.underlying195, Tryz.underlying198, Tryz.underlying199, Tryz.underlying201, Tryz.underlying202, Tryz.underlying203, trivial⟩ h
theorem fl30 : flatD Tryz.prog 30 = some [.int .i64, .int .u64, .int .u64, .int .u32, .bool] := by kernel_rfl
theorem fl73 : flatD Tryz.prog 73 = some [.int .i64, .int .i64, .int .i64] := by kernel_rfl
theorem fl139 : flatD Tryz.prog 139 = some [.int .u32, .int .u64, .int .u64, .bool] := by kernel_rfl
theorem fl141 : flatD Tryz.prog 141 = some [.int .u32, .int .u64] := by kernel_rfl
def flatL : List (Nat × List TypeDesc) := [(30, [.int .i64, .int .u64, .int .u64, .int .u32, .bool]), (73, [.int .i64, .int .i64, .int .i64]), (139, [.int .u32, .int .u64, .int .u64, .bool]), (141, [.int .u32, .int .u64])]
theorem flat {t : TypeId} {x : List TypeDesc} (h : lkL flatL t = some x) : flatD Tryz.prog t = some x := look (f := flatD Tryz.prog) flatL ⟨fl30, fl73, fl139, fl141, trivial⟩ h
def aggL : List (Nat × Bool) := [(1, false), (2, false), (3, false), (4, false), (5, false), (6, false), (7, true), (8, true), (9, false), (10, false), (11, false), (12, false), (13, true), (14, true), (15, false), (16, false), (17, false), (18, true), (19, true), (20, false), (21, false), (22, false), (23, false), (24, false), (25, false), (26, false), (27, false), (28, false), (29, true), (30, true), (31, false), (32, false), (33, true), (34, true), (35, false), (36, false), (38, false), (39, true), (40, true), (41, false), (42, false), (43, false), (44, true), (45, true), (46, true), (47, true), (48, false), (49, false), (50, false), (51, false), (52, false), (53, false), (54, false), (56, false), (57, false), (58, false), (59, false), (61, false), (62, false), (63, true), (64, true), (65, false), (66, false), (67, true), (68, true), (69, false), (70, false), (71, false), (72, true), (73, true), (74, false), (75, false), (76, true), (77, true), (78, false), (79, false), (80, false), (81, false), (82, false), (83, false), (84, false), (85, true), (86, true), (87, true), (88, true), (89, true), (90, true), (92, false), (93, false), (95, false), (96, false), (97, false), (98, false), (100, false), (101, false), (103, false), (105, false), (106, false), (107, false), (109, true), (111, false), (112, true), (114, true), (115, false), (117, false), (118, false), (119, false), (120, false), (121, false), (122, false), (123, false), (124, false), (125, false), (126, false), (128, false), (130, false), (135, false), (138, true), (139, true), (141, true), (143, false), (146, true), (147, true), (148, true), (149, false), (152, false), (154, false), (155, false), (156, true), (157, true), (160, false), (167, false), (168, false), (170, false), (171, false), (172, false), (173, false), (174, false), (175, false), (178, false), (181, false), (184, false), (188, false), (189, false), (195, true), (196, true), (197, true), (198, false), (199, false), (200, false), (201, false), (202, false), (203, false), (204, true)]
theorem agg {t : TypeId} {x : Bool} (h : lkL aggL t = some x) : aggOf Tryz.prog t = some x := look (f := aggOf Tryz.prog) aggL ⟨g1, g2, g3, g4, g5, g6, g7, g8, g9, g10, g11, g12, g13, g14, g15, g16, g17, g18, g19, g20, g21, g22, g23, g24, g25, g26, g27, g28, g29, g30, g31, g32, g33, g34, g35, g36, g38, g39, g40, g41, g42, g43, g44, g45, g46, g47, g48, g49, g50, g51, g52, g53, g54, g56, g57, g58, g59, g61, g62, g63, g64, g65, g66, g67, g68, g69, g70, g71, g72, g73, g74, g75, g76, g77, g78, g79, g80, g81, g82, g83, g84, g85, g86, g87, g88, g89, g90, g92, g93, g95, g96, g97, g98, g100, g101, g103, g105, g106, g107, g109, g111, g112, g114, g115, g117, g118, g119, g120, g121, g122, g123, g124, g125, g126, g128, g130, g135, g138, g139, g141, g143, g146, g147, g148, g149, g152, g154, g155, g156, g157, g160, g167, g168, g170, g171, g172, g173, g174, g175, g178, g181, g184, g188, g189, g195, g196, g197, g198, g199, g200, g201, g202, g203, g204, trivial⟩ h
def szL : List (Nat × Nat) := [(1, 1), (2, 1), (3, 1), (4, 1), (5, 1), (6, 1), (7, 4), (8, 4), (9, 1), (10, 1), (11, 1), (12, 1), (13, 2), (14, 2), (15, 1), (16, 1), (17, 1), (18, 1), (19, 1), (20, 1), (21, 1), (22, 1), (23, 1), (24, 1), (25, 1), (26, 1), (27, 1), (28, 1), (29, 5), (30, 5), (31, 1), (32, 1), (33, 9), (34, 9), (35, 1), (36, 1), (38, 1), (39, 4), (40, 4), (41, 1), (42, 1), (43, 1), (44, 15), (45, 15), (46, 17), (47, 17), (48, 1), (49, 1), (50, 1), (51, 1), (52, 1), (53, 1), (54, 1), (56, 1), (57, 1), (58, 1), (59, 1), (61, 1), (62, 1), (63, 9), (64, 9), (65, 1), (66, 1), (67, 4), (68, 4), (69, 1), (70, 1), (71, 1), (72, 3), (73, 3), (74, 1), (75, 1), (76, 8), (77, 8), (78, 1), (79, 1), (80, 1), (81, 1), (82, 1), (83, 1), (84, 1), (85, 4), (86, 4), (87, 5), (88, 5), (89, 3), (90, 3), (92, 1), (93, 1), (95, 1), (96, 1), (97, 1), (98, 1), (100, 1), (101, 1), (103, 1), (105, 1), (106, 1), (107, 1), (109, 7), (111, 1), (112, 512), (114, 513), (115, 1), (117, 1), (118, 1), (119, 1), (120, 1), (121, 1), (122, 1), (123, 1), (124, 1), (125, 1), (126, 1), (128, 1), (130, 1), (135, 1), (138, 4), (139, 4), (141, 2), (143, 1), (146, 2), (147, 2), (148, 2), (149, 1), (152, 1), (154, 1), (155, 1), (156, 3), (157, 3), (160, 1), (167, 1), (168, 1), (170, 1), (171, 1), (172, 1), (173, 1), (174, 1), (175, 1), (178, 1), (181, 1), (184, 1), (188, 1), (189, 1), (195, 0), (196, 0), (197, 0), (198, 1), (199, 1), (200, 1), (201, 1), (202, 1), (203, 1), (204, 11)]
theorem sz {t : TypeId} {x : Nat} (h : lkL szL t = some x) : szOf Tryz.prog t = some x := look (f := szOf Tryz.prog) szL ⟨z1, z2, z3, z4, z5, z6, z7, z8, z9, z10, z11, z12, z13, z14, z15, z16, z17, z18, z19, z20, z21, z22, z23, z24, z25, z26, z27, z28, z29, z30, z31, z32, z33, z34, z35, z36, z38, z39, z40, z41, z42, z43, z44, z45, z46, z47, z48, z49, z50, z51, z52, z53, z54, z56, z57, z58, z59, z61, z62, z63, z64, z65, z66, z67, z68, z69, z70, z71, z72, z73, z74, z75, z76, z77, z78, z79, z80, z81, z82, z83, z84, z85, z86, z87, z88, z89, z90, z92, z93, z95, z96, z97, z98, z100, z101, z103, z105, z106, z107, z109, z111, z112, z114, z115, z117, z118, z119, z120, z121, z122, z123, z124, z125, z126, z128, z130, z135, z138, z139, z141, z143, z146, z147, z148, z149, z152, z154, z155, z156, z157, z160, z167, z168, z170, z171, z172, z173, z174, z175, z178, z181, z184, z188, z189, z195, z196, z197, z198, z199, z200, z201, z202, z203, z204, trivial⟩ h
def zrL : List (Nat × Value) := [(1, .nilFunc), (2, .int .i64 (0)), (3, .int .i64 (0)), (4, .bool false), (5, .int .u8 (0)), (6, .int .u8 (0)), (7, .agg [.int .i64 (0), .int .i64 (0), .bool false, .int .u8 (0)].toArray), (8, .agg [.int .i64 (0), .int .i64 (0), .bool false, .int .u8 (0)].toArray), (9, .string ⟨#[]⟩), (10, .string ⟨#[]⟩), (11, .string ⟨#[]⟩), (12, .int .u64 (0)), (13, .agg [.string ⟨#[]⟩, .int .u64 (0)].toArray), (14, .agg [.string ⟨#[]⟩, .int .u64 (0)].toArray), (15, .pointer none), (16, .pointer none), (17, .pointer none), (18, .agg [.pointer none].toArray), (19, .agg [.pointer none].toArray), (20, .nilIface), (21, .int .i32 (0)), (22, .slice none 0 0), (23, .nilFunc), (24, .nilFunc), (25, .pointer none), (26, .pointer none), (27, .int .u64 (0)), (28, .int .u32 (0)), (29, .agg [.int .i64 (0), .int .u64 (0), .int .u64 (0), .int .u32 (0), .bool false].toArray), (30, .agg [.int .i64 (0), .int .u64 (0), .int .u64 (0), .int .u32 (0), .bool false].toArray), (31, .slice none 0 0), (32, .slice none 0 0), (33, .agg [.pointer none, .int .i64 (0), .int .u64 (0), .int .u64 (0), .int .u32 (0), .bool false, .slice none 0 0, .slice none 0 0, .int .u64 (0)].toArray), (34, .agg [.pointer none, .int .i64 (0), .int .u64 (0), .int .u64 (0), .int .u32 (0), .bool false, .slice none 0 0, .slice none 0 0, .int .u64 (0)].toArray), (35, .slice none 0 0), (36, .int .i64 (0)), (38, .nilFunc), (39, .agg [.int .i64 (0), .int .i64 (0), .int .u32 (0), .slice none 0 0].toArray), (40, .agg [.int .i64 (0), .int .i64 (0), .int .u32 (0), .slice none 0 0].toArray), (41, .slice none 0 0), (42, .slice none 0 0), (43, .slice none 0 0), (44, .agg [.int .i64 (0), .int .u64 (0), .int .u32 (0), .int .u64 (0), .int .u64 (0), .int .u32 (0), .int .u32 (0), .int .i64 (0), .int .i64 (0), .int .u32 (0), .slice none 0 0, .slice none 0 0, .slice none 0 0, .slice none 0 0, .int .u32 (0)].toArray), (45, .agg [.int .i64 (0), .int .u64 (0), .int .u32 (0), .int .u64 (0), .int .u64 (0), .int .u32 (0), .int .u32 (0), .int .i64 (0), .int .i64 (0), .int .u32 (0), .slice none 0 0, .slice none 0 0, .slice none 0 0, .slice none 0 0, .int .u32 (0)].toArray), (46, .agg [.int .i64 (0), .int .i64 (0), .int .u64 (0), .int .u32 (0), .int .u64 (0), .int .u64 (0), .int .u32 (0), .int .u32 (0), .int .i64 (0), .int .i64 (0), .int .u32 (0), .slice none 0 0, .slice none 0 0, .slice none 0 0, .slice none 0 0, .int .u32 (0), .int .i64 (0)].toArray), (47, .agg [.int .i64 (0), .int .i64 (0), .int .u64 (0), .int .u32 (0), .int .u64 (0), .int .u64 (0), .int .u32 (0), .int .u32 (0), .int .i64 (0), .int .i64 (0), .int .u32 (0), .slice none 0 0, .slice none 0 0, .slice none 0 0, .slice none 0 0, .int .u32 (0), .int .i64 (0)].toArray), (48, .nilFunc), (49, .nilFunc), (50, .nilFunc), (51, .nilFunc), (52, .nilFunc), (53, .nilFunc), (54, .slice none 0 0), (56, .nilFunc), (57, .nilFunc), (58, .nilFunc), (59, .slice none 0 0), (61, .nilFunc), (62, .pointer none), (63, .agg [.pointer none, .pointer none, .slice none 0 0, .int .i64 (0), .int .u64 (0), .int .u32 (0), .bool false, .int .u64 (0), .int .u32 (0)].toArray), (64, .agg [.pointer none, .pointer none, .slice none 0 0, .int .i64 (0), .int .u64 (0), .int .u32 (0), .bool false, .int .u64 (0), .int .u32 (0)].toArray), (65, .slice none 0 0), (66, .slice none 0 0), (67, .agg [.slice none 0 0, .int .i64 (0), .slice none 0 0, .slice none 0 0].toArray), (68, .agg [.slice none 0 0, .int .i64 (0), .slice none 0 0, .slice none 0 0].toArray), (69, .nilFunc), (70, .nilFunc), (71, .nilFunc), (72, .agg [.int .i64 (0), .int .i64 (0), .int .i64 (0)].toArray), (73, .agg [.int .i64 (0), .int .i64 (0), .int .i64 (0)].toArray), (74, .nilFunc), (75, .pointer none), (76, .agg [.int .i64 (0), .int .u64 (0), .int .u64 (0), .int .u32 (0), .slice none 0 0, .slice none 0 0, .slice none 0 0, .int .u64 (0)].toArray), (77, .agg [.int .i64 (0), .int .u64 (0), .int .u64 (0), .int .u32 (0), .slice none 0 0, .slice none 0 0, .slice none 0 0, .int .u64 (0)].toArray), (78, .nilFunc), (79, .nilFunc), (80, .nilFunc), (81, .nilFunc), (82, .nilFunc), (83, .nilFunc), (84, .slice none 0 0), (85, .agg [.int .i64 (0), .int .u64 (0), .int .u32 (0), .slice none 0 0].toArray), (86, .agg [.int .i64 (0), .int .u64 (0), .int .u32 (0), .slice none 0 0].toArray), (87, .agg [.int .u32 (0), .int .i64 (0), .int .u64 (0), .int .u32 (0), .slice none 0 0].toArray), (88, .agg [.int .u32 (0), .int .i64 (0), .int .u64 (0), .int .u32 (0), .slice none 0 0].toArray), (89, .agg [.bool false, .int .u32 (0), .slice none 0 0].toArray), (90, .agg [.bool false, .int .u32 (0), .slice none 0 0].toArray), (92, .nilFunc), (93, .nilFunc), (95, .nilFunc), (96, .nilFunc), (97, .nilFunc), (98, .nilFunc), (100, .nilFunc), (101, .slice none 0 0), (103, .nilFunc), (105, .nilFunc), (106, .nilFunc), (107, .slice none 0 0), (109, .agg [.slice none 0 0, .slice none 0 0, .int .i64 (0), .bool false, .int .i64 (0), .int .i64 (0), .int .i64 (0)].toArray), (111, .nilFunc), (115, .nilFunc), (117, .nilFunc), (118, .nilFunc), (119, .nilFunc), (120, .nilFunc), (121, .pointer none), (122, .nilFunc), (123, .nilFunc), (124, .int .u16 (0)), (125, .nilFunc), (126, .int .u64 (0)), (128, .slice none 0 0), (130, .pointer none), (135, .nilFunc), (138, .agg [.int .u32 (0), .int .u64 (0), .int .u64 (0), .bool false].toArray), (139, .agg [.int .u32 (0), .int .u64 (0), .int .u64 (0), .bool false].toArray), (141, .agg [.int .u32 (0), .int .u64 (0)].toArray), (143, .nilFunc), (146, .agg [.bool false, .slice none 0 0].toArray), (147, .agg [.bool false, .slice none 0 0].toArray), (148, .agg [.bool false, .slice none 0 0].toArray), (149, .nilFunc), (152, .nilFunc), (154, .nilFunc), (155, .nilFunc), (156, .agg [.bool false, .slice none 0 0, .bool false].toArray), (157, .agg [.bool false, .slice none 0 0, .bool false].toArray), (160, .nilFunc), (167, .nilFunc), (168, .nilFunc), (170, .nilFunc), (171, .nilFunc), (172, .nilFunc), (173, .nilFunc), (174, .nilFunc), (175, .nilFunc), (178, .nilFunc), (181, .pointer none), (184, .nilFunc), (188, .nilFunc), (189, .nilFunc), (195, .agg [].toArray), (196, .agg [].toArray), (197, .agg [].toArray), (198, .int .u8 (0)), (199, .int .u8 (0)), (200, .nilFunc), (201, .pointer none), (202, .int .i32 (0)), (203, .int .i32 (0)), (204, .agg [.int .u64 (0), .int .u64 (0), .int .u32 (0), .int .u8 (0), .int .u8 (0), .int .u8 (0), .int .u8 (0), .nilFunc, .pointer none, .int .i32 (0), .int .i32 (0)].toArray)]
theorem zr {t : TypeId} {x : Value} (h : lkL zrL t = some x) : zrOf Tryz.prog t = some x := look (f := zrOf Tryz.prog) zrL ⟨zr1, zr2, zr3, zr4, zr5, zr6, zr7, zr8, zr9, zr10, zr11, zr12, zr13, zr14, zr15, zr16, zr17, zr18, zr19, zr20, zr21, zr22, zr23, zr24, zr25, zr26, zr27, zr28, zr29, zr30, zr31, zr32, zr33, zr34, zr35, zr36, zr38, zr39, zr40, zr41, zr42, zr43, zr44, zr45, zr46, zr47, zr48, zr49, zr50, zr51, zr52, zr53, zr54, zr56, zr57, zr58, zr59, zr61, zr62, zr63, zr64, zr65, zr66, zr67, zr68, zr69, zr70, zr71, zr72, zr73, zr74, zr75, zr76, zr77, zr78, zr79, zr80, zr81, zr82, zr83, zr84, zr85, zr86, zr87, zr88, zr89, zr90, zr92, zr93, zr95, zr96, zr97, zr98, zr100, zr101, zr103, zr105, zr106, zr107, zr109, zr111, zr115, zr117, zr118, zr119, zr120, zr121, zr122, zr123, zr124, zr125, zr126, zr128, zr130, zr135, zr138, zr139, zr141, zr143, zr146, zr147, zr148, zr149, zr152, zr154, zr155, zr156, zr157, zr160, zr167, zr168, zr170, zr171, zr172, zr173, zr174, zr175, zr178, zr181, zr184, zr188, zr189, zr195, zr196, zr197, zr198, zr199, zr200, zr201, zr202, zr203, zr204, trivial⟩ h
def bytL : List (Nat × Nat) := [(1, 8), (2, 8), (3, 8), (4, 1), (5, 1), (6, 1), (7, 24), (8, 24), (9, 16), (10, 16), (11, 16), (12, 8), (13, 24), (14, 24), (15, 8), (16, 8), (17, 8), (18, 8), (19, 8), (20, 16), (21, 4), (22, 24), (23, 8), (24, 8), (25, 8), (26, 8), (27, 8), (28, 4), (29, 32), (30, 32), (31, 24), (32, 24), (33, 96), (34, 96), (35, 24), (36, 8), (38, 8), (39, 48), (40, 48), (41, 24), (42, 24), (43, 24), (44, 176), (45, 176), (46, 192), (47, 192), (48, 8), (49, 8), (50, 8), (51, 8), (52, 8), (53, 8), (54, 24), (56, 8), (57, 8), (58, 8), (59, 24), (61, 8), (62, 8), (63, 80), (64, 80), (65, 24), (66, 24), (67, 80), (68, 80), (69, 8), (70, 8), (71, 8), (72, 24), (73, 24), (74, 8), (75, 8), (76, 112), (77, 112), (78, 8), (79, 8), (80, 8), (81, 8), (82, 8), (83, 8), (84, 24), (85, 48), (86, 48), (87, 56), (88, 56), (89, 32), (90, 32), (92, 8), (93, 8), (95, 8), (96, 8), (97, 8), (98, 8), (100, 8), (101, 24), (103, 8), (105, 8), (106, 8), (107, 24), (109, 88), (111, 8), (112, 512), (114, 520), (115, 8), (117, 8), (118, 8), (119, 8), (120, 8), (121, 8), (122, 8), (123, 8), (124, 2), (125, 8), (126, 8), (128, 24), (130, 8), (135, 8), (138, 32), (139, 32), (141, 16), (143, 8), (146, 32), (147, 32), (148, 32), (149, 8), (152, 8), (154, 8), (155, 8), (156, 40), (157, 40), (160, 8), (167, 8), (168, 8), (170, 8), (171, 8), (172, 8), (173, 8), (174, 8), (175, 8), (178, 8), (181, 8), (184, 8), (188, 8), (189, 8), (195, 0), (196, 0), (197, 0), (198, 1), (199, 1), (200, 8), (201, 8), (202, 4), (203, 4), (204, 48)]
theorem byt {t : TypeId} {x : Nat} (h : lkL bytL t = some x) : byOf Tryz.prog t = some x := look (f := byOf Tryz.prog) bytL ⟨by1, by2, by3, by4, by5, by6, by7, by8, by9, by10, by11, by12, by13, by14, by15, by16, by17, by18, by19, by20, by21, by22, by23, by24, by25, by26, by27, by28, by29, by30, by31, by32, by33, by34, by35, by36, by38, by39, by40, by41, by42, by43, by44, by45, by46, by47, by48, by49, by50, by51, by52, by53, by54, by56, by57, by58, by59, by61, by62, by63, by64, by65, by66, by67, by68, by69, by70, by71, by72, by73, by74, by75, by76, by77, by78, by79, by80, by81, by82, by83, by84, by85, by86, by87, by88, by89, by90, by92, by93, by95, by96, by97, by98, by100, by101, by103, by105, by106, by107, by109, by111, by112, by114, by115, by117, by118, by119, by120, by121, by122, by123, by124, by125, by126, by128, by130, by135, by138, by139, by141, by143, by146, by147, by148, by149, by152, by154, by155, by156, by157, by160, by167, by168, by170, by171, by172, by173, by174, by175, by178, by181, by184, by188, by189, by195, by196, by197, by198, by199, by200, by201, by202, by203, by204, trivial⟩ h
def lkP {α : Type} : List (Nat × Nat × α) → Nat → Nat → Option α
  | [], _, _ => none
  | (k, j, v) :: E, t, i => match Nat.beq k t && Nat.beq j i with
    | true => some v
    | false => lkP E t i
def allP {α : Type} (f : Nat → Nat → Option α) : List (Nat × Nat × α) → Prop
  | [] => True
  | p :: l => f p.1 p.2.1 = some p.2.2 ∧ allP f l
theorem lookP {α : Type} {f : Nat → Nat → Option α} : ∀ (l : List (Nat × Nat × α)), allP f l → ∀ {t i : Nat} {x : α}, lkP l t i = some x → f t i = some x
  | [], _, _, _, _, h => (Option.some_ne_none _ h.symm).elim
  | (k, j, v) :: E, hA, t, i, x, h => by
    unfold lkP at h
    cases hb : Nat.beq k t && Nat.beq j i with
    | true =>
      rw [hb] at h
      simp only [Bool.and_eq_true] at hb
      obtain rfl := Nat.eq_of_beq_eq_true hb.1
      obtain rfl := Nat.eq_of_beq_eq_true hb.2
      cases h
      exact hA.1
    | false =>
      rw [hb] at h
      exact lookP E hA.2 h
def foL : List (Nat × Nat × (Nat × Nat × Nat)) := [(30, 0, (0, 3, 1)), (30, 1, (1, 27, 1)), (30, 2, (2, 27, 1)), (30, 3, (3, 28, 1)), (30, 4, (4, 4, 1)), (34, 0, (0, 26, 1)), (34, 1, (1, 30, 5)), (34, 2, (6, 31, 1)), (34, 3, (7, 32, 1)), (34, 4, (8, 27, 1)), (40, 0, (0, 3, 1)), (40, 1, (1, 3, 1)), (40, 2, (2, 28, 1)), (40, 3, (3, 31, 1)), (45, 0, (0, 3, 1)), (45, 1, (1, 27, 1)), (45, 2, (2, 28, 1)), (45, 3, (3, 27, 1)), (45, 4, (4, 27, 1)), (45, 5, (5, 28, 1)), (45, 6, (6, 28, 1)), (45, 7, (7, 40, 4)), (45, 8, (11, 41, 1)), (45, 9, (12, 42, 1)), (45, 10, (13, 43, 1)), (45, 11, (14, 28, 1)), (47, 0, (0, 3, 1)), (47, 1, (1, 45, 15)), (47, 2, (16, 3, 1)), (64, 0, (0, 26, 1)), (64, 1, (1, 25, 1)), (64, 2, (2, 54, 1)), (64, 3, (3, 3, 1)), (64, 4, (4, 27, 1)), (64, 5, (5, 28, 1)), (64, 6, (6, 4, 1)), (64, 7, (7, 27, 1)), (64, 8, (8, 28, 1)), (68, 0, (0, 22, 1)), (68, 1, (1, 3, 1)), (68, 2, (2, 65, 1)), (68, 3, (3, 66, 1)), (73, 0, (0, 3, 1)), (73, 1, (1, 3, 1)), (73, 2, (2, 3, 1)), (77, 0, (0, 3, 1)), (77, 1, (1, 27, 1)), (77, 2, (2, 27, 1)), (77, 3, (3, 28, 1)), (77, 4, (4, 31, 1)), (77, 5, (5, 32, 1)), (77, 6, (6, 54, 1)), (77, 7, (7, 27, 1)), (86, 0, (0, 3, 1)), (86, 1, (1, 27, 1)), (86, 2, (2, 28, 1)), (86, 3, (3, 84, 1)), (88, 0, (0, 28, 1)), (88, 1, (1, 86, 4)), (90, 0, (0, 4, 1)), (90, 1, (1, 28, 1)), (90, 2, (2, 31, 1)), (109, 0, (0, 101, 1)), (109, 1, (1, 107, 1)), (109, 2, (2, 3, 1)), (109, 3, (3, 4, 1)), (109, 4, (4, 73, 3)), (114, 0, (0, 3, 1)), (114, 1, (1, 112, 512)), (139, 0, (0, 28, 1)), (139, 1, (1, 27, 1)), (139, 2, (2, 27, 1)), (139, 3, (3, 4, 1)), (141, 0, (0, 28, 1)), (141, 1, (1, 27, 1)), (146, 0, (0, 4, 1)), (146, 1, (1, 31, 1)), (148, 0, (0, 146, 2)), (157, 0, (0, 146, 2)), (157, 1, (2, 4, 1))]
theorem fo {t : TypeId} {i : Nat} {x : Nat × Nat × Nat} (h : lkP foL t i = some x) : fldOff Tryz.prog t i = some x := lookP (f := fldOff Tryz.prog) foL ⟨fo30_0, fo30_1, fo30_2, fo30_3, fo30_4, fo34_0, fo34_1, fo34_2, fo34_3, fo34_4, fo40_0, fo40_1, fo40_2, fo40_3, fo45_0, fo45_1, fo45_2, fo45_3, fo45_4, fo45_5, fo45_6, fo45_7, fo45_8, fo45_9, fo45_10, fo45_11, fo47_0, fo47_1, fo47_2, fo64_0, fo64_1, fo64_2, fo64_3, fo64_4, fo64_5, fo64_6, fo64_7, fo64_8, fo68_0, fo68_1, fo68_2, fo68_3, fo73_0, fo73_1, fo73_2, fo77_0, fo77_1, fo77_2, fo77_3, fo77_4, fo77_5, fo77_6, fo77_7, fo86_0, fo86_1, fo86_2, fo86_3, fo88_0, fo88_1, fo90_0, fo90_1, fo90_2, fo109_0, fo109_1, fo109_2, fo109_3, fo109_4, fo114_0, fo114_1, fo139_0, fo139_1, fo139_2, fo139_3, fo141_0, fo141_1, fo146_0, fo146_1, fo148_0, fo157_0, fo157_1, trivial⟩ h
def lkC : List Nat → Nat → Bool
  | [], _ => false
  | k :: E, t => match Nat.beq k t with
    | true => true
    | false => lkC E t
def allC (Q : Nat → Prop) : List Nat → Prop
  | [] => True
  | p :: l => Q p ∧ allC Q l
theorem lookC {Q : Nat → Prop} : ∀ (l : List Nat), allC Q l → ∀ {t : Nat}, lkC l t = true → Q t
  | [], _, _, h => (Bool.false_ne_true h).elim
  | k :: E, hA, t, h => by
    unfold lkC at h
    cases hb : Nat.beq k t with
    | true => obtain rfl := Nat.eq_of_beq_eq_true hb; exact hA.1
    | false => rw [hb] at h; exact lookC E hA.2 h
def calL : List Nat := [3, 4, 5, 6, 7, 8, 9, 10, 11, 12, 13, 14, 15, 16, 17, 18, 19, 20, 21, 22, 23, 24, 25, 26, 27, 28, 29, 30, 31, 32, 33, 34, 35, 36, 37, 38, 39, 40, 41, 42, 43, 44, 45, 46, 47, 48, 49, 50, 51, 52, 53, 54, 55, 56, 57, 58, 59, 60, 61, 62, 63, 64, 65, 66, 67, 68, 69, 70, 71, 72, 73, 74, 75, 76, 77, 78, 79, 80, 81, 82, 83, 84, 85, 86, 87, 88, 89, 90, 91, 92, 93, 94, 95, 96, 97, 98, 99, 100, 101, 102, 103, 104, 105, 106, 107, 108, 109, 110, 111, 112, 113, 114, 115, 116, 117, 118, 119, 120, 121, 122, 123, 124, 125, 126, 127, 128, 129, 130, 131, 132, 133, 134, 135, 136, 137, 138]
theorem cal {t : Nat} (h : lkC calL t = true) : Callable Tryz.prog t := lookC (Q := Callable Tryz.prog) calL ⟨cal3, cal4, cal5, cal6, cal7, cal8, cal9, cal10, cal11, cal12, cal13, cal14, cal15, cal16, cal17, cal18, cal19, cal20, cal21, cal22, cal23, cal24, cal25, cal26, cal27, cal28, cal29, cal30, cal31, cal32, cal33, cal34, cal35, cal36, cal37, cal38, cal39, cal40, cal41, cal42, cal43, cal44, cal45, cal46, cal47, cal48, cal49, cal50, cal51, cal52, cal53, cal54, cal55, cal56, cal57, cal58, cal59, cal60, cal61, cal62, cal63, cal64, cal65, cal66, cal67, cal68, cal69, cal70, cal71, cal72, cal73, cal74, cal75, cal76, cal77, cal78, cal79, cal80, cal81, cal82, cal83, cal84, cal85, cal86, cal87, cal88, cal89, cal90, cal91, cal92, cal93, cal94, cal95, cal96, cal97, cal98, cal99, cal100, cal101, cal102, cal103, cal104, cal105, cal106, cal107, cal108, cal109, cal110, cal111, cal112, cal113, cal114, cal115, cal116, cal117, cal118, cal119, cal120, cal121, cal122, cal123, cal124, cal125, cal126, cal127, cal128, cal129, cal130, cal131, cal132, cal133, cal134, cal135, cal136, cal137, cal138, trivial⟩ h
def plL : List (Nat × List (Nat × Nat)) := [(30, [(0, 1), (1, 1), (2, 1), (3, 1), (4, 1)]), (34, [(0, 1), (1, 5), (6, 1), (7, 1), (8, 1)]), (45, [(0, 1), (1, 1), (2, 1), (3, 1), (4, 1), (5, 1), (6, 1), (7, 4), (11, 1), (12, 1), (13, 1), (14, 1)]), (64, [(0, 1), (1, 1), (2, 1), (3, 1), (4, 1), (5, 1), (6, 1), (7, 1), (8, 1)]), (73, [(0, 1), (1, 1), (2, 1)]), (77, [(0, 1), (1, 1), (2, 1), (3, 1), (4, 1), (5, 1), (6, 1), (7, 1)]), (86, [(0, 1), (1, 1), (2, 1), (3, 1)]), (88, [(0, 1), (1, 4)]), (109, [(0, 1), (1, 1), (2, 1), (3, 1), (4, 3)]), (114, [(0, 1), (1, 512)]), (139, [(0, 1), (1, 1), (2, 1), (3, 1)]), (141, [(0, 1), (1, 1)]), (146, [(0, 1), (1, 1)]), (148, [(0, 2)]), (157, [(0, 2), (2, 1)])]
theorem pl {t : TypeId} {x : List (Nat × Nat)} (h : lkL plL t = some x) : placesOf Tryz.prog t = some x := look (f := placesOf Tryz.prog) plL ⟨pl30, pl34, pl45, pl64, pl73, pl77, pl86, pl88, pl109, pl114, pl139, pl141, pl146, pl148, pl157, trivial⟩ h
theorem mixed : Tryz.prog.follows .mixedOrders = true := by kernel_rfl
end Go.Proofs.YtmcdaegaopfihaaGreat.Fx
