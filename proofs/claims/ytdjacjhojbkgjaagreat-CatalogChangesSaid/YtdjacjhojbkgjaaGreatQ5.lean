/-
  Closed facts on the types and the functions of this seat. Written by program (facts.py). Conditions: none.
-/
import Derived.Test.YtdjacjhojbkgjaaGreatQ1
import Derived.Test.YtdjacjhojbkgjaaGreatProg
import Derived.KernelRfl
namespace Go.Proofs.YtdjacjhojbkgjaaGreat.Fx
open Go Go.K Go.Proofs
set_option linter.unusedVariables false
def lkL {α : Type} : List (Nat × α) → Nat → Option α
  | [], _ => none
  | (k, v) :: E, t => match Nat.beq k t with
    | true => some v
    | false => lkL E t
def allL {α : Type} (f : Nat → Option α) : List (Nat × α) → Prop
  | [] => True
  | p :: l => f p.1 = some p.2 ∧ allL f l
theorem look {α : Type} {f : Nat → Option α} : ∀ (l : List (Nat × α)), allL f l → ∀ {t : Nat} {x : α}, lkL l t = some x → f t = some x
  | [], _, _, _, h => (Option.some_ne_none _ h.symm).elim
  | (k, v) :: E, hA, t, x, h => by
    unfold lkL at h
    split at h
    · rename_i hb
      rw [← Nat.eq_of_beq_eq_true hb, ← h]
      exact hA.1
    · exact look E hA.2 h
theorem g1 : aggOf Tryz.prog 1 = some false := by kernel_rfl
theorem z1 : szOf Tryz.prog 1 = some 1 := by kernel_rfl
theorem by1 : byOf Tryz.prog 1 = some 8 := by kernel_rfl
theorem zr1 : zrOf Tryz.prog 1 = some (.nilFunc) := by kernel_rfl
theorem g2 : aggOf Tryz.prog 2 = some false := by kernel_rfl
theorem z2 : szOf Tryz.prog 2 = some 1 := by kernel_rfl
theorem by2 : byOf Tryz.prog 2 = some 8 := by kernel_rfl
theorem zr2 : zrOf Tryz.prog 2 = some (.int .i64 (0)) := by kernel_rfl
theorem g3 : aggOf Tryz.prog 3 = some false := by kernel_rfl
theorem z3 : szOf Tryz.prog 3 = some 1 := by kernel_rfl
theorem by3 : byOf Tryz.prog 3 = some 8 := by kernel_rfl
theorem zr3 : zrOf Tryz.prog 3 = some (.int .i64 (0)) := by kernel_rfl
theorem g4 : aggOf Tryz.prog 4 = some false := by kernel_rfl
theorem z4 : szOf Tryz.prog 4 = some 1 := by kernel_rfl
theorem by4 : byOf Tryz.prog 4 = some 1 := by kernel_rfl
theorem zr4 : zrOf Tryz.prog 4 = some (.bool false) := by kernel_rfl
theorem g5 : aggOf Tryz.prog 5 = some false := by kernel_rfl
theorem z5 : szOf Tryz.prog 5 = some 1 := by kernel_rfl
theorem by5 : byOf Tryz.prog 5 = some 1 := by kernel_rfl
theorem zr5 : zrOf Tryz.prog 5 = some (.int .u8 (0)) := by kernel_rfl
theorem g6 : aggOf Tryz.prog 6 = some false := by kernel_rfl
theorem z6 : szOf Tryz.prog 6 = some 1 := by kernel_rfl
theorem by6 : byOf Tryz.prog 6 = some 1 := by kernel_rfl
theorem zr6 : zrOf Tryz.prog 6 = some (.int .u8 (0)) := by kernel_rfl
theorem g7 : aggOf Tryz.prog 7 = some true := by kernel_rfl
theorem z7 : szOf Tryz.prog 7 = some 4 := by kernel_rfl
theorem by7 : byOf Tryz.prog 7 = some 24 := by kernel_rfl
theorem zr7 : zrOf Tryz.prog 7 = some (.agg [.int .i64 (0), .int .i64 (0), .bool false, .int .u8 (0)].toArray) := by kernel_rfl
theorem g8 : aggOf Tryz.prog 8 = some true := by kernel_rfl
theorem z8 : szOf Tryz.prog 8 = some 4 := by kernel_rfl
theorem by8 : byOf Tryz.prog 8 = some 24 := by kernel_rfl
theorem zr8 : zrOf Tryz.prog 8 = some (.agg [.int .i64 (0), .int .i64 (0), .bool false, .int .u8 (0)].toArray) := by kernel_rfl
theorem g9 : aggOf Tryz.prog 9 = some false := by kernel_rfl
theorem z9 : szOf Tryz.prog 9 = some 1 := by kernel_rfl
theorem by9 : byOf Tryz.prog 9 = some 16 := by kernel_rfl
theorem zr9 : zrOf Tryz.prog 9 = some (.string ⟨#[]⟩) := by kernel_rfl
theorem g10 : aggOf Tryz.prog 10 = some false := by kernel_rfl
theorem z10 : szOf Tryz.prog 10 = some 1 := by kernel_rfl
theorem by10 : byOf Tryz.prog 10 = some 16 := by kernel_rfl
theorem zr10 : zrOf Tryz.prog 10 = some (.string ⟨#[]⟩) := by kernel_rfl
theorem g11 : aggOf Tryz.prog 11 = some false := by kernel_rfl
theorem z11 : szOf Tryz.prog 11 = some 1 := by kernel_rfl
theorem by11 : byOf Tryz.prog 11 = some 16 := by kernel_rfl
theorem zr11 : zrOf Tryz.prog 11 = some (.string ⟨#[]⟩) := by kernel_rfl
theorem g12 : aggOf Tryz.prog 12 = some false := by kernel_rfl
theorem z12 : szOf Tryz.prog 12 = some 1 := by kernel_rfl
theorem by12 : byOf Tryz.prog 12 = some 8 := by kernel_rfl
theorem zr12 : zrOf Tryz.prog 12 = some (.int .u64 (0)) := by kernel_rfl
theorem g13 : aggOf Tryz.prog 13 = some true := by kernel_rfl
theorem z13 : szOf Tryz.prog 13 = some 2 := by kernel_rfl
theorem by13 : byOf Tryz.prog 13 = some 24 := by kernel_rfl
theorem zr13 : zrOf Tryz.prog 13 = some (.agg [.string ⟨#[]⟩, .int .u64 (0)].toArray) := by kernel_rfl
theorem g14 : aggOf Tryz.prog 14 = some true := by kernel_rfl
theorem z14 : szOf Tryz.prog 14 = some 2 := by kernel_rfl
theorem by14 : byOf Tryz.prog 14 = some 24 := by kernel_rfl
theorem zr14 : zrOf Tryz.prog 14 = some (.agg [.string ⟨#[]⟩, .int .u64 (0)].toArray) := by kernel_rfl
theorem g15 : aggOf Tryz.prog 15 = some false := by kernel_rfl
theorem z15 : szOf Tryz.prog 15 = some 1 := by kernel_rfl
theorem by15 : byOf Tryz.prog 15 = some 8 := by kernel_rfl
theorem zr15 : zrOf Tryz.prog 15 = some (.pointer none) := by kernel_rfl
theorem g16 : aggOf Tryz.prog 16 = some false := by kernel_rfl
theorem z16 : szOf Tryz.prog 16 = some 1 := by kernel_rfl
theorem by16 : byOf Tryz.prog 16 = some 8 := by kernel_rfl
theorem zr16 : zrOf Tryz.prog 16 = some (.pointer none) := by kernel_rfl
theorem g17 : aggOf Tryz.prog 17 = some false := by kernel_rfl
theorem z17 : szOf Tryz.prog 17 = some 1 := by kernel_rfl
theorem by17 : byOf Tryz.prog 17 = some 8 := by kernel_rfl
theorem zr17 : zrOf Tryz.prog 17 = some (.pointer none) := by kernel_rfl
theorem g18 : aggOf Tryz.prog 18 = some true := by kernel_rfl
theorem z18 : szOf Tryz.prog 18 = some 1 := by kernel_rfl
theorem by18 : byOf Tryz.prog 18 = some 8 := by kernel_rfl
theorem zr18 : zrOf Tryz.prog 18 = some (.agg [.pointer none].toArray) := by kernel_rfl
theorem g19 : aggOf Tryz.prog 19 = some true := by kernel_rfl
theorem z19 : szOf Tryz.prog 19 = some 1 := by kernel_rfl
theorem by19 : byOf Tryz.prog 19 = some 8 := by kernel_rfl
theorem zr19 : zrOf Tryz.prog 19 = some (.agg [.pointer none].toArray) := by kernel_rfl
theorem g20 : aggOf Tryz.prog 20 = some false := by kernel_rfl
theorem z20 : szOf Tryz.prog 20 = some 1 := by kernel_rfl
theorem by20 : byOf Tryz.prog 20 = some 16 := by kernel_rfl
theorem zr20 : zrOf Tryz.prog 20 = some (.nilIface) := by kernel_rfl
theorem g21 : aggOf Tryz.prog 21 = some false := by kernel_rfl
theorem z21 : szOf Tryz.prog 21 = some 1 := by kernel_rfl
theorem by21 : byOf Tryz.prog 21 = some 4 := by kernel_rfl
theorem zr21 : zrOf Tryz.prog 21 = some (.int .i32 (0)) := by kernel_rfl
theorem g22 : aggOf Tryz.prog 22 = some false := by kernel_rfl
theorem z22 : szOf Tryz.prog 22 = some 1 := by kernel_rfl
theorem by22 : byOf Tryz.prog 22 = some 24 := by kernel_rfl
theorem zr22 : zrOf Tryz.prog 22 = some (.slice none 0 0) := by kernel_rfl
theorem g23 : aggOf Tryz.prog 23 = some false := by kernel_rfl
theorem z23 : szOf Tryz.prog 23 = some 1 := by kernel_rfl
theorem by23 : byOf Tryz.prog 23 = some 24 := by kernel_rfl
theorem zr23 : zrOf Tryz.prog 23 = some (.slice none 0 0) := by kernel_rfl
theorem g24 : aggOf Tryz.prog 24 = some true := by kernel_rfl
theorem z24 : szOf Tryz.prog 24 = some 2 := by kernel_rfl
theorem by24 : byOf Tryz.prog 24 = some 48 := by kernel_rfl
theorem zr24 : zrOf Tryz.prog 24 = some (.agg [.slice none 0 0, .slice none 0 0].toArray) := by kernel_rfl
theorem g25 : aggOf Tryz.prog 25 = some true := by kernel_rfl
theorem z25 : szOf Tryz.prog 25 = some 2 := by kernel_rfl
theorem by25 : byOf Tryz.prog 25 = some 48 := by kernel_rfl
theorem zr25 : zrOf Tryz.prog 25 = some (.agg [.slice none 0 0, .slice none 0 0].toArray) := by kernel_rfl
theorem g26 : aggOf Tryz.prog 26 = some false := by kernel_rfl
theorem z26 : szOf Tryz.prog 26 = some 1 := by kernel_rfl
theorem by26 : byOf Tryz.prog 26 = some 24 := by kernel_rfl
theorem zr26 : zrOf Tryz.prog 26 = some (.slice none 0 0) := by kernel_rfl
theorem g27 : aggOf Tryz.prog 27 = some false := by kernel_rfl
theorem z27 : szOf Tryz.prog 27 = some 1 := by kernel_rfl
theorem by27 : byOf Tryz.prog 27 = some 24 := by kernel_rfl
theorem zr27 : zrOf Tryz.prog 27 = some (.slice none 0 0) := by kernel_rfl
theorem g28 : aggOf Tryz.prog 28 = some false := by kernel_rfl
theorem z28 : szOf Tryz.prog 28 = some 1 := by kernel_rfl
theorem by28 : byOf Tryz.prog 28 = some 4 := by kernel_rfl
theorem zr28 : zrOf Tryz.prog 28 = some (.int .u32 (0)) := by kernel_rfl
theorem g29 : aggOf Tryz.prog 29 = some true := by kernel_rfl
theorem z29 : szOf Tryz.prog 29 = some 7 := by kernel_rfl
theorem by29 : byOf Tryz.prog 29 = some 96 := by kernel_rfl
theorem zr29 : zrOf Tryz.prog 29 = some (.agg [.int .i64 (0), .string ⟨#[]⟩, .string ⟨#[]⟩, .slice none 0 0, .slice none 0 0, .bool false, .int .u32 (0)].toArray) := by kernel_rfl
theorem g30 : aggOf Tryz.prog 30 = some true := by kernel_rfl
theorem z30 : szOf Tryz.prog 30 = some 7 := by kernel_rfl
theorem by30 : byOf Tryz.prog 30 = some 96 := by kernel_rfl
theorem zr30 : zrOf Tryz.prog 30 = some (.agg [.int .i64 (0), .string ⟨#[]⟩, .string ⟨#[]⟩, .slice none 0 0, .slice none 0 0, .bool false, .int .u32 (0)].toArray) := by kernel_rfl
theorem g31 : aggOf Tryz.prog 31 = some false := by kernel_rfl
theorem z31 : szOf Tryz.prog 31 = some 1 := by kernel_rfl
theorem by31 : byOf Tryz.prog 31 = some 8 := by kernel_rfl
theorem zr31 : zrOf Tryz.prog 31 = some (.nilFunc) := by kernel_rfl
theorem g32 : aggOf Tryz.prog 32 = some false := by kernel_rfl
theorem z32 : szOf Tryz.prog 32 = some 1 := by kernel_rfl
theorem by32 : byOf Tryz.prog 32 = some 8 := by kernel_rfl
theorem zr32 : zrOf Tryz.prog 32 = some (.int .i64 (0)) := by kernel_rfl
theorem g34 : aggOf Tryz.prog 34 = some false := by kernel_rfl
theorem z34 : szOf Tryz.prog 34 = some 1 := by kernel_rfl
theorem by34 : byOf Tryz.prog 34 = some 8 := by kernel_rfl
theorem zr34 : zrOf Tryz.prog 34 = some (.nilFunc) := by kernel_rfl
theorem g35 : aggOf Tryz.prog 35 = some false := by kernel_rfl
theorem z35 : szOf Tryz.prog 35 = some 1 := by kernel_rfl
theorem by35 : byOf Tryz.prog 35 = some 8 := by kernel_rfl
theorem zr35 : zrOf Tryz.prog 35 = some (.nilFunc) := by kernel_rfl
theorem g36 : aggOf Tryz.prog 36 = some true := by kernel_rfl
theorem z36 : szOf Tryz.prog 36 = some 4 := by kernel_rfl
theorem by36 : byOf Tryz.prog 36 = some 56 := by kernel_rfl
theorem zr36 : zrOf Tryz.prog 36 = some (.agg [.int .u32 (0), .string ⟨#[]⟩, .slice none 0 0, .int .u32 (0)].toArray) := by kernel_rfl
theorem g37 : aggOf Tryz.prog 37 = some true := by kernel_rfl
theorem z37 : szOf Tryz.prog 37 = some 4 := by kernel_rfl
theorem by37 : byOf Tryz.prog 37 = some 56 := by kernel_rfl
theorem zr37 : zrOf Tryz.prog 37 = some (.agg [.int .u32 (0), .string ⟨#[]⟩, .slice none 0 0, .int .u32 (0)].toArray) := by kernel_rfl
theorem g38 : aggOf Tryz.prog 38 = some true := by kernel_rfl
theorem z38 : szOf Tryz.prog 38 = some 3 := by kernel_rfl
theorem by38 : byOf Tryz.prog 38 = some 32 := by kernel_rfl
theorem zr38 : zrOf Tryz.prog 38 = some (.agg [.string ⟨#[]⟩, .int .i64 (0), .bool false].toArray) := by kernel_rfl
theorem g39 : aggOf Tryz.prog 39 = some true := by kernel_rfl
theorem z39 : szOf Tryz.prog 39 = some 3 := by kernel_rfl
theorem by39 : byOf Tryz.prog 39 = some 32 := by kernel_rfl
theorem zr39 : zrOf Tryz.prog 39 = some (.agg [.string ⟨#[]⟩, .int .i64 (0), .bool false].toArray) := by kernel_rfl
theorem g40 : aggOf Tryz.prog 40 = some false := by kernel_rfl
theorem z40 : szOf Tryz.prog 40 = some 1 := by kernel_rfl
theorem by40 : byOf Tryz.prog 40 = some 8 := by kernel_rfl
theorem zr40 : zrOf Tryz.prog 40 = some (.nilFunc) := by kernel_rfl
theorem g41 : aggOf Tryz.prog 41 = some false := by kernel_rfl
theorem z41 : szOf Tryz.prog 41 = some 1 := by kernel_rfl
theorem by41 : byOf Tryz.prog 41 = some 8 := by kernel_rfl
theorem zr41 : zrOf Tryz.prog 41 = some (.nilFunc) := by kernel_rfl
theorem g42 : aggOf Tryz.prog 42 = some true := by kernel_rfl
theorem z42 : szOf Tryz.prog 42 = some 6 := by kernel_rfl
theorem by42 : byOf Tryz.prog 42 = some 56 := by kernel_rfl
theorem zr42 : zrOf Tryz.prog 42 = some (.agg [.int .u32 (0), .int .u32 (0), .string ⟨#[]⟩, .slice none 0 0, .bool false, .int .u32 (0)].toArray) := by kernel_rfl
theorem g43 : aggOf Tryz.prog 43 = some true := by kernel_rfl
theorem z43 : szOf Tryz.prog 43 = some 6 := by kernel_rfl
theorem by43 : byOf Tryz.prog 43 = some 56 := by kernel_rfl
theorem zr43 : zrOf Tryz.prog 43 = some (.agg [.int .u32 (0), .int .u32 (0), .string ⟨#[]⟩, .slice none 0 0, .bool false, .int .u32 (0)].toArray) := by kernel_rfl
theorem g47 : aggOf Tryz.prog 47 = some false := by kernel_rfl
theorem z47 : szOf Tryz.prog 47 = some 1 := by kernel_rfl
theorem by47 : byOf Tryz.prog 47 = some 8 := by kernel_rfl
theorem zr47 : zrOf Tryz.prog 47 = some (.nilFunc) := by kernel_rfl
theorem g48 : aggOf Tryz.prog 48 = some false := by kernel_rfl
theorem z48 : szOf Tryz.prog 48 = some 1 := by kernel_rfl
theorem by48 : byOf Tryz.prog 48 = some 8 := by kernel_rfl
theorem zr48 : zrOf Tryz.prog 48 = some (.nilFunc) := by kernel_rfl
theorem g50 : aggOf Tryz.prog 50 = some false := by kernel_rfl
theorem z50 : szOf Tryz.prog 50 = some 1 := by kernel_rfl
theorem by50 : byOf Tryz.prog 50 = some 24 := by kernel_rfl
theorem zr50 : zrOf Tryz.prog 50 = some (.slice none 0 0) := by kernel_rfl
theorem g52 : aggOf Tryz.prog 52 = some false := by kernel_rfl
theorem z52 : szOf Tryz.prog 52 = some 1 := by kernel_rfl
theorem by52 : byOf Tryz.prog 52 = some 8 := by kernel_rfl
theorem zr52 : zrOf Tryz.prog 52 = some (.nilFunc) := by kernel_rfl
theorem g53 : aggOf Tryz.prog 53 = some false := by kernel_rfl
theorem z53 : szOf Tryz.prog 53 = some 1 := by kernel_rfl
theorem by53 : byOf Tryz.prog 53 = some 8 := by kernel_rfl
theorem zr53 : zrOf Tryz.prog 53 = some (.nilFunc) := by kernel_rfl
theorem g54 : aggOf Tryz.prog 54 = some false := by kernel_rfl
theorem z54 : szOf Tryz.prog 54 = some 1 := by kernel_rfl
theorem by54 : byOf Tryz.prog 54 = some 8 := by kernel_rfl
theorem zr54 : zrOf Tryz.prog 54 = some (.nilFunc) := by kernel_rfl
theorem g56 : aggOf Tryz.prog 56 = some false := by kernel_rfl
theorem z56 : szOf Tryz.prog 56 = some 1 := by kernel_rfl
theorem by56 : byOf Tryz.prog 56 = some 8 := by kernel_rfl
theorem zr56 : zrOf Tryz.prog 56 = some (.nilFunc) := by kernel_rfl
theorem g59 : aggOf Tryz.prog 59 = some false := by kernel_rfl
theorem z59 : szOf Tryz.prog 59 = some 1 := by kernel_rfl
theorem by59 : byOf Tryz.prog 59 = some 8 := by kernel_rfl
theorem zr59 : zrOf Tryz.prog 59 = some (.nilFunc) := by kernel_rfl
theorem g60 : aggOf Tryz.prog 60 = some false := by kernel_rfl
theorem z60 : szOf Tryz.prog 60 = some 1 := by kernel_rfl
theorem by60 : byOf Tryz.prog 60 = some 8 := by kernel_rfl
theorem zr60 : zrOf Tryz.prog 60 = some (.nilFunc) := by kernel_rfl
theorem g62 : aggOf Tryz.prog 62 = some false := by kernel_rfl
theorem z62 : szOf Tryz.prog 62 = some 1 := by kernel_rfl
theorem by62 : byOf Tryz.prog 62 = some 8 := by kernel_rfl
theorem zr62 : zrOf Tryz.prog 62 = some (.nilFunc) := by kernel_rfl
theorem g63 : aggOf Tryz.prog 63 = some false := by kernel_rfl
theorem z63 : szOf Tryz.prog 63 = some 1 := by kernel_rfl
theorem by63 : byOf Tryz.prog 63 = some 8 := by kernel_rfl
theorem zr63 : zrOf Tryz.prog 63 = some (.nilFunc) := by kernel_rfl
theorem g64 : aggOf Tryz.prog 64 = some false := by kernel_rfl
theorem z64 : szOf Tryz.prog 64 = some 1 := by kernel_rfl
theorem by64 : byOf Tryz.prog 64 = some 8 := by kernel_rfl
theorem zr64 : zrOf Tryz.prog 64 = some (.nilFunc) := by kernel_rfl
theorem g65 : aggOf Tryz.prog 65 = some false := by kernel_rfl
theorem z65 : szOf Tryz.prog 65 = some 1 := by kernel_rfl
theorem by65 : byOf Tryz.prog 65 = some 8 := by kernel_rfl
theorem zr65 : zrOf Tryz.prog 65 = some (.nilFunc) := by kernel_rfl
theorem g66 : aggOf Tryz.prog 66 = some false := by kernel_rfl
theorem z66 : szOf Tryz.prog 66 = some 1 := by kernel_rfl
theorem by66 : byOf Tryz.prog 66 = some 8 := by kernel_rfl
theorem zr66 : zrOf Tryz.prog 66 = some (.nilFunc) := by kernel_rfl
theorem g67 : aggOf Tryz.prog 67 = some false := by kernel_rfl
theorem z67 : szOf Tryz.prog 67 = some 1 := by kernel_rfl
theorem by67 : byOf Tryz.prog 67 = some 8 := by kernel_rfl
theorem zr67 : zrOf Tryz.prog 67 = some (.nilFunc) := by kernel_rfl
theorem g69 : aggOf Tryz.prog 69 = some false := by kernel_rfl
theorem z69 : szOf Tryz.prog 69 = some 1 := by kernel_rfl
theorem by69 : byOf Tryz.prog 69 = some 8 := by kernel_rfl
theorem zr69 : zrOf Tryz.prog 69 = some (.nilFunc) := by kernel_rfl
theorem g72 : aggOf Tryz.prog 72 = some false := by kernel_rfl
theorem z72 : szOf Tryz.prog 72 = some 1 := by kernel_rfl
theorem by72 : byOf Tryz.prog 72 = some 24 := by kernel_rfl
theorem zr72 : zrOf Tryz.prog 72 = some (.slice none 0 0) := by kernel_rfl
theorem g73 : aggOf Tryz.prog 73 = some false := by kernel_rfl
theorem z73 : szOf Tryz.prog 73 = some 1 := by kernel_rfl
theorem by73 : byOf Tryz.prog 73 = some 8 := by kernel_rfl
theorem zr73 : zrOf Tryz.prog 73 = some (.nilFunc) := by kernel_rfl
theorem g74 : aggOf Tryz.prog 74 = some false := by kernel_rfl
theorem z74 : szOf Tryz.prog 74 = some 1 := by kernel_rfl
theorem by74 : byOf Tryz.prog 74 = some 8 := by kernel_rfl
theorem zr74 : zrOf Tryz.prog 74 = some (.nilFunc) := by kernel_rfl
theorem g77 : aggOf Tryz.prog 77 = some false := by kernel_rfl
theorem z77 : szOf Tryz.prog 77 = some 1 := by kernel_rfl
theorem by77 : byOf Tryz.prog 77 = some 8 := by kernel_rfl
theorem zr77 : zrOf Tryz.prog 77 = some (.nilFunc) := by kernel_rfl
theorem g79 : aggOf Tryz.prog 79 = some false := by kernel_rfl
theorem z79 : szOf Tryz.prog 79 = some 1 := by kernel_rfl
theorem by79 : byOf Tryz.prog 79 = some 8 := by kernel_rfl
theorem zr79 : zrOf Tryz.prog 79 = some (.nilFunc) := by kernel_rfl
theorem g80 : aggOf Tryz.prog 80 = some false := by kernel_rfl
theorem z80 : szOf Tryz.prog 80 = some 1 := by kernel_rfl
theorem by80 : byOf Tryz.prog 80 = some 8 := by kernel_rfl
theorem zr80 : zrOf Tryz.prog 80 = some (.nilFunc) := by kernel_rfl
theorem g81 : aggOf Tryz.prog 81 = some false := by kernel_rfl
theorem z81 : szOf Tryz.prog 81 = some 1 := by kernel_rfl
theorem by81 : byOf Tryz.prog 81 = some 8 := by kernel_rfl
theorem zr81 : zrOf Tryz.prog 81 = some (.pointer none) := by kernel_rfl
theorem g82 : aggOf Tryz.prog 82 = some false := by kernel_rfl
theorem z82 : szOf Tryz.prog 82 = some 1 := by kernel_rfl
theorem by82 : byOf Tryz.prog 82 = some 8 := by kernel_rfl
theorem zr82 : zrOf Tryz.prog 82 = some (.nilFunc) := by kernel_rfl
theorem g83 : aggOf Tryz.prog 83 = some false := by kernel_rfl
theorem z83 : szOf Tryz.prog 83 = some 1 := by kernel_rfl
theorem by83 : byOf Tryz.prog 83 = some 8 := by kernel_rfl
theorem zr83 : zrOf Tryz.prog 83 = some (.nilFunc) := by kernel_rfl
theorem g84 : aggOf Tryz.prog 84 = some false := by kernel_rfl
theorem z84 : szOf Tryz.prog 84 = some 1 := by kernel_rfl
theorem by84 : byOf Tryz.prog 84 = some 8 := by kernel_rfl
theorem zr84 : zrOf Tryz.prog 84 = some (.nilFunc) := by kernel_rfl
theorem g85 : aggOf Tryz.prog 85 = some true := by kernel_rfl
theorem z85 : szOf Tryz.prog 85 = some 3 := by kernel_rfl
theorem by85 : byOf Tryz.prog 85 = some 32 := by kernel_rfl
theorem zr85 : zrOf Tryz.prog 85 = some (.agg [.int .i64 (0), .int .i64 (0), .string ⟨#[]⟩].toArray) := by kernel_rfl
theorem g86 : aggOf Tryz.prog 86 = some true := by kernel_rfl
theorem z86 : szOf Tryz.prog 86 = some 3 := by kernel_rfl
theorem by86 : byOf Tryz.prog 86 = some 32 := by kernel_rfl
theorem zr86 : zrOf Tryz.prog 86 = some (.agg [.int .i64 (0), .int .i64 (0), .string ⟨#[]⟩].toArray) := by kernel_rfl
theorem g89 : aggOf Tryz.prog 89 = some false := by kernel_rfl
theorem z89 : szOf Tryz.prog 89 = some 1 := by kernel_rfl
theorem by89 : byOf Tryz.prog 89 = some 8 := by kernel_rfl
theorem zr89 : zrOf Tryz.prog 89 = some (.map none) := by kernel_rfl
theorem g90 : aggOf Tryz.prog 90 = some false := by kernel_rfl
theorem z90 : szOf Tryz.prog 90 = some 1 := by kernel_rfl
theorem by90 : byOf Tryz.prog 90 = some 8 := by kernel_rfl
theorem zr90 : zrOf Tryz.prog 90 = some (.nilFunc) := by kernel_rfl
theorem g91 : aggOf Tryz.prog 91 = some false := by kernel_rfl
theorem z91 : szOf Tryz.prog 91 = some 1 := by kernel_rfl
theorem by91 : byOf Tryz.prog 91 = some 8 := by kernel_rfl
theorem zr91 : zrOf Tryz.prog 91 = some (.nilFunc) := by kernel_rfl
theorem g94 : aggOf Tryz.prog 94 = some false := by kernel_rfl
theorem z94 : szOf Tryz.prog 94 = some 1 := by kernel_rfl
theorem by94 : byOf Tryz.prog 94 = some 8 := by kernel_rfl
theorem zr94 : zrOf Tryz.prog 94 = some (.nilFunc) := by kernel_rfl
theorem g99 : aggOf Tryz.prog 99 = some false := by kernel_rfl
theorem z99 : szOf Tryz.prog 99 = some 1 := by kernel_rfl
theorem by99 : byOf Tryz.prog 99 = some 24 := by kernel_rfl
theorem zr99 : zrOf Tryz.prog 99 = some (.slice none 0 0) := by kernel_rfl
theorem g102 : aggOf Tryz.prog 102 = some false := by kernel_rfl
theorem z102 : szOf Tryz.prog 102 = some 1 := by kernel_rfl
theorem by102 : byOf Tryz.prog 102 = some 8 := by kernel_rfl
theorem zr102 : zrOf Tryz.prog 102 = some (.nilFunc) := by kernel_rfl
theorem g103 : aggOf Tryz.prog 103 = some false := by kernel_rfl
theorem z103 : szOf Tryz.prog 103 = some 1 := by kernel_rfl
theorem by103 : byOf Tryz.prog 103 = some 8 := by kernel_rfl
theorem zr103 : zrOf Tryz.prog 103 = some (.nilFunc) := by kernel_rfl
theorem g109 : aggOf Tryz.prog 109 = some false := by kernel_rfl
theorem z109 : szOf Tryz.prog 109 = some 1 := by kernel_rfl
theorem by109 : byOf Tryz.prog 109 = some 8 := by kernel_rfl
theorem zr109 : zrOf Tryz.prog 109 = some (.int .u64 (0)) := by kernel_rfl
theorem g112 : aggOf Tryz.prog 112 = some false := by kernel_rfl
theorem z112 : szOf Tryz.prog 112 = some 1 := by kernel_rfl
theorem by112 : byOf Tryz.prog 112 = some 8 := by kernel_rfl
theorem zr112 : zrOf Tryz.prog 112 = some (.nilFunc) := by kernel_rfl
theorem g114 : aggOf Tryz.prog 114 = some false := by kernel_rfl
theorem z114 : szOf Tryz.prog 114 = some 1 := by kernel_rfl
theorem by114 : byOf Tryz.prog 114 = some 8 := by kernel_rfl
theorem zr114 : zrOf Tryz.prog 114 = some (.nilFunc) := by kernel_rfl
theorem g115 : aggOf Tryz.prog 115 = some false := by kernel_rfl
theorem z115 : szOf Tryz.prog 115 = some 1 := by kernel_rfl
theorem by115 : byOf Tryz.prog 115 = some 8 := by kernel_rfl
theorem zr115 : zrOf Tryz.prog 115 = some (.nilFunc) := by kernel_rfl
theorem g117 : aggOf Tryz.prog 117 = some false := by kernel_rfl
theorem z117 : szOf Tryz.prog 117 = some 1 := by kernel_rfl
theorem by117 : byOf Tryz.prog 117 = some 8 := by kernel_rfl
theorem zr117 : zrOf Tryz.prog 117 = some (.int .i64 (0)) := by kernel_rfl
theorem g119 : aggOf Tryz.prog 119 = some false := by kernel_rfl
theorem z119 : szOf Tryz.prog 119 = some 1 := by kernel_rfl
theorem by119 : byOf Tryz.prog 119 = some 8 := by kernel_rfl
theorem zr119 : zrOf Tryz.prog 119 = some (.nilFunc) := by kernel_rfl
theorem g120 : aggOf Tryz.prog 120 = some false := by kernel_rfl
theorem z120 : szOf Tryz.prog 120 = some 1 := by kernel_rfl
theorem by120 : byOf Tryz.prog 120 = some 8 := by kernel_rfl
theorem zr120 : zrOf Tryz.prog 120 = some (.nilFunc) := by kernel_rfl
theorem g121 : aggOf Tryz.prog 121 = some false := by kernel_rfl
theorem z121 : szOf Tryz.prog 121 = some 1 := by kernel_rfl
theorem by121 : byOf Tryz.prog 121 = some 8 := by kernel_rfl
theorem zr121 : zrOf Tryz.prog 121 = some (.nilFunc) := by kernel_rfl
theorem g126 : aggOf Tryz.prog 126 = some false := by kernel_rfl
theorem z126 : szOf Tryz.prog 126 = some 1 := by kernel_rfl
theorem by126 : byOf Tryz.prog 126 = some 8 := by kernel_rfl
theorem zr126 : zrOf Tryz.prog 126 = some (.int .u64 (0)) := by kernel_rfl
theorem g128 : aggOf Tryz.prog 128 = some false := by kernel_rfl
theorem z128 : szOf Tryz.prog 128 = some 1 := by kernel_rfl
theorem by128 : byOf Tryz.prog 128 = some 8 := by kernel_rfl
theorem zr128 : zrOf Tryz.prog 128 = some (.int .u64 (0)) := by kernel_rfl
theorem g129 : aggOf Tryz.prog 129 = some false := by kernel_rfl
theorem z129 : szOf Tryz.prog 129 = some 1 := by kernel_rfl
theorem by129 : byOf Tryz.prog 129 = some 8 := by kernel_rfl
theorem zr129 : zrOf Tryz.prog 129 = some (.nilFunc) := by kernel_rfl
theorem g131 : aggOf Tryz.prog 131 = some false := by kernel_rfl
theorem z131 : szOf Tryz.prog 131 = some 1 := by kernel_rfl
theorem by131 : byOf Tryz.prog 131 = some 8 := by kernel_rfl
theorem zr131 : zrOf Tryz.prog 131 = some (.nilFunc) := by kernel_rfl
theorem g132 : aggOf Tryz.prog 132 = some false := by kernel_rfl
theorem z132 : szOf Tryz.prog 132 = some 1 := by kernel_rfl
theorem by132 : byOf Tryz.prog 132 = some 8 := by kernel_rfl
theorem zr132 : zrOf Tryz.prog 132 = some (.pointer none) := by kernel_rfl
theorem g134 : aggOf Tryz.prog 134 = some false := by kernel_rfl
theorem z134 : szOf Tryz.prog 134 = some 1 := by kernel_rfl
theorem by134 : byOf Tryz.prog 134 = some 8 := by kernel_rfl
theorem zr134 : zrOf Tryz.prog 134 = some (.pointer none) := by kernel_rfl
theorem g140 : aggOf Tryz.prog 140 = some true := by kernel_rfl
theorem z140 : szOf Tryz.prog 140 = some 0 := by kernel_rfl
theorem by140 : byOf Tryz.prog 140 = some 0 := by kernel_rfl
theorem zr140 : zrOf Tryz.prog 140 = some (.agg [].toArray) := by kernel_rfl
theorem g141 : aggOf Tryz.prog 141 = some true := by kernel_rfl
theorem z141 : szOf Tryz.prog 141 = some 0 := by kernel_rfl
theorem by141 : byOf Tryz.prog 141 = some 0 := by kernel_rfl
theorem zr141 : zrOf Tryz.prog 141 = some (.agg [].toArray) := by kernel_rfl
theorem g147 : aggOf Tryz.prog 147 = some false := by kernel_rfl
theorem z147 : szOf Tryz.prog 147 = some 1 := by kernel_rfl
theorem by147 : byOf Tryz.prog 147 = some 8 := by kernel_rfl
theorem zr147 : zrOf Tryz.prog 147 = some (.pointer none) := by kernel_rfl
theorem g148 : aggOf Tryz.prog 148 = some false := by kernel_rfl
theorem z148 : szOf Tryz.prog 148 = some 1 := by kernel_rfl
theorem by148 : byOf Tryz.prog 148 = some 4 := by kernel_rfl
theorem zr148 : zrOf Tryz.prog 148 = some (.int .i32 (0)) := by kernel_rfl
theorem fo25_0 : fldOff Tryz.prog 25 0 = some (0, 22, 1) := by kernel_rfl
theorem fo25_1 : fldOff Tryz.prog 25 1 = some (1, 23, 1) := by kernel_rfl
theorem fo30_0 : fldOff Tryz.prog 30 0 = some (0, 3, 1) := by kernel_rfl
theorem fo30_1 : fldOff Tryz.prog 30 1 = some (1, 9, 1) := by kernel_rfl
theorem fo30_2 : fldOff Tryz.prog 30 2 = some (2, 9, 1) := by kernel_rfl
theorem fo30_3 : fldOff Tryz.prog 30 3 = some (3, 26, 1) := by kernel_rfl
theorem fo30_4 : fldOff Tryz.prog 30 4 = some (4, 27, 1) := by kernel_rfl
theorem fo30_5 : fldOff Tryz.prog 30 5 = some (5, 4, 1) := by kernel_rfl
theorem fo30_6 : fldOff Tryz.prog 30 6 = some (6, 28, 1) := by kernel_rfl
theorem fo37_0 : fldOff Tryz.prog 37 0 = some (0, 28, 1) := by kernel_rfl
theorem fo37_1 : fldOff Tryz.prog 37 1 = some (1, 9, 1) := by kernel_rfl
theorem fo37_2 : fldOff Tryz.prog 37 2 = some (2, 26, 1) := by kernel_rfl
theorem fo37_3 : fldOff Tryz.prog 37 3 = some (3, 28, 1) := by kernel_rfl
theorem fo39_0 : fldOff Tryz.prog 39 0 = some (0, 9, 1) := by kernel_rfl
theorem fo39_1 : fldOff Tryz.prog 39 1 = some (1, 3, 1) := by kernel_rfl
theorem fo39_2 : fldOff Tryz.prog 39 2 = some (2, 4, 1) := by kernel_rfl
theorem fo43_0 : fldOff Tryz.prog 43 0 = some (0, 28, 1) := by kernel_rfl
theorem fo43_1 : fldOff Tryz.prog 43 1 = some (1, 28, 1) := by kernel_rfl
theorem fo43_2 : fldOff Tryz.prog 43 2 = some (2, 9, 1) := by kernel_rfl
theorem fo43_3 : fldOff Tryz.prog 43 3 = some (3, 27, 1) := by kernel_rfl
theorem fo43_4 : fldOff Tryz.prog 43 4 = some (4, 4, 1) := by kernel_rfl
theorem fo43_5 : fldOff Tryz.prog 43 5 = some (5, 28, 1) := by kernel_rfl
theorem fo86_0 : fldOff Tryz.prog 86 0 = some (0, 3, 1) := by kernel_rfl
theorem fo86_1 : fldOff Tryz.prog 86 1 = some (1, 2, 1) := by kernel_rfl
theorem fo86_2 : fldOff Tryz.prog 86 2 = some (2, 9, 1) := by kernel_rfl
theorem pl25 : placesOf Tryz.prog 25 = some [(0, 1), (1, 1)] := by kernel_rfl
theorem pl37 : placesOf Tryz.prog 37 = some [(0, 1), (1, 1), (2, 1), (3, 1)] := by kernel_rfl
theorem pl39 : placesOf Tryz.prog 39 = some [(0, 1), (1, 1), (2, 1)] := by kernel_rfl
theorem pl43 : placesOf Tryz.prog 43 = some [(0, 1), (1, 1), (2, 1), (3, 1), (4, 1), (5, 1)] := by kernel_rfl
theorem pl86 : placesOf Tryz.prog 86 = some [(0, 1), (1, 1), (2, 1)] := by kernel_rfl
theorem cal3 : Callable Tryz.prog 3 := callable_of Tryz.func3 rfl (by kernel_rfl)
theorem cal4 : Callable Tryz.prog 4 := callable_of Tryz.func4 rfl (by kernel_rfl)
theorem cal5 : Callable Tryz.prog 5 := callable_of Tryz.func5 rfl (by kernel_rfl)
theorem cal6 : Callable Tryz.prog 6 := callable_of Tryz.func6 rfl (by kernel_rfl)
theorem cal7 : Callable Tryz.prog 7 := callable_of Tryz.func7 rfl (by kernel_rfl)
theorem cal8 : Callable Tryz.prog 8 := callable_of Tryz.func8 rfl (by kernel_rfl)
theorem cal9 : Callable Tryz.prog 9 := callable_of Tryz.func9 rfl (by kernel_rfl)
theorem cal10 : Callable Tryz.prog 10 := callable_of Tryz.func10 rfl (by kernel_rfl)
theorem cal11 : Callable Tryz.prog 11 := callable_of Tryz.func11 rfl (by kernel_rfl)
theorem cal12 : Callable Tryz.prog 12 := callable_of Tryz.func12 rfl (by kernel_rfl)
theorem cal13 : Callable Tryz.prog 13 := callable_of Tryz.func13 rfl (by kernel_rfl)
theorem cal14 : Callable Tryz.prog 14 := callable_of Tryz.func14 rfl (by kernel_rfl)
theorem cal15 : Callable Tryz.prog 15 := callable_of Tryz.func15 rfl (by kernel_rfl)
theorem cal16 : Callable Tryz.prog 16 := callable_of Tryz.func16 rfl (by kernel_rfl)
theorem cal17 : Callable Tryz.prog 17 := callable_of Tryz.func17 rfl (by kernel_rfl)
theorem cal18 : Callable Tryz.prog 18 := callable_of Tryz.func18 rfl (by kernel_rfl)
theorem cal19 : Callable Tryz.prog 19 := callable_of Tryz.func19 rfl (by kernel_rfl)
theorem cal20 : Callable Tryz.prog 20 := callable_of Tryz.func20 rfl (by kernel_rfl)
theorem cal21 : Callable Tryz.prog 21 := callable_of Tryz.func21 rfl (by kernel_rfl)
theorem cal22 : Callable Tryz.prog 22 := callable_of Tryz.func22 rfl (by kernel_rfl)
theorem cal23 : Callable Tryz.prog 23 := callable_of Tryz.func23 rfl (by kernel_rfl)
theorem cal24 : Callable Tryz.prog 24 := callable_of Tryz.func24 rfl (by kernel_rfl)
theorem cal25 : Callable Tryz.prog 25 := callable_of Tryz.func25 rfl (by kernel_rfl)
theorem cal26 : Callable Tryz.prog 26 := callable_of Tryz.func26 rfl (by kernel_rfl)
theorem cal27 : Callable Tryz.prog 27 := callable_of Tryz.func27 rfl (by kernel_rfl)
theorem cal28 : Callable Tryz.prog 28 := callable_of Tryz.func28 rfl (by kernel_rfl)
theorem cal29 : Callable Tryz.prog 29 := callable_of Tryz.func29 rfl (by kernel_rfl)
theorem cal30 : Callable Tryz.prog 30 := callable_of Tryz.func30 rfl (by kernel_rfl)
theorem cal31 : Callable Tryz.prog 31 := callable_of Tryz.func31 rfl (by kernel_rfl)
theorem cal32 : Callable Tryz.prog 32 := callable_of Tryz.func32 rfl (by kernel_rfl)
theorem cal33 : Callable Tryz.prog 33 := callable_of Tryz.func33 rfl (by kernel_rfl)
theorem cal34 : Callable Tryz.prog 34 := callable_of Tryz.func34 rfl (by kernel_rfl)
theorem cal35 : Callable Tryz.prog 35 := callable_of Tryz.func35 rfl (by kernel_rfl)
theorem cal36 : Callable Tryz.prog 36 := callable_of Tryz.func36 rfl (by kernel_rfl)
theorem cal37 : Callable Tryz.prog 37 := callable_of Tryz.func37 rfl (by kernel_rfl)
theorem cal38 : Callable Tryz.prog 38 := callable_of Tryz.func38 rfl (by kernel_rfl)
theorem cal39 : Callable Tryz.prog 39 := callable_of Tryz.func39 rfl (by kernel_rfl)
theorem cal40 : Callable Tryz.prog 40 := callable_of Tryz.func40 rfl (by kernel_rfl)
theorem cal41 : Callable Tryz.prog 41 := callable_of Tryz.func41 rfl (by kernel_rfl)
theorem cal42 : Callable Tryz.prog 42 := callable_of Tryz.func42 rfl (by kernel_rfl)
theorem cal43 : Callable Tryz.prog 43 := callable_of Tryz.func43 rfl (by kernel_rfl)
theorem cal44 : Callable Tryz.prog 44 := callable_of Tryz.func44 rfl (by kernel_rfl)
theorem cal45 : Callable Tryz.prog 45 := callable_of Tryz.func45 rfl (by kernel_rfl)
theorem cal46 : Callable Tryz.prog 46 := callable_of Tryz.func46 rfl (by kernel_rfl)
theorem cal47 : Callable Tryz.prog 47 := callable_of Tryz.func47 rfl (by kernel_rfl)
theorem cal48 : Callable Tryz.prog 48 := callable_of Tryz.func48 rfl (by kernel_rfl)
theorem cal49 : Callable Tryz.prog 49 := callable_of Tryz.func49 rfl (by kernel_rfl)
theorem cal50 : Callable Tryz.prog 50 := callable_of Tryz.func50 rfl (by kernel_rfl)
theorem cal51 : Callable Tryz.prog 51 := callable_of Tryz.func51 rfl (by kernel_rfl)
theorem cal52 : Callable Tryz.prog 52 := callable_of Tryz.func52 rfl (by kernel_rfl)
theorem cal53 : Callable Tryz.prog 53 := callable_of Tryz.func53 rfl (by kernel_rfl)
theorem cal54 : Callable Tryz.prog 54 := callable_of Tryz.func54 rfl (by kernel_rfl)
theorem cal55 : Callable Tryz.prog 55 := callable_of Tryz.func55 rfl (by kernel_rfl)
theorem cal56 : Callable Tryz.prog 56 := callable_of Tryz.func56 rfl (by kernel_rfl)
theorem cal57 : Callable Tryz.prog 57 := callable_of Tryz.func57 rfl (by kernel_rfl)
theorem cal58 : Callable Tryz.prog 58 := callable_of Tryz.func58 rfl (by kernel_rfl)
theorem cal59 : Callable Tryz.prog 59 := callable_of Tryz.func59 rfl (by kernel_rfl)
theorem cal60 : Callable Tryz.prog 60 := callable_of Tryz.func60 rfl (by kernel_rfl)
theorem cal61 : Callable Tryz.prog 61 := callable_of Tryz.func61 rfl (by kernel_rfl)
theorem cal62 : Callable Tryz.prog 62 := callable_of Tryz.func62 rfl (by kernel_rfl)
theorem cal63 : Callable Tryz.prog 63 := callable_of Tryz.func63 rfl (by kernel_rfl)
theorem cal64 : Callable Tryz.prog 64 := callable_of Tryz.func64 rfl (by kernel_rfl)
theorem cal65 : Callable Tryz.prog 65 := callable_of Tryz.func65 rfl (by kernel_rfl)
theorem cal66 : Callable Tryz.prog 66 := callable_of Tryz.func66 rfl (by kernel_rfl)
theorem cal67 : Callable Tryz.prog 67 := callable_of Tryz.func67 rfl (by kernel_rfl)
theorem cal68 : Callable Tryz.prog 68 := callable_of Tryz.func68 rfl (by kernel_rfl)
theorem cal69 : Callable Tryz.prog 69 := callable_of Tryz.func69 rfl (by kernel_rfl)
theorem cal70 : Callable Tryz.prog 70 := callable_of Tryz.func70 rfl (by kernel_rfl)
theorem cal71 : Callable Tryz.prog 71 := callable_of Tryz.func71 rfl (by kernel_rfl)
theorem cal72 : Callable Tryz.prog 72 := callable_of Tryz.func72 rfl (by kernel_rfl)
theorem cal73 : Callable Tryz.prog 73 := callable_of Tryz.func73 rfl (by kernel_rfl)
theorem cal74 : Callable Tryz.prog 74 := callable_of Tryz.func74 rfl (by kernel_rfl)
theorem cal75 : Callable Tryz.prog 75 := callable_of Tryz.func75 rfl (by kernel_rfl)
theorem cal76 : Callable Tryz.prog 76 := callable_of Tryz.func76 rfl (by kernel_rfl)
theorem cal77 : Callable Tryz.prog 77 := callable_of Tryz.func77 rfl (by kernel_rfl)
theorem cal78 : Callable Tryz.prog 78 := callable_of Tryz.func78 rfl (by kernel_rfl)
theorem cal79 : Callable Tryz.prog 79 := callable_of Tryz.func79 rfl (by kernel_rfl)
theorem cal80 : Callable Tryz.prog 80 := callable_of Tryz.func80 rfl (by kernel_rfl)
theorem cal81 : Callable Tryz.prog 81 := callable_of Tryz.func81 rfl (by kernel_rfl)
theorem cal82 : Callable Tryz.prog 82 := callable_of Tryz.func82 rfl (by kernel_rfl)
theorem cal83 : Callable Tryz.prog 83 := callable_of Tryz.func83 rfl (by kernel_rfl)
theorem cal84 : Callable Tryz.prog 84 := callable_of Tryz.func84 rfl (by kernel_rfl)
theorem cal85 : Callable Tryz.prog 85 := callable_of Tryz.func85 rfl (by kernel_rfl)
theorem cal86 : Callable Tryz.prog 86 := callable_of Tryz.func86 rfl (by kernel_rfl)
theorem cal87 : Callable Tryz.prog 87 := callable_of Tryz.func87 rfl (by kernel_rfl)
theorem cal88 : Callable Tryz.prog 88 := callable_of Tryz.func88 rfl (by kernel_rfl)
theorem cal89 : Callable Tryz.prog 89 := callable_of Tryz.func89 rfl (by kernel_rfl)
theorem cal90 : Callable Tryz.prog 90 := callable_of Tryz.func90 rfl (by kernel_rfl)
theorem cal91 : Callable Tryz.prog 91 := callable_of Tryz.func91 rfl (by kernel_rfl)
theorem cal92 : Callable Tryz.prog 92 := callable_of Tryz.func92 rfl (by kernel_rfl)
theorem cal93 : Callable Tryz.prog 93 := callable_of Tryz.func93 rfl (by kernel_rfl)
theorem cal94 : Callable Tryz.prog 94 := callable_of Tryz.func94 rfl (by kernel_rfl)
theorem cal95 : Callable Tryz.prog 95 := callable_of Tryz.func95 rfl (by kernel_rfl)
theorem cal96 : Callable Tryz.prog 96 := callable_of Tryz.func96 rfl (by kernel_rfl)
theorem cal97 : Callable Tryz.prog 97 := callable_of Tryz.func97 rfl (by kernel_rfl)
theorem cal98 : Callable Tryz.prog 98 := callable_of Tryz.func98 rfl (by kernel_rfl)
theorem cal99 : Callable Tryz.prog 99 := callable_of Tryz.func99 rfl (by kernel_rfl)
theorem cal100 : Callable Tryz.prog 100 := callable_of Tryz.func100 rfl (by kernel_rfl)
theorem cal101 : Callable Tryz.prog 101 := callable_of Tryz.func101 rfl (by kernel_rfl)
theorem cal102 : Callable Tryz.prog 102 := callable_of Tryz.func102 rfl (by kernel_rfl)
theorem cal103 : Callable Tryz.prog 103 := callable_of Tryz.func103 rfl (by kernel_rfl)
def undL : List (Nat × TypeDesc) := [(2, .int .i64), (3, .int .i64), (4, .bool), (5, .int .u8), (6, .int .u8), (9, .string), (10, .string), (11, .string), (12, .int .u64), (15, .pointer 139), (16, .pointer 142), (17, .pointer 151), (21, .int .i32), (22, .slice 37), (23, .slice 43), (26, .slice 39), (27, .slice 3), (28, .int .u32), (32, .int .i64), (50, .slice 72), (72, .slice 86), (81, .pointer 25), (99, .slice 28), (109, .int .u64), (117, .int .i64), (126, .int .u64), (128, .int .u64), (132, .pointer 3), (134, .pointer 128), (140, .array 0 16), (147, .pointer 5), (148, .int .i32)]
theorem und {t : TypeId} {x : TypeDesc} (h : lkL undL t = some x) : Tryz.prog.underlying t = some x := look (f := Tryz.prog.underlying) undL ⟨Tryz.underlying2, Tryz.underlying3, Tryz.underlying4, Tryz.underlying5, Tryz.underlying6, Tryz.underlying9, Tryz.underlying10, Tryz.underlying11, Tryz.underlying12, Tryz.underlying15, Tryz.underlying16, Tryz.underlying17, Tryz.underlying21, Tryz.underlying22, Tryz.underlying23, Tryz.underlying26, Tryz.underlying27, Tryz.underlying28, Tryz.underlying32, Tryz.underlying50, Tryz.underlying72, Tryz.underlying81, Tryz.underlying99, Tryz.underlying109, Tryz.underlying117, Tryz.underlying126, Tryz.underlying128, Tryz.underlying132, Tryz.underlying134, Tryz.underlying140, Tryz.underlying147, Tryz.underlying148, trivial⟩ h
theorem fl39 : flatD Tryz.prog 39 = some [.string, .int .i64, .bool] := by kernel_rfl
theorem fl86 : flatD Tryz.prog 86 = some [.int .i64, .int .i64, .string] := by kernel_rfl
def flatL : List (Nat × List TypeDesc) := [(39, [.string, .int .i64, .bool]), (86, [.int .i64, .int .i64, .string])]
theorem flat {t : TypeId} {x : List TypeDesc} (h : lkL flatL t = some x) : flatD Tryz.prog t = some x := look (f := flatD Tryz.prog) flatL ⟨fl39, fl86, trivial⟩ h
def aggL : List (Nat × Bool) := [(1, false), (2, false), (3, false), (4, false), (5, false), (6, false), (7, true), (8, true), (9, false), (10, false), (11, false), (12, false), (13, true), (14, true), (15, false), (16, false), (17, false), (18, true), (19, true), (20, false), (21, false), (22, false), (23, false), (24, true), (25, true), (26, false), (27, false), (28, false), (29, true), (30, true), (31, false), (32, false), (34, false), (35, false), (36, true), (37, true), (38, true), (39, true), (40, false), (41, false), (42, true), (43, true), (47, false), (48, false), (50, false), (52, false), (53, false), (54, false), (56, false), (59, false), (60, false), (62, false), (63, false), (64, false), (65, false), (66, false), (67, false), (69, false), (72, false), (73, false), (74, false), (77, false), (79, false), (80, false), (81, false), (82, false), (83, false), (84, false), (85, true), (86, true), (89, false), (90, false), (91, false), (94, false), (99, false), (102, false), (103, false), (109, false), (112, false), (114, false), (115, false), (117, false), (119, false), (120, false), (121, false), (126, false), (128, false), (129, false), (131, false), (132, false), (134, false), (140, true), (141, true), (147, false), (148, false)]
theorem agg {t : TypeId} {x : Bool} (h : lkL aggL t = some x) : aggOf Tryz.prog t = some x := look (f := aggOf Tryz.prog) aggL ⟨g1, g2, g3, g4, g5, g6, g7, g8, g9, g10, g11, g12, g13, g14, g15, g16, g17, g18, g19, g20, g21, g22, g23, g24, g25, g26, g27, g28, g29, g30, g31, g32, g34, g35, g36, g37, g38, g39, g40, g41, g42, g43, g47, g48, g50, g52, g53, g54, g56, g59, g60, g62, g63, g64, g65, g66, g67, g69, g72, g73, g74, g77, g79, g80, g81, g82, g83, g84, g85, g86, g89, g90, g91, g94, g99, g102, g103, g109, g112, g114, g115, g117, g119, g120, g121, g126, g128, g129, g131, g132, g134, g140, g141, g147, g148, trivial⟩ h
def szL : List (Nat × Nat) := [(1, 1), (2, 1), (3, 1), (4, 1), (5, 1), (6, 1), (7, 4), (8, 4), (9, 1), (10, 1), (11, 1), (12, 1), (13, 2), (14, 2), (15, 1), (16, 1), (17, 1), (18, 1), (19, 1), (20, 1), (21, 1), (22, 1), (23, 1), (24, 2), (25, 2), (26, 1), (27, 1), (28, 1), (29, 7), (30, 7), (31, 1), (32, 1), (34, 1), (35, 1), (36, 4), (37, 4), (38, 3), (39, 3), (40, 1), (41, 1), (42, 6), (43, 6), (47, 1), (48, 1), (50, 1), (52, 1), (53, 1), (54, 1), (56, 1), (59, 1), (60, 1), (62, 1), (63, 1), (64, 1), (65, 1), (66, 1), (67, 1), (69, 1), (72, 1), (73, 1), (74, 1), (77, 1), (79, 1), (80, 1), (81, 1), (82, 1), (83, 1), (84, 1), (85, 3), (86, 3), (89, 1), (90, 1), (91, 1), (94, 1), (99, 1), (102, 1), (103, 1), (109, 1), (112, 1), (114, 1), (115, 1), (117, 1), (119, 1), (120, 1), (121, 1), (126, 1), (128, 1), (129, 1), (131, 1), (132, 1), (134, 1), (140, 0), (141, 0), (147, 1), (148, 1)]
theorem sz {t : TypeId} {x : Nat} (h : lkL szL t = some x) : szOf Tryz.prog t = some x := look (f := szOf Tryz.prog) szL ⟨z1, z2, z3, z4, z5, z6, z7, z8, z9, z10, z11, z12, z13, z14, z15, z16, z17, z18, z19, z20, z21, z22, z23, z24, z25, z26, z27, z28, z29, z30, z31, z32, z34, z35, z36, z37, z38, z39, z40, z41, z42, z43, z47, z48, z50, z52, z53, z54, z56, z59, z60, z62, z63, z64, z65, z66, z67, z69, z72, z73, z74, z77, z79, z80, z81, z82, z83, z84, z85, z86, z89, z90, z91, z94, z99, z102, z103, z109, z112, z114, z115, z117, z119, z120, z121, z126, z128, z129, z131, z132, z134, z140, z141, z147, z148, trivial⟩ h
def zrL : List (Nat × Value) := [(1, .nilFunc), (2, .int .i64 (0)), (3, .int .i64 (0)), (4, .bool false), (5, .int .u8 (0)), (6, .int .u8 (0)), (7, .agg [.int .i64 (0), .int .i64 (0), .bool false, .int .u8 (0)].toArray), (8, .agg [.int .i64 (0), .int .i64 (0), .bool false, .int .u8 (0)].toArray), (9, .string ⟨#[]⟩), (10, .string ⟨#[]⟩), (11, .string ⟨#[]⟩), (12, .int .u64 (0)), (13, .agg [.string ⟨#[]⟩, .int .u64 (0)].toArray), (14, .agg [.string ⟨#[]⟩, .int .u64 (0)].toArray), (15, .pointer none), (16, .pointer none), (17, .pointer none), (18, .agg [.pointer none].toArray), (19, .agg [.pointer none].toArray), (20, .nilIface), (21, .int .i32 (0)), (22, .slice none 0 0), (23, .slice none 0 0), (24, .agg [.slice none 0 0, .slice none 0 0].toArray), (25, .agg [.slice none 0 0, .slice none 0 0].toArray), (26, .slice none 0 0), (27, .slice none 0 0), (28, .int .u32 (0)), (29, .agg [.int .i64 (0), .string ⟨#[]⟩, .string ⟨#[]⟩, .slice none 0 0, .slice none 0 0, .bool false, .int .u32 (0)].toArray), (30, .agg [.int .i64 (0), .string ⟨#[]⟩, .string ⟨#[]⟩, .slice none 0 0, .slice none 0 0, .bool false, .int .u32 (0)].toArray), (31, .nilFunc), (32, .int .i64 (0)), (34, .nilFunc), (35, .nilFunc), (36, .agg [.int .u32 (0), .string ⟨#[]⟩, .slice none 0 0, .int .u32 (0)].toArray), (37, .agg [.int .u32 (0), .string ⟨#[]⟩, .slice none 0 0, .int .u32 (0)].toArray), (38, .agg [.string ⟨#[]⟩, .int .i64 (0), .bool false].toArray), (39, .agg [.string ⟨#[]⟩, .int .i64 (0), .bool false].toArray), (40, .nilFunc), (41, .nilFunc), (42, .agg [.int .u32 (0), .int .u32 (0), .string ⟨#[]⟩, .slice none 0 0, .bool false, .int .u32 (0)].toArray), (43, .agg [.int .u32 (0), .int .u32 (0), .string ⟨#[]⟩, .slice none 0 0, .bool false, .int .u32 (0)].toArray), (47, .nilFunc), (48, .nilFunc), (50, .slice none 0 0), (52, .nilFunc), (53, .nilFunc), (54, .nilFunc), (56, .nilFunc), (59, .nilFunc), (60, .nilFunc), (62, .nilFunc), (63, .nilFunc), (64, .nilFunc), (65, .nilFunc), (66, .nilFunc), (67, .nilFunc), (69, .nilFunc), (72, .slice none 0 0), (73, .nilFunc), (74, .nilFunc), (77, .nilFunc), (79, .nilFunc), (80, .nilFunc), (81, .pointer none), (82, .nilFunc), (83, .nilFunc), (84, .nilFunc), (85, .agg [.int .i64 (0), .int .i64 (0), .string ⟨#[]⟩].toArray), (86, .agg [.int .i64 (0), .int .i64 (0), .string ⟨#[]⟩].toArray), (89, .map none), (90, .nilFunc), (91, .nilFunc), (94, .nilFunc), (99, .slice none 0 0), (102, .nilFunc), (103, .nilFunc), (109, .int .u64 (0)), (112, .nilFunc), (114, .nilFunc), (115, .nilFunc), (117, .int .i64 (0)), (119, .nilFunc), (120, .nilFunc), (121, .nilFunc), (126, .int .u64 (0)), (128, .int .u64 (0)), (129, .nilFunc), (131, .nilFunc), (132, .pointer none), (134, .pointer none), (140, .agg [].toArray), (141, .agg [].toArray), (147, .pointer none), (148, .int .i32 (0))]
theorem zr {t : TypeId} {x : Value} (h : lkL zrL t = some x) : zrOf Tryz.prog t = some x := look (f := zrOf Tryz.prog) zrL ⟨zr1, zr2, zr3, zr4, zr5, zr6, zr7, zr8, zr9, zr10, zr11, zr12, zr13, zr14, zr15, zr16, zr17, zr18, zr19, zr20, zr21, zr22, zr23, zr24, zr25, zr26, zr27, zr28, zr29, zr30, zr31, zr32, zr34, zr35, zr36, zr37, zr38, zr39, zr40, zr41, zr42, zr43, zr47, zr48, zr50, zr52, zr53, zr54, zr56, zr59, zr60, zr62, zr63, zr64, zr65, zr66, zr67, zr69, zr72, zr73, zr74, zr77, zr79, zr80, zr81, zr82, zr83, zr84, zr85, zr86, zr89, zr90, zr91, zr94, zr99, zr102, zr103, zr109, zr112, zr114, zr115, zr117, zr119, zr120, zr121, zr126, zr128, zr129, zr131, zr132, zr134, zr140, zr141, zr147, zr148, trivial⟩ h
def bytL : List (Nat × Nat) := [(1, 8), (2, 8), (3, 8), (4, 1), (5, 1), (6, 1), (7, 24), (8, 24), (9, 16), (10, 16), (11, 16), (12, 8), (13, 24), (14, 24), (15, 8), (16, 8), (17, 8), (18, 8), (19, 8), (20, 16), (21, 4), (22, 24), (23, 24), (24, 48), (25, 48), (26, 24), (27, 24), (28, 4), (29, 96), (30, 96), (31, 8), (32, 8), (34, 8), (35, 8), (36, 56), (37, 56), (38, 32), (39, 32), (40, 8), (41, 8), (42, 56), (43, 56), (47, 8), (48, 8), (50, 24), (52, 8), (53, 8), (54, 8), (56, 8), (59, 8), (60, 8), (62, 8), (63, 8), (64, 8), (65, 8), (66, 8), (67, 8), (69, 8), (72, 24), (73, 8), (74, 8), (77, 8), (79, 8), (80, 8), (81, 8), (82, 8), (83, 8), (84, 8), (85, 32), (86, 32), (89, 8), (90, 8), (91, 8), (94, 8), (99, 24), (102, 8), (103, 8), (109, 8), (112, 8), (114, 8), (115, 8), (117, 8), (119, 8), (120, 8), (121, 8), (126, 8), (128, 8), (129, 8), (131, 8), (132, 8), (134, 8), (140, 0), (141, 0), (147, 8), (148, 4)]
theorem byt {t : TypeId} {x : Nat} (h : lkL bytL t = some x) : byOf Tryz.prog t = some x := look (f := byOf Tryz.prog) bytL ⟨by1, by2, by3, by4, by5, by6, by7, by8, by9, by10, by11, by12, by13, by14, by15, by16, by17, by18, by19, by20, by21, by22, by23, by24, by25, by26, by27, by28, by29, by30, by31, by32, by34, by35, by36, by37, by38, by39, by40, by41, by42, by43, by47, by48, by50, by52, by53, by54, by56, by59, by60, by62, by63, by64, by65, by66, by67, by69, by72, by73, by74, by77, by79, by80, by81, by82, by83, by84, by85, by86, by89, by90, by91, by94, by99, by102, by103, by109, by112, by114, by115, by117, by119, by120, by121, by126, by128, by129, by131, by132, by134, by140, by141, by147, by148, trivial⟩ h
def lkP {α : Type} : List (Nat × Nat × α) → Nat → Nat → Option α
  | [], _, _ => none
  | (k, j, v) :: E, t, i => match Nat.beq k t && Nat.beq j i with
    | true => some v
    | false => lkP E t i
def allP {α : Type} (f : Nat → Nat → Option α) : List (Nat × Nat × α) → Prop
  | [] => True
  | p :: l => f p.1 p.2.1 = some p.2.2 ∧ allP f l
theorem lookP {α : Type} {f : Nat → Nat → Option α} : ∀ (l : List (Nat × Nat × α)), allP f l → ∀ {t i : Nat} {x : α}, lkP l t i = some x → f t i = some x
  | [], _, _, _, _, h => (Option.some_ne_none _ h.symm).elim
  | (k, j, v) :: E, hA, t, i, x, h => by
    unfold lkP at h
    cases hb : Nat.beq k t && Nat.beq j i with
    | true =>
      rw [hb] at h
      simp only [Bool.and_eq_true] at hb
      obtain rfl := Nat.eq_of_beq_eq_true hb.1
      obtain rfl := Nat.eq_of_beq_eq_true hb.2
      cases h
      exact hA.1
    | false =>
      rw [hb] at h
      exact lookP E hA.2 h
def foL : List (Nat × Nat × (Nat × Nat × Nat)) := [(25, 0, (0, 22, 1)), (25, 1, (1, 23, 1)), (30, 0, (0, 3, 1)), (30, 1, (1, 9, 1)), (30, 2, (2, 9, 1)), (30, 3, (3, 26, 1)), (30, 4, (4, 27, 1)), (30, 5, (5, 4, 1)), (30, 6, (6, 28, 1)), (37, 0, (0, 28, 1)), (37, 1, (1, 9, 1)), (37, 2, (2, 26, 1)), (37, 3, (3, 28, 1)), (39, 0, (0, 9, 1)), (39, 1, (1, 3, 1)), (39, 2, (2, 4, 1)), (43, 0, (0, 28, 1)), (43, 1, (1, 28, 1)), (43, 2, (2, 9, 1)), (43, 3, (3, 27, 1)), (43, 4, (4, 4, 1)), (43, 5, (5, 28, 1)), (86, 0, (0, 3, 1)), (86, 1, (1, 2, 1)), (86, 2, (2, 9, 1))]
theorem fo {t : TypeId} {i : Nat} {x : Nat × Nat × Nat} (h : lkP foL t i = some x) : fldOff Tryz.prog t i = some x := lookP (f := fldOff Tryz.prog) foL ⟨fo25_0, fo25_1, fo30_0, fo30_1, fo30_2, fo30_3, fo30_4, fo30_5, fo30_6, fo37_0, fo37_1, fo37_2, fo37_3, fo39_0, fo39_1, fo39_2, fo43_0, fo43_1, fo43_2, fo43_3, fo43_4, fo43_5, fo86_0, fo86_1, fo86_2, trivial⟩ h
def lkC : List Nat → Nat → Bool
  | [], _ => false
  | k :: E, t => match Nat.beq k t with
    | true => true
    | false => lkC E t
def allC (Q : Nat → Prop) : List Nat → Prop
  | [] => True
  | p :: l => Q p ∧ allC Q l
theorem lookC {Q : Nat → Prop} : ∀ (l : List Nat), allC Q l → ∀ {t : Nat}, lkC l t = true → Q t
  | [], _, _, h => (Bool.false_ne_true h).elim
  | k :: E, hA, t, h => by
    unfold lkC at h
    cases hb : Nat.beq k t with
    | true => obtain rfl := Nat.eq_of_beq_eq_true hb; exact hA.1
    | false => rw [hb] at h; exact lookC E hA.2 h
def calL : List Nat := [3, 4, 5, 6, 7, 8, 9, 10, 11, 12, 13, 14, 15, 16, 17, 18, 19, 20, 21, 22, 23, 24, 25, 26, 27, 28, 29, 30, 31, 32, 33, 34, 35, 36, 37, 38, 39, 40, 41, 42, 43, 44, 45, 46, 47, 48, 49, 50, 51, 52, 53, 54, 55, 56, 57, 58, 59, 60, 61, 62, 63, 64, 65, 66, 67, 68, 69, 70, 71, 72, 73, 74, 75, 76, 77, 78, 79, 80, 81, 82, 83, 84, 85, 86, 87, 88, 89, 90, 91, 92, 93, 94, 95, 96, 97, 98, 99, 100, 101, 102, 103]
theorem cal {t : Nat} (h : lkC calL t = true) : Callable Tryz.prog t := lookC (Q := Callable Tryz.prog) calL ⟨cal3, cal4, cal5, cal6, cal7, cal8, cal9, cal10, cal11, cal12, cal13, cal14, cal15, cal16, cal17, cal18, cal19, cal20, cal21, cal22, cal23, cal24, cal25, cal26, cal27, cal28, cal29, cal30, cal31, cal32, cal33, cal34, cal35, cal36, cal37, cal38, cal39, cal40, cal41, cal42, cal43, cal44, cal45, cal46, cal47, cal48, cal49, cal50, cal51, cal52, cal53, cal54, cal55, cal56, cal57, cal58, cal59, cal60, cal61, cal62, cal63, cal64, cal65, cal66, cal67, cal68, cal69, cal70, cal71, cal72, cal73, cal74, cal75, cal76, cal77, cal78, cal79, cal80, cal81, cal82, cal83, cal84, cal85, cal86, cal87, cal88, cal89, cal90, cal91, cal92, cal93, cal94, cal95, cal96, cal97, cal98, cal99, cal100, cal101, cal102, cal103, trivial⟩ h
def plL : List (Nat × List (Nat × Nat)) := [(25, [(0, 1), (1, 1)]), (37, [(0, 1), (1, 1), (2, 1), (3, 1)]), (39, [(0, 1), (1, 1), (2, 1)]), (43, [(0, 1), (1, 1), (2, 1), (3, 1), (4, 1), (5, 1)]), (86, [(0, 1), (1, 1), (2, 1)])]
theorem pl {t : TypeId} {x : List (Nat × Nat)} (h : lkL plL t = some x) : placesOf Tryz.prog t = some x := look (f := placesOf Tryz.prog) plL ⟨pl25, pl37, pl39, pl43, pl86, trivial⟩ h
theorem mixed : Tryz.prog.follows .mixedOrders = true := by kernel_rfl
end Go.Proofs.YtdjacjhojbkgjaaGreat.Fx
