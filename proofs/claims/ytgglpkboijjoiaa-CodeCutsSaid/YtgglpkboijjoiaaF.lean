/-
  Closed facts on the types and the functions of this seat. Written by program (facts.py). Conditions: none.
-/
import Derived.Test.YtgglpkboijjoiaaK5
import Derived.Test.YtgglpkboijjoiaaProg
import Derived.KernelRfl
namespace Go.Proofs.Ytgglpkboijjoiaa.Fx
open Go Go.K Go.Proofs
set_option linter.unusedVariables false
/-- a table, looked up -/
def lkL {α : Type} : List (Nat × α) → Nat → Option α
  | [], _ => none
  | (k, v) :: E, t => match Nat.beq k t with
    | true => some v
    | false => lkL E t
def allL {α : Type} (f : Nat → Option α) : List (Nat × α) → Prop
  | [] => True
  | p :: l => f p.1 = some p.2 ∧ allL f l
theorem look {α : Type} {f : Nat → Option α} : ∀ (l : List (Nat × α)), allL f l → ∀ {t : Nat} {x : α}, lkL l t = some x → f t = some x
  | [], _, _, _, h => (Option.some_ne_none _ h.symm).elim
  | (k, v) :: E, hA, t, x, h => by
    unfold lkL at h
    split at h
    · rename_i hb
      rw [← Nat.eq_of_beq_eq_true hb, ← h]
      exact hA.1
    · exact look E hA.2 h
theorem g2 : aggOf Try.prog 2 = some false := by kernel_rfl
theorem z2 : szOf Try.prog 2 = some 1 := by kernel_rfl
theorem by2 : byOf Try.prog 2 = some 8 := by kernel_rfl
theorem zr2 : zrOf Try.prog 2 = some (.int .i64 (0)) := by kernel_rfl
theorem g3 : aggOf Try.prog 3 = some false := by kernel_rfl
theorem z3 : szOf Try.prog 3 = some 1 := by kernel_rfl
theorem by3 : byOf Try.prog 3 = some 8 := by kernel_rfl
theorem zr3 : zrOf Try.prog 3 = some (.int .i64 (0)) := by kernel_rfl
theorem g4 : aggOf Try.prog 4 = some false := by kernel_rfl
theorem z4 : szOf Try.prog 4 = some 1 := by kernel_rfl
theorem by4 : byOf Try.prog 4 = some 1 := by kernel_rfl
theorem zr4 : zrOf Try.prog 4 = some (.bool false) := by kernel_rfl
theorem g5 : aggOf Try.prog 5 = some false := by kernel_rfl
theorem z5 : szOf Try.prog 5 = some 1 := by kernel_rfl
theorem by5 : byOf Try.prog 5 = some 1 := by kernel_rfl
theorem zr5 : zrOf Try.prog 5 = some (.int .u8 (0)) := by kernel_rfl
theorem g6 : aggOf Try.prog 6 = some false := by kernel_rfl
theorem z6 : szOf Try.prog 6 = some 1 := by kernel_rfl
theorem by6 : byOf Try.prog 6 = some 1 := by kernel_rfl
theorem zr6 : zrOf Try.prog 6 = some (.int .u8 (0)) := by kernel_rfl
theorem g7 : aggOf Try.prog 7 = some true := by kernel_rfl
theorem z7 : szOf Try.prog 7 = some 4 := by kernel_rfl
theorem by7 : byOf Try.prog 7 = some 24 := by kernel_rfl
theorem zr7 : zrOf Try.prog 7 = some (.agg [.int .i64 (0), .int .i64 (0), .bool false, .int .u8 (0)].toArray) := by kernel_rfl
theorem g8 : aggOf Try.prog 8 = some true := by kernel_rfl
theorem z8 : szOf Try.prog 8 = some 4 := by kernel_rfl
theorem by8 : byOf Try.prog 8 = some 24 := by kernel_rfl
theorem zr8 : zrOf Try.prog 8 = some (.agg [.int .i64 (0), .int .i64 (0), .bool false, .int .u8 (0)].toArray) := by kernel_rfl
theorem g9 : aggOf Try.prog 9 = some false := by kernel_rfl
theorem z9 : szOf Try.prog 9 = some 1 := by kernel_rfl
theorem by9 : byOf Try.prog 9 = some 16 := by kernel_rfl
theorem zr9 : zrOf Try.prog 9 = some (.string ⟨#[]⟩) := by kernel_rfl
theorem g10 : aggOf Try.prog 10 = some false := by kernel_rfl
theorem z10 : szOf Try.prog 10 = some 1 := by kernel_rfl
theorem by10 : byOf Try.prog 10 = some 16 := by kernel_rfl
theorem zr10 : zrOf Try.prog 10 = some (.string ⟨#[]⟩) := by kernel_rfl
theorem g11 : aggOf Try.prog 11 = some false := by kernel_rfl
theorem z11 : szOf Try.prog 11 = some 1 := by kernel_rfl
theorem by11 : byOf Try.prog 11 = some 16 := by kernel_rfl
theorem zr11 : zrOf Try.prog 11 = some (.string ⟨#[]⟩) := by kernel_rfl
theorem g12 : aggOf Try.prog 12 = some false := by kernel_rfl
theorem z12 : szOf Try.prog 12 = some 1 := by kernel_rfl
theorem by12 : byOf Try.prog 12 = some 8 := by kernel_rfl
theorem zr12 : zrOf Try.prog 12 = some (.int .u64 (0)) := by kernel_rfl
theorem g13 : aggOf Try.prog 13 = some true := by kernel_rfl
theorem z13 : szOf Try.prog 13 = some 2 := by kernel_rfl
theorem by13 : byOf Try.prog 13 = some 24 := by kernel_rfl
theorem zr13 : zrOf Try.prog 13 = some (.agg [.string ⟨#[]⟩, .int .u64 (0)].toArray) := by kernel_rfl
theorem g14 : aggOf Try.prog 14 = some true := by kernel_rfl
theorem z14 : szOf Try.prog 14 = some 2 := by kernel_rfl
theorem by14 : byOf Try.prog 14 = some 24 := by kernel_rfl
theorem zr14 : zrOf Try.prog 14 = some (.agg [.string ⟨#[]⟩, .int .u64 (0)].toArray) := by kernel_rfl
theorem g15 : aggOf Try.prog 15 = some false := by kernel_rfl
theorem z15 : szOf Try.prog 15 = some 1 := by kernel_rfl
theorem by15 : byOf Try.prog 15 = some 8 := by kernel_rfl
theorem zr15 : zrOf Try.prog 15 = some (.pointer none) := by kernel_rfl
theorem g16 : aggOf Try.prog 16 = some false := by kernel_rfl
theorem z16 : szOf Try.prog 16 = some 1 := by kernel_rfl
theorem by16 : byOf Try.prog 16 = some 8 := by kernel_rfl
theorem zr16 : zrOf Try.prog 16 = some (.pointer none) := by kernel_rfl
theorem g17 : aggOf Try.prog 17 = some false := by kernel_rfl
theorem z17 : szOf Try.prog 17 = some 1 := by kernel_rfl
theorem by17 : byOf Try.prog 17 = some 8 := by kernel_rfl
theorem zr17 : zrOf Try.prog 17 = some (.pointer none) := by kernel_rfl
theorem g18 : aggOf Try.prog 18 = some true := by kernel_rfl
theorem z18 : szOf Try.prog 18 = some 1 := by kernel_rfl
theorem by18 : byOf Try.prog 18 = some 8 := by kernel_rfl
theorem zr18 : zrOf Try.prog 18 = some (.agg [.pointer none].toArray) := by kernel_rfl
theorem g19 : aggOf Try.prog 19 = some true := by kernel_rfl
theorem z19 : szOf Try.prog 19 = some 1 := by kernel_rfl
theorem by19 : byOf Try.prog 19 = some 8 := by kernel_rfl
theorem zr19 : zrOf Try.prog 19 = some (.agg [.pointer none].toArray) := by kernel_rfl
theorem g20 : aggOf Try.prog 20 = some false := by kernel_rfl
theorem z20 : szOf Try.prog 20 = some 1 := by kernel_rfl
theorem by20 : byOf Try.prog 20 = some 16 := by kernel_rfl
theorem zr20 : zrOf Try.prog 20 = some (.nilIface) := by kernel_rfl
theorem g21 : aggOf Try.prog 21 = some false := by kernel_rfl
theorem z21 : szOf Try.prog 21 = some 1 := by kernel_rfl
theorem by21 : byOf Try.prog 21 = some 4 := by kernel_rfl
theorem zr21 : zrOf Try.prog 21 = some (.int .i32 (0)) := by kernel_rfl
theorem g22 : aggOf Try.prog 22 = some false := by kernel_rfl
theorem z22 : szOf Try.prog 22 = some 1 := by kernel_rfl
theorem by22 : byOf Try.prog 22 = some 24 := by kernel_rfl
theorem zr22 : zrOf Try.prog 22 = some (.slice none 0 0) := by kernel_rfl
theorem g25 : aggOf Try.prog 25 = some false := by kernel_rfl
theorem z25 : szOf Try.prog 25 = some 1 := by kernel_rfl
theorem by25 : byOf Try.prog 25 = some 8 := by kernel_rfl
theorem zr25 : zrOf Try.prog 25 = some (.pointer none) := by kernel_rfl
theorem g27 : aggOf Try.prog 27 = some false := by kernel_rfl
theorem z27 : szOf Try.prog 27 = some 1 := by kernel_rfl
theorem by27 : byOf Try.prog 27 = some 24 := by kernel_rfl
theorem zr27 : zrOf Try.prog 27 = some (.slice none 0 0) := by kernel_rfl
theorem g29 : aggOf Try.prog 29 = some false := by kernel_rfl
theorem z29 : szOf Try.prog 29 = some 1 := by kernel_rfl
theorem by29 : byOf Try.prog 29 = some 8 := by kernel_rfl
theorem zr29 : zrOf Try.prog 29 = some (.int .u64 (0)) := by kernel_rfl
theorem g30 : aggOf Try.prog 30 = some true := by kernel_rfl
theorem z30 : szOf Try.prog 30 = some 4 := by kernel_rfl
theorem by30 : byOf Try.prog 30 = some 40 := by kernel_rfl
theorem zr30 : zrOf Try.prog 30 = some (.agg [.int .i64 (0), .int .u64 (0), .string ⟨#[]⟩, .int .i64 (0)].toArray) := by kernel_rfl
theorem g31 : aggOf Try.prog 31 = some true := by kernel_rfl
theorem z31 : szOf Try.prog 31 = some 4 := by kernel_rfl
theorem by31 : byOf Try.prog 31 = some 40 := by kernel_rfl
theorem zr31 : zrOf Try.prog 31 = some (.agg [.int .i64 (0), .int .u64 (0), .string ⟨#[]⟩, .int .i64 (0)].toArray) := by kernel_rfl
theorem g34 : aggOf Try.prog 34 = some false := by kernel_rfl
theorem z34 : szOf Try.prog 34 = some 1 := by kernel_rfl
theorem by34 : byOf Try.prog 34 = some 8 := by kernel_rfl
theorem zr34 : zrOf Try.prog 34 = some (.pointer none) := by kernel_rfl
theorem g42 : aggOf Try.prog 42 = some false := by kernel_rfl
theorem z42 : szOf Try.prog 42 = some 1 := by kernel_rfl
theorem by42 : byOf Try.prog 42 = some 8 := by kernel_rfl
theorem zr42 : zrOf Try.prog 42 = some (.int .i64 (0)) := by kernel_rfl
theorem g45 : aggOf Try.prog 45 = some false := by kernel_rfl
theorem z45 : szOf Try.prog 45 = some 1 := by kernel_rfl
theorem by45 : byOf Try.prog 45 = some 8 := by kernel_rfl
theorem zr45 : zrOf Try.prog 45 = some (.pointer none) := by kernel_rfl
theorem g46 : aggOf Try.prog 46 = some true := by kernel_rfl
theorem z46 : szOf Try.prog 46 = some 2 := by kernel_rfl
theorem by46 : byOf Try.prog 46 = some 32 := by kernel_rfl
theorem zr46 : zrOf Try.prog 46 = some (.agg [.slice none 0 0, .bool false].toArray) := by kernel_rfl
theorem g47 : aggOf Try.prog 47 = some true := by kernel_rfl
theorem z47 : szOf Try.prog 47 = some 2 := by kernel_rfl
theorem by47 : byOf Try.prog 47 = some 32 := by kernel_rfl
theorem zr47 : zrOf Try.prog 47 = some (.agg [.slice none 0 0, .bool false].toArray) := by kernel_rfl
theorem g53 : aggOf Try.prog 53 = some true := by kernel_rfl
theorem z53 : szOf Try.prog 53 = some 2 := by kernel_rfl
theorem by53 : byOf Try.prog 53 = some 32 := by kernel_rfl
theorem zr53 : zrOf Try.prog 53 = some (.agg [.bool false, .slice none 0 0].toArray) := by kernel_rfl
theorem g54 : aggOf Try.prog 54 = some true := by kernel_rfl
theorem z54 : szOf Try.prog 54 = some 2 := by kernel_rfl
theorem by54 : byOf Try.prog 54 = some 32 := by kernel_rfl
theorem zr54 : zrOf Try.prog 54 = some (.agg [.bool false, .slice none 0 0].toArray) := by kernel_rfl
theorem g55 : aggOf Try.prog 55 = some true := by kernel_rfl
theorem z55 : szOf Try.prog 55 = some 2 := by kernel_rfl
theorem by55 : byOf Try.prog 55 = some 32 := by kernel_rfl
theorem zr55 : zrOf Try.prog 55 = some (.agg [.bool false, .slice none 0 0].toArray) := by kernel_rfl
theorem g56 : aggOf Try.prog 56 = some true := by kernel_rfl
theorem z56 : szOf Try.prog 56 = some 2 := by kernel_rfl
theorem by56 : byOf Try.prog 56 = some 32 := by kernel_rfl
theorem zr56 : zrOf Try.prog 56 = some (.agg [.bool false, .slice none 0 0].toArray) := by kernel_rfl
theorem g58 : aggOf Try.prog 58 = some true := by kernel_rfl
theorem z58 : szOf Try.prog 58 = some 3 := by kernel_rfl
theorem by58 : byOf Try.prog 58 = some 40 := by kernel_rfl
theorem zr58 : zrOf Try.prog 58 = some (.agg [.bool false, .slice none 0 0, .bool false].toArray) := by kernel_rfl
theorem g60 : aggOf Try.prog 60 = some false := by kernel_rfl
theorem z60 : szOf Try.prog 60 = some 1 := by kernel_rfl
theorem by60 : byOf Try.prog 60 = some 2 := by kernel_rfl
theorem zr60 : zrOf Try.prog 60 = some (.int .u16 (0)) := by kernel_rfl
theorem g64 : aggOf Try.prog 64 = some false := by kernel_rfl
theorem z64 : szOf Try.prog 64 = some 1 := by kernel_rfl
theorem by64 : byOf Try.prog 64 = some 4 := by kernel_rfl
theorem zr64 : zrOf Try.prog 64 = some (.int .u32 (0)) := by kernel_rfl
theorem g73 : aggOf Try.prog 73 = some false := by kernel_rfl
theorem z73 : szOf Try.prog 73 = some 1 := by kernel_rfl
theorem by73 : byOf Try.prog 73 = some 8 := by kernel_rfl
theorem zr73 : zrOf Try.prog 73 = some (.int .u64 (0)) := by kernel_rfl
theorem g90 : aggOf Try.prog 90 = some true := by kernel_rfl
theorem z90 : szOf Try.prog 90 = some 4 := by kernel_rfl
theorem by90 : byOf Try.prog 90 = some 40 := by kernel_rfl
theorem zr90 : zrOf Try.prog 90 = some (.agg [.pointer none, .pointer none, .pointer none, .string ⟨#[]⟩].toArray) := by kernel_rfl
theorem g92 : aggOf Try.prog 92 = some true := by kernel_rfl
theorem z92 : szOf Try.prog 92 = some 0 := by kernel_rfl
theorem by92 : byOf Try.prog 92 = some 0 := by kernel_rfl
theorem zr92 : zrOf Try.prog 92 = some (.agg [].toArray) := by kernel_rfl
theorem g94 : aggOf Try.prog 94 = some true := by kernel_rfl
theorem z94 : szOf Try.prog 94 = some 0 := by kernel_rfl
theorem by94 : byOf Try.prog 94 = some 0 := by kernel_rfl
theorem zr94 : zrOf Try.prog 94 = some (.agg [].toArray) := by kernel_rfl
theorem g95 : aggOf Try.prog 95 = some false := by kernel_rfl
theorem z95 : szOf Try.prog 95 = some 1 := by kernel_rfl
theorem by95 : byOf Try.prog 95 = some 1 := by kernel_rfl
theorem zr95 : zrOf Try.prog 95 = some (.int .u8 (0)) := by kernel_rfl
theorem g96 : aggOf Try.prog 96 = some false := by kernel_rfl
theorem z96 : szOf Try.prog 96 = some 1 := by kernel_rfl
theorem by96 : byOf Try.prog 96 = some 1 := by kernel_rfl
theorem zr96 : zrOf Try.prog 96 = some (.int .u8 (0)) := by kernel_rfl
theorem g98 : aggOf Try.prog 98 = some false := by kernel_rfl
theorem z98 : szOf Try.prog 98 = some 1 := by kernel_rfl
theorem by98 : byOf Try.prog 98 = some 8 := by kernel_rfl
theorem zr98 : zrOf Try.prog 98 = some (.pointer none) := by kernel_rfl
theorem g99 : aggOf Try.prog 99 = some false := by kernel_rfl
theorem z99 : szOf Try.prog 99 = some 1 := by kernel_rfl
theorem by99 : byOf Try.prog 99 = some 4 := by kernel_rfl
theorem zr99 : zrOf Try.prog 99 = some (.int .i32 (0)) := by kernel_rfl
theorem g100 : aggOf Try.prog 100 = some false := by kernel_rfl
theorem z100 : szOf Try.prog 100 = some 1 := by kernel_rfl
theorem by100 : byOf Try.prog 100 = some 4 := by kernel_rfl
theorem zr100 : zrOf Try.prog 100 = some (.int .i32 (0)) := by kernel_rfl
theorem g102 : aggOf Try.prog 102 = some true := by kernel_rfl
theorem z102 : szOf Try.prog 102 = some 11 := by kernel_rfl
theorem by102 : byOf Try.prog 102 = some 48 := by kernel_rfl
theorem zr102 : zrOf Try.prog 102 = some (.agg [.int .u64 (0), .int .u64 (0), .int .u32 (0), .int .u8 (0), .int .u8 (0), .int .u8 (0), .int .u8 (0), .nilFunc, .pointer none, .int .i32 (0), .int .i32 (0)].toArray) := by kernel_rfl
theorem g103 : aggOf Try.prog 103 = some false := by kernel_rfl
theorem z103 : szOf Try.prog 103 = some 1 := by kernel_rfl
theorem by103 : byOf Try.prog 103 = some 8 := by kernel_rfl
theorem zr103 : zrOf Try.prog 103 = some (.pointer none) := by kernel_rfl
theorem fo31_0 : fldOff Try.prog 31 0 = some (0, 3, 1) := by kernel_rfl
theorem fo31_1 : fldOff Try.prog 31 1 = some (1, 29, 1) := by kernel_rfl
theorem fo31_2 : fldOff Try.prog 31 2 = some (2, 9, 1) := by kernel_rfl
theorem fo31_3 : fldOff Try.prog 31 3 = some (3, 3, 1) := by kernel_rfl
theorem fo47_0 : fldOff Try.prog 47 0 = some (0, 27, 1) := by kernel_rfl
theorem fo47_1 : fldOff Try.prog 47 1 = some (1, 4, 1) := by kernel_rfl
theorem fo54_0 : fldOff Try.prog 54 0 = some (0, 4, 1) := by kernel_rfl
theorem fo54_1 : fldOff Try.prog 54 1 = some (1, 27, 1) := by kernel_rfl
theorem fo56_0 : fldOff Try.prog 56 0 = some (0, 54, 2) := by kernel_rfl
theorem fo58_0 : fldOff Try.prog 58 0 = some (0, 54, 2) := by kernel_rfl
theorem fo58_1 : fldOff Try.prog 58 1 = some (2, 4, 1) := by kernel_rfl
theorem pl31 : placesOf Try.prog 31 = some [(0, 1), (1, 1), (2, 1), (3, 1)] := by kernel_rfl
theorem pl47 : placesOf Try.prog 47 = some [(0, 1), (1, 1)] := by kernel_rfl
theorem pl54 : placesOf Try.prog 54 = some [(0, 1), (1, 1)] := by kernel_rfl
theorem pl56 : placesOf Try.prog 56 = some [(0, 2)] := by kernel_rfl
theorem pl58 : placesOf Try.prog 58 = some [(0, 2), (2, 1)] := by kernel_rfl
theorem cal3 : Callable Try.prog 3 := callable_of Try.func3 rfl (by kernel_rfl)
theorem cal4 : Callable Try.prog 4 := callable_of Try.func4 rfl (by kernel_rfl)
theorem cal5 : Callable Try.prog 5 := callable_of Try.func5 rfl (by kernel_rfl)
theorem cal6 : Callable Try.prog 6 := callable_of Try.func6 rfl (by kernel_rfl)
theorem cal7 : Callable Try.prog 7 := callable_of Try.func7 rfl (by kernel_rfl)
theorem cal8 : Callable Try.prog 8 := callable_of Try.func8 rfl (by kernel_rfl)
theorem cal9 : Callable Try.prog 9 := callable_of Try.func9 rfl (by kernel_rfl)
theorem cal10 : Callable Try.prog 10 := callable_of Try.func10 rfl (by kernel_rfl)
theorem cal11 : Callable Try.prog 11 := callable_of Try.func11 rfl (by kernel_rfl)
theorem cal12 : Callable Try.prog 12 := callable_of Try.func12 rfl (by kernel_rfl)
theorem cal13 : Callable Try.prog 13 := callable_of Try.func13 rfl (by kernel_rfl)
theorem cal14 : Callable Try.prog 14 := callable_of Try.func14 rfl (by kernel_rfl)
theorem cal15 : Callable Try.prog 15 := callable_of Try.func15 rfl (by kernel_rfl)
theorem cal16 : Callable Try.prog 16 := callable_of Try.func16 rfl (by kernel_rfl)
theorem cal17 : Callable Try.prog 17 := callable_of Try.func17 rfl (by kernel_rfl)
theorem cal18 : Callable Try.prog 18 := callable_of Try.func18 rfl (by kernel_rfl)
theorem cal19 : Callable Try.prog 19 := callable_of Try.func19 rfl (by kernel_rfl)
theorem cal20 : Callable Try.prog 20 := callable_of Try.func20 rfl (by kernel_rfl)
theorem cal21 : Callable Try.prog 21 := callable_of Try.func21 rfl (by kernel_rfl)
theorem cal22 : Callable Try.prog 22 := callable_of Try.func22 rfl (by kernel_rfl)
theorem cal23 : Callable Try.prog 23 := callable_of Try.func23 rfl (by kernel_rfl)
theorem cal24 : Callable Try.prog 24 := callable_of Try.func24 rfl (by kernel_rfl)
theorem cal25 : Callable Try.prog 25 := callable_of Try.func25 rfl (by kernel_rfl)
theorem cal26 : Callable Try.prog 26 := callable_of Try.func26 rfl (by kernel_rfl)
theorem cal27 : Callable Try.prog 27 := callable_of Try.func27 rfl (by kernel_rfl)
theorem cal28 : Callable Try.prog 28 := callable_of Try.func28 rfl (by kernel_rfl)
theorem cal29 : Callable Try.prog 29 := callable_of Try.func29 rfl (by kernel_rfl)
theorem cal30 : Callable Try.prog 30 := callable_of Try.func30 rfl (by kernel_rfl)
theorem cal31 : Callable Try.prog 31 := callable_of Try.func31 rfl (by kernel_rfl)
theorem cal32 : Callable Try.prog 32 := callable_of Try.func32 rfl (by kernel_rfl)
theorem cal33 : Callable Try.prog 33 := callable_of Try.func33 rfl (by kernel_rfl)
theorem cal34 : Callable Try.prog 34 := callable_of Try.func34 rfl (by kernel_rfl)
theorem cal35 : Callable Try.prog 35 := callable_of Try.func35 rfl (by kernel_rfl)
theorem cal36 : Callable Try.prog 36 := callable_of Try.func36 rfl (by kernel_rfl)
theorem cal37 : Callable Try.prog 37 := callable_of Try.func37 rfl (by kernel_rfl)
theorem cal38 : Callable Try.prog 38 := callable_of Try.func38 rfl (by kernel_rfl)
theorem cal39 : Callable Try.prog 39 := callable_of Try.func39 rfl (by kernel_rfl)
theorem cal40 : Callable Try.prog 40 := callable_of Try.func40 rfl (by kernel_rfl)
theorem cal41 : Callable Try.prog 41 := callable_of Try.func41 rfl (by kernel_rfl)
theorem cal42 : Callable Try.prog 42 := callable_of Try.func42 rfl (by kernel_rfl)
theorem cal43 : Callable Try.prog 43 := callable_of Try.func43 rfl (by kernel_rfl)
theorem cal44 : Callable Try.prog 44 := callable_of Try.func44 rfl (by kernel_rfl)
theorem cal45 : Callable Try.prog 45 := callable_of Try.func45 rfl (by kernel_rfl)
theorem cal46 : Callable Try.prog 46 := callable_of Try.func46 rfl (by kernel_rfl)
theorem cal47 : Callable Try.prog 47 := callable_of Try.func47 rfl (by kernel_rfl)
theorem cal48 : Callable Try.prog 48 := callable_of Try.func48 rfl (by kernel_rfl)
theorem cal49 : Callable Try.prog 49 := callable_of Try.func49 rfl (by kernel_rfl)
theorem cal50 : Callable Try.prog 50 := callable_of Try.func50 rfl (by kernel_rfl)
theorem cal51 : Callable Try.prog 51 := callable_of Try.func51 rfl (by kernel_rfl)
theorem cal52 : Callable Try.prog 52 := callable_of Try.func52 rfl (by kernel_rfl)
theorem cal53 : Callable Try.prog 53 := callable_of Try.func53 rfl (by kernel_rfl)
theorem cal54 : Callable Try.prog 54 := callable_of Try.func54 rfl (by kernel_rfl)
theorem cal55 : Callable Try.prog 55 := callable_of Try.func55 rfl (by kernel_rfl)
theorem cal56 : Callable Try.prog 56 := callable_of Try.func56 rfl (by kernel_rfl)
theorem cal57 : Callable Try.prog 57 := callable_of Try.func57 rfl (by kernel_rfl)
theorem cal58 : Callable Try.prog 58 := callable_of Try.func58 rfl (by kernel_rfl)
theorem cal59 : Callable Try.prog 59 := callable_of Try.func59 rfl (by kernel_rfl)
def undL : List (Nat × TypeDesc) := [(2, .int .i64), (3, .int .i64), (4, .bool), (5, .int .u8), (6, .int .u8), (9, .string), (10, .string), (11, .string), (12, .int .u64), (15, .pointer 91), (16, .pointer 94), (17, .pointer 102), (21, .int .i32), (22, .slice 31), (25, .pointer 56), (27, .slice 5), (29, .int .u64), (34, .pointer 58), (42, .int .i64), (45, .pointer 47), (60, .int .u16), (64, .int .u32), (73, .int .u64), (95, .int .u8), (96, .int .u8), (98, .pointer 5), (99, .int .i32), (100, .int .i32)]
theorem und {t : TypeId} {x : TypeDesc} (h : lkL undL t = some x) : Try.prog.underlying t = some x := look (f := Try.prog.underlying) undL ⟨Try.underlying2, Try.underlying3, Try.underlying4, Try.underlying5, Try.underlying6, Try.underlying9, Try.underlying10, Try.underlying11, Try.underlying12, Try.underlying15, Try.underlying16, Try.underlying17, Try.underlying21, Try.underlying22, Try.underlying25, Try.underlying27, Try.underlying29, Try.underlying34, Try.underlying42, Try.underlying45, Try.underlying60, Try.underlying64, Try.underlying73, Try.underlying95, Try.underlying96, Try.underlying98, Try.underlying99, Try.underlying100, trivial⟩ h
def aggL : List (Nat × Bool) := [(2, false), (3, false), (4, false), (5, false), (6, false), (7, true), (8, true), (9, false), (10, false), (11, false), (12, false), (13, true), (14, true), (15, false), (16, false), (17, false), (18, true), (19, true), (20, false), (21, false), (22, false), (25, false), (27, false), (29, false), (30, true), (31, true), (34, false), (42, false), (45, false), (46, true), (47, true), (53, true), (54, true), (55, true), (56, true), (58, true), (60, false), (64, false), (73, false), (90, true), (92, true), (94, true), (95, false), (96, false), (98, false), (99, false), (100, false), (102, true), (103, false)]
theorem agg {t : TypeId} {x : Bool} (h : lkL aggL t = some x) : aggOf Try.prog t = some x := look (f := aggOf Try.prog) aggL ⟨g2, g3, g4, g5, g6, g7, g8, g9, g10, g11, g12, g13, g14, g15, g16, g17, g18, g19, g20, g21, g22, g25, g27, g29, g30, g31, g34, g42, g45, g46, g47, g53, g54, g55, g56, g58, g60, g64, g73, g90, g92, g94, g95, g96, g98, g99, g100, g102, g103, trivial⟩ h
def szL : List (Nat × Nat) := [(2, 1), (3, 1), (4, 1), (5, 1), (6, 1), (7, 4), (8, 4), (9, 1), (10, 1), (11, 1), (12, 1), (13, 2), (14, 2), (15, 1), (16, 1), (17, 1), (18, 1), (19, 1), (20, 1), (21, 1), (22, 1), (25, 1), (27, 1), (29, 1), (30, 4), (31, 4), (34, 1), (42, 1), (45, 1), (46, 2), (47, 2), (53, 2), (54, 2), (55, 2), (56, 2), (58, 3), (60, 1), (64, 1), (73, 1), (90, 4), (92, 0), (94, 0), (95, 1), (96, 1), (98, 1), (99, 1), (100, 1), (102, 11), (103, 1)]
theorem sz {t : TypeId} {x : Nat} (h : lkL szL t = some x) : szOf Try.prog t = some x := look (f := szOf Try.prog) szL ⟨z2, z3, z4, z5, z6, z7, z8, z9, z10, z11, z12, z13, z14, z15, z16, z17, z18, z19, z20, z21, z22, z25, z27, z29, z30, z31, z34, z42, z45, z46, z47, z53, z54, z55, z56, z58, z60, z64, z73, z90, z92, z94, z95, z96, z98, z99, z100, z102, z103, trivial⟩ h
def zrL : List (Nat × Value) := [(2, .int .i64 (0)), (3, .int .i64 (0)), (4, .bool false), (5, .int .u8 (0)), (6, .int .u8 (0)), (7, .agg [.int .i64 (0), .int .i64 (0), .bool false, .int .u8 (0)].toArray), (8, .agg [.int .i64 (0), .int .i64 (0), .bool false, .int .u8 (0)].toArray), (9, .string ⟨#[]⟩), (10, .string ⟨#[]⟩), (11, .string ⟨#[]⟩), (12, .int .u64 (0)), (13, .agg [.string ⟨#[]⟩, .int .u64 (0)].toArray), (14, .agg [.string ⟨#[]⟩, .int .u64 (0)].toArray), (15, .pointer none), (16, .pointer none), (17, .pointer none), (18, .agg [.pointer none].toArray), (19, .agg [.pointer none].toArray), (20, .nilIface), (21, .int .i32 (0)), (22, .slice none 0 0), (25, .pointer none), (27, .slice none 0 0), (29, .int .u64 (0)), (30, .agg [.int .i64 (0), .int .u64 (0), .string ⟨#[]⟩, .int .i64 (0)].toArray), (31, .agg [.int .i64 (0), .int .u64 (0), .string ⟨#[]⟩, .int .i64 (0)].toArray), (34, .pointer none), (42, .int .i64 (0)), (45, .pointer none), (46, .agg [.slice none 0 0, .bool false].toArray), (47, .agg [.slice none 0 0, .bool false].toArray), (53, .agg [.bool false, .slice none 0 0].toArray), (54, .agg [.bool false, .slice none 0 0].toArray), (55, .agg [.bool false, .slice none 0 0].toArray), (56, .agg [.bool false, .slice none 0 0].toArray), (58, .agg [.bool false, .slice none 0 0, .bool false].toArray), (60, .int .u16 (0)), (64, .int .u32 (0)), (73, .int .u64 (0)), (90, .agg [.pointer none, .pointer none, .pointer none, .string ⟨#[]⟩].toArray), (92, .agg [].toArray), (94, .agg [].toArray), (95, .int .u8 (0)), (96, .int .u8 (0)), (98, .pointer none), (99, .int .i32 (0)), (100, .int .i32 (0)), (102, .agg [.int .u64 (0), .int .u64 (0), .int .u32 (0), .int .u8 (0), .int .u8 (0), .int .u8 (0), .int .u8 (0), .nilFunc, .pointer none, .int .i32 (0), .int .i32 (0)].toArray), (103, .pointer none)]
theorem zr {t : TypeId} {x : Value} (h : lkL zrL t = some x) : zrOf Try.prog t = some x := look (f := zrOf Try.prog) zrL ⟨zr2, zr3, zr4, zr5, zr6, zr7, zr8, zr9, zr10, zr11, zr12, zr13, zr14, zr15, zr16, zr17, zr18, zr19, zr20, zr21, zr22, zr25, zr27, zr29, zr30, zr31, zr34, zr42, zr45, zr46, zr47, zr53, zr54, zr55, zr56, zr58, zr60, zr64, zr73, zr90, zr92, zr94, zr95, zr96, zr98, zr99, zr100, zr102, zr103, trivial⟩ h
def bytL : List (Nat × Nat) := [(2, 8), (3, 8), (4, 1), (5, 1), (6, 1), (7, 24), (8, 24), (9, 16), (10, 16), (11, 16), (12, 8), (13, 24), (14, 24), (15, 8), (16, 8), (17, 8), (18, 8), (19, 8), (20, 16), (21, 4), (22, 24), (25, 8), (27, 24), (29, 8), (30, 40), (31, 40), (34, 8), (42, 8), (45, 8), (46, 32), (47, 32), (53, 32), (54, 32), (55, 32), (56, 32), (58, 40), (60, 2), (64, 4), (73, 8), (90, 40), (92, 0), (94, 0), (95, 1), (96, 1), (98, 8), (99, 4), (100, 4), (102, 48), (103, 8)]
theorem byt {t : TypeId} {x : Nat} (h : lkL bytL t = some x) : byOf Try.prog t = some x := look (f := byOf Try.prog) bytL ⟨by2, by3, by4, by5, by6, by7, by8, by9, by10, by11, by12, by13, by14, by15, by16, by17, by18, by19, by20, by21, by22, by25, by27, by29, by30, by31, by34, by42, by45, by46, by47, by53, by54, by55, by56, by58, by60, by64, by73, by90, by92, by94, by95, by96, by98, by99, by100, by102, by103, trivial⟩ h
def lkP {α : Type} : List (Nat × Nat × α) → Nat → Nat → Option α
  | [], _, _ => none
  | (k, j, v) :: E, t, i => match Nat.beq k t && Nat.beq j i with
    | true => some v
    | false => lkP E t i
def allP {α : Type} (f : Nat → Nat → Option α) : List (Nat × Nat × α) → Prop
  | [] => True
  | p :: l => f p.1 p.2.1 = some p.2.2 ∧ allP f l
theorem lookP {α : Type} {f : Nat → Nat → Option α} : ∀ (l : List (Nat × Nat × α)), allP f l → ∀ {t i : Nat} {x : α}, lkP l t i = some x → f t i = some x
  | [], _, _, _, _, h => (Option.some_ne_none _ h.symm).elim
  | (k, j, v) :: E, hA, t, i, x, h => by
    unfold lkP at h
    cases hb : Nat.beq k t && Nat.beq j i with
    | true =>
      rw [hb] at h
      simp only [Bool.and_eq_true] at hb
      obtain rfl := Nat.eq_of_beq_eq_true hb.1
      obtain rfl := Nat.eq_of_beq_eq_true hb.2
      cases h
      exact hA.1
    | false =>
      rw [hb] at h
      exact lookP E hA.2 h
def foL : List (Nat × Nat × (Nat × Nat × Nat)) := [(31, 0, (0, 3, 1)), (31, 1, (1, 29, 1)), (31, 2, (2, 9, 1)), (31, 3, (3, 3, 1)), (47, 0, (0, 27, 1)), (47, 1, (1, 4, 1)), (54, 0, (0, 4, 1)), (54, 1, (1, 27, 1)), (56, 0, (0, 54, 2)), (58, 0, (0, 54, 2)), (58, 1, (2, 4, 1))]
theorem fo {t : TypeId} {i : Nat} {x : Nat × Nat × Nat} (h : lkP foL t i = some x) : fldOff Try.prog t i = some x := lookP (f := fldOff Try.prog) foL ⟨fo31_0, fo31_1, fo31_2, fo31_3, fo47_0, fo47_1, fo54_0, fo54_1, fo56_0, fo58_0, fo58_1, trivial⟩ h
def lkC : List Nat → Nat → Bool
  | [], _ => false
  | k :: E, t => match Nat.beq k t with
    | true => true
    | false => lkC E t
def allC (Q : Nat → Prop) : List Nat → Prop
  | [] => True
  | p :: l => Q p ∧ allC Q l
theorem lookC {Q : Nat → Prop} : ∀ (l : List Nat), allC Q l → ∀ {t : Nat}, lkC l t = true → Q t
  | [], _, _, h => (Bool.false_ne_true h).elim
  | k :: E, hA, t, h => by
    unfold lkC at h
    cases hb : Nat.beq k t with
    | true => obtain rfl := Nat.eq_of_beq_eq_true hb; exact hA.1
    | false => rw [hb] at h; exact lookC E hA.2 h
def calL : List Nat := [3, 4, 5, 6, 7, 8, 9, 10, 11, 12, 13, 14, 15, 16, 17, 18, 19, 20, 21, 22, 23, 24, 25, 26, 27, 28, 29, 30, 31, 32, 33, 34, 35, 36, 37, 38, 39, 40, 41, 42, 43, 44, 45, 46, 47, 48, 49, 50, 51, 52, 53, 54, 55, 56, 57, 58, 59]
theorem cal {t : Nat} (h : lkC calL t = true) : Callable Try.prog t := lookC (Q := Callable Try.prog) calL ⟨cal3, cal4, cal5, cal6, cal7, cal8, cal9, cal10, cal11, cal12, cal13, cal14, cal15, cal16, cal17, cal18, cal19, cal20, cal21, cal22, cal23, cal24, cal25, cal26, cal27, cal28, cal29, cal30, cal31, cal32, cal33, cal34, cal35, cal36, cal37, cal38, cal39, cal40, cal41, cal42, cal43, cal44, cal45, cal46, cal47, cal48, cal49, cal50, cal51, cal52, cal53, cal54, cal55, cal56, cal57, cal58, cal59, trivial⟩ h
def plL : List (Nat × List (Nat × Nat)) := [(31, [(0, 1), (1, 1), (2, 1), (3, 1)]), (47, [(0, 1), (1, 1)]), (54, [(0, 1), (1, 1)]), (56, [(0, 2)]), (58, [(0, 2), (2, 1)])]
theorem pl {t : TypeId} {x : List (Nat × Nat)} (h : lkL plL t = some x) : placesOf Try.prog t = some x := look (f := placesOf Try.prog) plL ⟨pl31, pl47, pl54, pl56, pl58, trivial⟩ h
theorem mixed : Try.prog.follows .mixedOrders = true := by kernel_rfl
end Go.Proofs.Ytgglpkboijjoiaa.Fx
