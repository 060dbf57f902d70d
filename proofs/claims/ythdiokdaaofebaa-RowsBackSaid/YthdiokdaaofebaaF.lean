/-
  Closed facts on the types and the functions of this seat. Written by program (facts.py). Conditions: none.
-/
import Derived.Test.YthdiokdaaofebaaKB
import Derived.Test.YthdiokdaaofebaaProg
import Derived.KernelRfl
namespace Go.Proofs.Ythdiokdaaofebaa.Fx
open Go Go.K Go.Proofs
set_option linter.unusedVariables false
/-- a table, looked up -/
def lkL {α : Type} : List (Nat × α) → Nat → Option α
  | [], _ => none
  | (k, v) :: E, t => match Nat.beq k t with
    | true => some v
    | false => lkL E t
def allL {α : Type} (f : Nat → Option α) : List (Nat × α) → Prop
  | [] => True
  | p :: l => f p.1 = some p.2 ∧ allL f l
theorem look {α : Type} {f : Nat → Option α} : ∀ (l : List (Nat × α)), allL f l → ∀ {t : Nat} {x : α}, lkL l t = some x → f t = some x
  | [], _, _, _, h => (Option.some_ne_none _ h.symm).elim
  | (k, v) :: E, hA, t, x, h => by
    unfold lkL at h
    split at h
    · rename_i hb
      rw [← Nat.eq_of_beq_eq_true hb, ← h]
      exact hA.1
    · exact look E hA.2 h
theorem g1 : aggOf Try.prog 1 = some false := by kernel_rfl
theorem z1 : szOf Try.prog 1 = some 1 := by kernel_rfl
theorem by1 : byOf Try.prog 1 = some 8 := by kernel_rfl
theorem zr1 : zrOf Try.prog 1 = some (.nilFunc) := by kernel_rfl
theorem g2 : aggOf Try.prog 2 = some false := by kernel_rfl
theorem z2 : szOf Try.prog 2 = some 1 := by kernel_rfl
theorem by2 : byOf Try.prog 2 = some 8 := by kernel_rfl
theorem zr2 : zrOf Try.prog 2 = some (.int .i64 (0)) := by kernel_rfl
theorem g3 : aggOf Try.prog 3 = some false := by kernel_rfl
theorem z3 : szOf Try.prog 3 = some 1 := by kernel_rfl
theorem by3 : byOf Try.prog 3 = some 8 := by kernel_rfl
theorem zr3 : zrOf Try.prog 3 = some (.int .i64 (0)) := by kernel_rfl
theorem g4 : aggOf Try.prog 4 = some false := by kernel_rfl
theorem z4 : szOf Try.prog 4 = some 1 := by kernel_rfl
theorem by4 : byOf Try.prog 4 = some 1 := by kernel_rfl
theorem zr4 : zrOf Try.prog 4 = some (.bool false) := by kernel_rfl
theorem g5 : aggOf Try.prog 5 = some false := by kernel_rfl
theorem z5 : szOf Try.prog 5 = some 1 := by kernel_rfl
theorem by5 : byOf Try.prog 5 = some 1 := by kernel_rfl
theorem zr5 : zrOf Try.prog 5 = some (.int .u8 (0)) := by kernel_rfl
theorem g6 : aggOf Try.prog 6 = some false := by kernel_rfl
theorem z6 : szOf Try.prog 6 = some 1 := by kernel_rfl
theorem by6 : byOf Try.prog 6 = some 1 := by kernel_rfl
theorem zr6 : zrOf Try.prog 6 = some (.int .u8 (0)) := by kernel_rfl
theorem g7 : aggOf Try.prog 7 = some true := by kernel_rfl
theorem z7 : szOf Try.prog 7 = some 4 := by kernel_rfl
theorem by7 : byOf Try.prog 7 = some 24 := by kernel_rfl
theorem zr7 : zrOf Try.prog 7 = some (.agg [.int .i64 (0), .int .i64 (0), .bool false, .int .u8 (0)].toArray) := by kernel_rfl
theorem g8 : aggOf Try.prog 8 = some true := by kernel_rfl
theorem z8 : szOf Try.prog 8 = some 4 := by kernel_rfl
theorem by8 : byOf Try.prog 8 = some 24 := by kernel_rfl
theorem zr8 : zrOf Try.prog 8 = some (.agg [.int .i64 (0), .int .i64 (0), .bool false, .int .u8 (0)].toArray) := by kernel_rfl
theorem g9 : aggOf Try.prog 9 = some false := by kernel_rfl
theorem z9 : szOf Try.prog 9 = some 1 := by kernel_rfl
theorem by9 : byOf Try.prog 9 = some 16 := by kernel_rfl
theorem zr9 : zrOf Try.prog 9 = some (.string ⟨#[]⟩) := by kernel_rfl
theorem g10 : aggOf Try.prog 10 = some false := by kernel_rfl
theorem z10 : szOf Try.prog 10 = some 1 := by kernel_rfl
theorem by10 : byOf Try.prog 10 = some 16 := by kernel_rfl
theorem zr10 : zrOf Try.prog 10 = some (.string ⟨#[]⟩) := by kernel_rfl
theorem g11 : aggOf Try.prog 11 = some false := by kernel_rfl
theorem z11 : szOf Try.prog 11 = some 1 := by kernel_rfl
theorem by11 : byOf Try.prog 11 = some 16 := by kernel_rfl
theorem zr11 : zrOf Try.prog 11 = some (.string ⟨#[]⟩) := by kernel_rfl
theorem g12 : aggOf Try.prog 12 = some false := by kernel_rfl
theorem z12 : szOf Try.prog 12 = some 1 := by kernel_rfl
theorem by12 : byOf Try.prog 12 = some 8 := by kernel_rfl
theorem zr12 : zrOf Try.prog 12 = some (.int .u64 (0)) := by kernel_rfl
theorem g13 : aggOf Try.prog 13 = some true := by kernel_rfl
theorem z13 : szOf Try.prog 13 = some 2 := by kernel_rfl
theorem by13 : byOf Try.prog 13 = some 24 := by kernel_rfl
theorem zr13 : zrOf Try.prog 13 = some (.agg [.string ⟨#[]⟩, .int .u64 (0)].toArray) := by kernel_rfl
theorem g14 : aggOf Try.prog 14 = some true := by kernel_rfl
theorem z14 : szOf Try.prog 14 = some 2 := by kernel_rfl
theorem by14 : byOf Try.prog 14 = some 24 := by kernel_rfl
theorem zr14 : zrOf Try.prog 14 = some (.agg [.string ⟨#[]⟩, .int .u64 (0)].toArray) := by kernel_rfl
theorem g15 : aggOf Try.prog 15 = some false := by kernel_rfl
theorem z15 : szOf Try.prog 15 = some 1 := by kernel_rfl
theorem by15 : byOf Try.prog 15 = some 8 := by kernel_rfl
theorem zr15 : zrOf Try.prog 15 = some (.pointer none) := by kernel_rfl
theorem g16 : aggOf Try.prog 16 = some false := by kernel_rfl
theorem z16 : szOf Try.prog 16 = some 1 := by kernel_rfl
theorem by16 : byOf Try.prog 16 = some 8 := by kernel_rfl
theorem zr16 : zrOf Try.prog 16 = some (.pointer none) := by kernel_rfl
theorem g17 : aggOf Try.prog 17 = some false := by kernel_rfl
theorem z17 : szOf Try.prog 17 = some 1 := by kernel_rfl
theorem by17 : byOf Try.prog 17 = some 8 := by kernel_rfl
theorem zr17 : zrOf Try.prog 17 = some (.pointer none) := by kernel_rfl
theorem g18 : aggOf Try.prog 18 = some true := by kernel_rfl
theorem z18 : szOf Try.prog 18 = some 1 := by kernel_rfl
theorem by18 : byOf Try.prog 18 = some 8 := by kernel_rfl
theorem zr18 : zrOf Try.prog 18 = some (.agg [.pointer none].toArray) := by kernel_rfl
theorem g19 : aggOf Try.prog 19 = some true := by kernel_rfl
theorem z19 : szOf Try.prog 19 = some 1 := by kernel_rfl
theorem by19 : byOf Try.prog 19 = some 8 := by kernel_rfl
theorem zr19 : zrOf Try.prog 19 = some (.agg [.pointer none].toArray) := by kernel_rfl
theorem g20 : aggOf Try.prog 20 = some false := by kernel_rfl
theorem z20 : szOf Try.prog 20 = some 1 := by kernel_rfl
theorem by20 : byOf Try.prog 20 = some 16 := by kernel_rfl
theorem zr20 : zrOf Try.prog 20 = some (.nilIface) := by kernel_rfl
theorem g21 : aggOf Try.prog 21 = some false := by kernel_rfl
theorem z21 : szOf Try.prog 21 = some 1 := by kernel_rfl
theorem by21 : byOf Try.prog 21 = some 4 := by kernel_rfl
theorem zr21 : zrOf Try.prog 21 = some (.int .i32 (0)) := by kernel_rfl
theorem g22 : aggOf Try.prog 22 = some false := by kernel_rfl
theorem z22 : szOf Try.prog 22 = some 1 := by kernel_rfl
theorem by22 : byOf Try.prog 22 = some 24 := by kernel_rfl
theorem zr22 : zrOf Try.prog 22 = some (.slice none 0 0) := by kernel_rfl
theorem g23 : aggOf Try.prog 23 = some false := by kernel_rfl
theorem z23 : szOf Try.prog 23 = some 1 := by kernel_rfl
theorem by23 : byOf Try.prog 23 = some 8 := by kernel_rfl
theorem zr23 : zrOf Try.prog 23 = some (.nilFunc) := by kernel_rfl
theorem g24 : aggOf Try.prog 24 = some false := by kernel_rfl
theorem z24 : szOf Try.prog 24 = some 1 := by kernel_rfl
theorem by24 : byOf Try.prog 24 = some 8 := by kernel_rfl
theorem zr24 : zrOf Try.prog 24 = some (.nilFunc) := by kernel_rfl
theorem g25 : aggOf Try.prog 25 = some false := by kernel_rfl
theorem z25 : szOf Try.prog 25 = some 1 := by kernel_rfl
theorem by25 : byOf Try.prog 25 = some 8 := by kernel_rfl
theorem zr25 : zrOf Try.prog 25 = some (.nilFunc) := by kernel_rfl
theorem g26 : aggOf Try.prog 26 = some false := by kernel_rfl
theorem z26 : szOf Try.prog 26 = some 1 := by kernel_rfl
theorem by26 : byOf Try.prog 26 = some 8 := by kernel_rfl
theorem zr26 : zrOf Try.prog 26 = some (.nilFunc) := by kernel_rfl
theorem g27 : aggOf Try.prog 27 = some false := by kernel_rfl
theorem z27 : szOf Try.prog 27 = some 1 := by kernel_rfl
theorem by27 : byOf Try.prog 27 = some 8 := by kernel_rfl
theorem zr27 : zrOf Try.prog 27 = some (.nilFunc) := by kernel_rfl
theorem g28 : aggOf Try.prog 28 = some false := by kernel_rfl
theorem z28 : szOf Try.prog 28 = some 1 := by kernel_rfl
theorem by28 : byOf Try.prog 28 = some 24 := by kernel_rfl
theorem zr28 : zrOf Try.prog 28 = some (.slice none 0 0) := by kernel_rfl
theorem g29 : aggOf Try.prog 29 = some false := by kernel_rfl
theorem z29 : szOf Try.prog 29 = some 1 := by kernel_rfl
theorem by29 : byOf Try.prog 29 = some 8 := by kernel_rfl
theorem zr29 : zrOf Try.prog 29 = some (.nilFunc) := by kernel_rfl
theorem g30 : aggOf Try.prog 30 = some false := by kernel_rfl
theorem z30 : szOf Try.prog 30 = some 1 := by kernel_rfl
theorem by30 : byOf Try.prog 30 = some 8 := by kernel_rfl
theorem zr30 : zrOf Try.prog 30 = some (.int .i64 (0)) := by kernel_rfl
theorem g31 : aggOf Try.prog 31 = some false := by kernel_rfl
theorem z31 : szOf Try.prog 31 = some 1 := by kernel_rfl
theorem by31 : byOf Try.prog 31 = some 8 := by kernel_rfl
theorem zr31 : zrOf Try.prog 31 = some (.nilFunc) := by kernel_rfl
theorem g33 : aggOf Try.prog 33 = some false := by kernel_rfl
theorem z33 : szOf Try.prog 33 = some 1 := by kernel_rfl
theorem by33 : byOf Try.prog 33 = some 8 := by kernel_rfl
theorem zr33 : zrOf Try.prog 33 = some (.nilFunc) := by kernel_rfl
theorem g35 : aggOf Try.prog 35 = some false := by kernel_rfl
theorem z35 : szOf Try.prog 35 = some 1 := by kernel_rfl
theorem by35 : byOf Try.prog 35 = some 8 := by kernel_rfl
theorem zr35 : zrOf Try.prog 35 = some (.nilFunc) := by kernel_rfl
theorem g39 : aggOf Try.prog 39 = some true := by kernel_rfl
theorem z39 : szOf Try.prog 39 = some 3 := by kernel_rfl
theorem by39 : byOf Try.prog 39 = some 32 := by kernel_rfl
theorem zr39 : zrOf Try.prog 39 = some (.agg [.int .i64 (0), .int .i64 (0), .string ⟨#[]⟩].toArray) := by kernel_rfl
theorem g40 : aggOf Try.prog 40 = some true := by kernel_rfl
theorem z40 : szOf Try.prog 40 = some 3 := by kernel_rfl
theorem by40 : byOf Try.prog 40 = some 32 := by kernel_rfl
theorem zr40 : zrOf Try.prog 40 = some (.agg [.int .i64 (0), .int .i64 (0), .string ⟨#[]⟩].toArray) := by kernel_rfl
theorem g41 : aggOf Try.prog 41 = some false := by kernel_rfl
theorem z41 : szOf Try.prog 41 = some 1 := by kernel_rfl
theorem by41 : byOf Try.prog 41 = some 8 := by kernel_rfl
theorem zr41 : zrOf Try.prog 41 = some (.nilFunc) := by kernel_rfl
theorem g43 : aggOf Try.prog 43 = some true := by kernel_rfl
theorem z43 : szOf Try.prog 43 = some 3 := by kernel_rfl
theorem by43 : byOf Try.prog 43 = some 32 := by kernel_rfl
theorem zr43 : zrOf Try.prog 43 = some (.agg [.string ⟨#[]⟩, .int .i64 (0), .bool false].toArray) := by kernel_rfl
theorem g44 : aggOf Try.prog 44 = some true := by kernel_rfl
theorem z44 : szOf Try.prog 44 = some 3 := by kernel_rfl
theorem by44 : byOf Try.prog 44 = some 32 := by kernel_rfl
theorem zr44 : zrOf Try.prog 44 = some (.agg [.string ⟨#[]⟩, .int .i64 (0), .bool false].toArray) := by kernel_rfl
theorem g45 : aggOf Try.prog 45 = some false := by kernel_rfl
theorem z45 : szOf Try.prog 45 = some 1 := by kernel_rfl
theorem by45 : byOf Try.prog 45 = some 8 := by kernel_rfl
theorem zr45 : zrOf Try.prog 45 = some (.nilFunc) := by kernel_rfl
theorem g46 : aggOf Try.prog 46 = some false := by kernel_rfl
theorem z46 : szOf Try.prog 46 = some 1 := by kernel_rfl
theorem by46 : byOf Try.prog 46 = some 8 := by kernel_rfl
theorem zr46 : zrOf Try.prog 46 = some (.pointer none) := by kernel_rfl
theorem g47 : aggOf Try.prog 47 = some false := by kernel_rfl
theorem z47 : szOf Try.prog 47 = some 1 := by kernel_rfl
theorem by47 : byOf Try.prog 47 = some 8 := by kernel_rfl
theorem zr47 : zrOf Try.prog 47 = some (.nilFunc) := by kernel_rfl
theorem g48 : aggOf Try.prog 48 = some false := by kernel_rfl
theorem z48 : szOf Try.prog 48 = some 1 := by kernel_rfl
theorem by48 : byOf Try.prog 48 = some 8 := by kernel_rfl
theorem zr48 : zrOf Try.prog 48 = some (.nilFunc) := by kernel_rfl
theorem g49 : aggOf Try.prog 49 = some false := by kernel_rfl
theorem z49 : szOf Try.prog 49 = some 1 := by kernel_rfl
theorem by49 : byOf Try.prog 49 = some 8 := by kernel_rfl
theorem zr49 : zrOf Try.prog 49 = some (.nilFunc) := by kernel_rfl
theorem g50 : aggOf Try.prog 50 = some false := by kernel_rfl
theorem z50 : szOf Try.prog 50 = some 1 := by kernel_rfl
theorem by50 : byOf Try.prog 50 = some 8 := by kernel_rfl
theorem zr50 : zrOf Try.prog 50 = some (.nilFunc) := by kernel_rfl
theorem g51 : aggOf Try.prog 51 = some true := by kernel_rfl
theorem z51 : szOf Try.prog 51 = some 3 := by kernel_rfl
theorem by51 : byOf Try.prog 51 = some 24 := by kernel_rfl
theorem zr51 : zrOf Try.prog 51 = some (.agg [.int .i64 (0), .nilFunc, .nilFunc].toArray) := by kernel_rfl
theorem g52 : aggOf Try.prog 52 = some true := by kernel_rfl
theorem z52 : szOf Try.prog 52 = some 3 := by kernel_rfl
theorem by52 : byOf Try.prog 52 = some 24 := by kernel_rfl
theorem zr52 : zrOf Try.prog 52 = some (.agg [.int .i64 (0), .nilFunc, .nilFunc].toArray) := by kernel_rfl
theorem g53 : aggOf Try.prog 53 = some true := by kernel_rfl
theorem z53 : szOf Try.prog 53 = some 9 := by kernel_rfl
theorem by53 : byOf Try.prog 53 = some 72 := by kernel_rfl
theorem zr53 : zrOf Try.prog 53 = some (.agg [.int .i64 (0), .nilFunc, .nilFunc, .int .i64 (0), .nilFunc, .nilFunc, .int .i64 (0), .nilFunc, .nilFunc].toArray) := by kernel_rfl
theorem g54 : aggOf Try.prog 54 = some false := by kernel_rfl
theorem z54 : szOf Try.prog 54 = some 1 := by kernel_rfl
theorem by54 : byOf Try.prog 54 = some 8 := by kernel_rfl
theorem zr54 : zrOf Try.prog 54 = some (.nilFunc) := by kernel_rfl
theorem g55 : aggOf Try.prog 55 = some false := by kernel_rfl
theorem z55 : szOf Try.prog 55 = some 1 := by kernel_rfl
theorem by55 : byOf Try.prog 55 = some 8 := by kernel_rfl
theorem zr55 : zrOf Try.prog 55 = some (.nilFunc) := by kernel_rfl
theorem g56 : aggOf Try.prog 56 = some false := by kernel_rfl
theorem z56 : szOf Try.prog 56 = some 1 := by kernel_rfl
theorem by56 : byOf Try.prog 56 = some 24 := by kernel_rfl
theorem zr56 : zrOf Try.prog 56 = some (.slice none 0 0) := by kernel_rfl
theorem g57 : aggOf Try.prog 57 = some false := by kernel_rfl
theorem z57 : szOf Try.prog 57 = some 1 := by kernel_rfl
theorem by57 : byOf Try.prog 57 = some 8 := by kernel_rfl
theorem zr57 : zrOf Try.prog 57 = some (.nilFunc) := by kernel_rfl
theorem g59 : aggOf Try.prog 59 = some false := by kernel_rfl
theorem z59 : szOf Try.prog 59 = some 1 := by kernel_rfl
theorem by59 : byOf Try.prog 59 = some 8 := by kernel_rfl
theorem zr59 : zrOf Try.prog 59 = some (.pointer none) := by kernel_rfl
theorem g60 : aggOf Try.prog 60 = some false := by kernel_rfl
theorem z60 : szOf Try.prog 60 = some 1 := by kernel_rfl
theorem by60 : byOf Try.prog 60 = some 8 := by kernel_rfl
theorem zr60 : zrOf Try.prog 60 = some (.nilFunc) := by kernel_rfl
theorem g61 : aggOf Try.prog 61 = some false := by kernel_rfl
theorem z61 : szOf Try.prog 61 = some 1 := by kernel_rfl
theorem by61 : byOf Try.prog 61 = some 8 := by kernel_rfl
theorem zr61 : zrOf Try.prog 61 = some (.nilFunc) := by kernel_rfl
theorem g62 : aggOf Try.prog 62 = some false := by kernel_rfl
theorem z62 : szOf Try.prog 62 = some 1 := by kernel_rfl
theorem by62 : byOf Try.prog 62 = some 8 := by kernel_rfl
theorem zr62 : zrOf Try.prog 62 = some (.nilFunc) := by kernel_rfl
theorem g66 : aggOf Try.prog 66 = some true := by kernel_rfl
theorem z66 : szOf Try.prog 66 = some 2 := by kernel_rfl
theorem by66 : byOf Try.prog 66 = some 32 := by kernel_rfl
theorem zr66 : zrOf Try.prog 66 = some (.agg [.bool false, .slice none 0 0].toArray) := by kernel_rfl
theorem g68 : aggOf Try.prog 68 = some true := by kernel_rfl
theorem z68 : szOf Try.prog 68 = some 2 := by kernel_rfl
theorem by68 : byOf Try.prog 68 = some 32 := by kernel_rfl
theorem zr68 : zrOf Try.prog 68 = some (.agg [.bool false, .slice none 0 0].toArray) := by kernel_rfl
theorem g70 : aggOf Try.prog 70 = some false := by kernel_rfl
theorem z70 : szOf Try.prog 70 = some 1 := by kernel_rfl
theorem by70 : byOf Try.prog 70 = some 8 := by kernel_rfl
theorem zr70 : zrOf Try.prog 70 = some (.nilFunc) := by kernel_rfl
theorem g71 : aggOf Try.prog 71 = some false := by kernel_rfl
theorem z71 : szOf Try.prog 71 = some 1 := by kernel_rfl
theorem by71 : byOf Try.prog 71 = some 8 := by kernel_rfl
theorem zr71 : zrOf Try.prog 71 = some (.nilFunc) := by kernel_rfl
theorem g72 : aggOf Try.prog 72 = some false := by kernel_rfl
theorem z72 : szOf Try.prog 72 = some 1 := by kernel_rfl
theorem by72 : byOf Try.prog 72 = some 8 := by kernel_rfl
theorem zr72 : zrOf Try.prog 72 = some (.nilFunc) := by kernel_rfl
theorem g74 : aggOf Try.prog 74 = some false := by kernel_rfl
theorem z74 : szOf Try.prog 74 = some 1 := by kernel_rfl
theorem by74 : byOf Try.prog 74 = some 8 := by kernel_rfl
theorem zr74 : zrOf Try.prog 74 = some (.nilFunc) := by kernel_rfl
theorem g75 : aggOf Try.prog 75 = some false := by kernel_rfl
theorem z75 : szOf Try.prog 75 = some 1 := by kernel_rfl
theorem by75 : byOf Try.prog 75 = some 8 := by kernel_rfl
theorem zr75 : zrOf Try.prog 75 = some (.int .u64 (0)) := by kernel_rfl
theorem g76 : aggOf Try.prog 76 = some true := by kernel_rfl
theorem z76 : szOf Try.prog 76 = some 3 := by kernel_rfl
theorem by76 : byOf Try.prog 76 = some 40 := by kernel_rfl
theorem zr76 : zrOf Try.prog 76 = some (.agg [.bool false, .slice none 0 0, .bool false].toArray) := by kernel_rfl
theorem g77 : aggOf Try.prog 77 = some true := by kernel_rfl
theorem z77 : szOf Try.prog 77 = some 3 := by kernel_rfl
theorem by77 : byOf Try.prog 77 = some 40 := by kernel_rfl
theorem zr77 : zrOf Try.prog 77 = some (.agg [.bool false, .slice none 0 0, .bool false].toArray) := by kernel_rfl
theorem g78 : aggOf Try.prog 78 = some false := by kernel_rfl
theorem z78 : szOf Try.prog 78 = some 1 := by kernel_rfl
theorem by78 : byOf Try.prog 78 = some 8 := by kernel_rfl
theorem zr78 : zrOf Try.prog 78 = some (.nilFunc) := by kernel_rfl
theorem g80 : aggOf Try.prog 80 = some false := by kernel_rfl
theorem z80 : szOf Try.prog 80 = some 1 := by kernel_rfl
theorem by80 : byOf Try.prog 80 = some 8 := by kernel_rfl
theorem zr80 : zrOf Try.prog 80 = some (.nilFunc) := by kernel_rfl
theorem g81 : aggOf Try.prog 81 = some false := by kernel_rfl
theorem z81 : szOf Try.prog 81 = some 1 := by kernel_rfl
theorem by81 : byOf Try.prog 81 = some 8 := by kernel_rfl
theorem zr81 : zrOf Try.prog 81 = some (.nilFunc) := by kernel_rfl
theorem g82 : aggOf Try.prog 82 = some false := by kernel_rfl
theorem z82 : szOf Try.prog 82 = some 1 := by kernel_rfl
theorem by82 : byOf Try.prog 82 = some 8 := by kernel_rfl
theorem zr82 : zrOf Try.prog 82 = some (.int .u64 (0)) := by kernel_rfl
theorem g92 : aggOf Try.prog 92 = some true := by kernel_rfl
theorem z92 : szOf Try.prog 92 = some 0 := by kernel_rfl
theorem by92 : byOf Try.prog 92 = some 0 := by kernel_rfl
theorem zr92 : zrOf Try.prog 92 = some (.agg [].toArray) := by kernel_rfl
theorem g93 : aggOf Try.prog 93 = some true := by kernel_rfl
theorem z93 : szOf Try.prog 93 = some 0 := by kernel_rfl
theorem by93 : byOf Try.prog 93 = some 0 := by kernel_rfl
theorem zr93 : zrOf Try.prog 93 = some (.agg [].toArray) := by kernel_rfl
theorem g94 : aggOf Try.prog 94 = some true := by kernel_rfl
theorem z94 : szOf Try.prog 94 = some 0 := by kernel_rfl
theorem by94 : byOf Try.prog 94 = some 0 := by kernel_rfl
theorem zr94 : zrOf Try.prog 94 = some (.agg [].toArray) := by kernel_rfl
theorem g97 : aggOf Try.prog 97 = some false := by kernel_rfl
theorem z97 : szOf Try.prog 97 = some 1 := by kernel_rfl
theorem by97 : byOf Try.prog 97 = some 1 := by kernel_rfl
theorem zr97 : zrOf Try.prog 97 = some (.int .u8 (0)) := by kernel_rfl
theorem fo40_0 : fldOff Try.prog 40 0 = some (0, 3, 1) := by kernel_rfl
theorem fo40_1 : fldOff Try.prog 40 1 = some (1, 2, 1) := by kernel_rfl
theorem fo40_2 : fldOff Try.prog 40 2 = some (2, 9, 1) := by kernel_rfl
theorem fo44_0 : fldOff Try.prog 44 0 = some (0, 9, 1) := by kernel_rfl
theorem fo44_1 : fldOff Try.prog 44 1 = some (1, 3, 1) := by kernel_rfl
theorem fo44_2 : fldOff Try.prog 44 2 = some (2, 4, 1) := by kernel_rfl
theorem fo52_1 : fldOff Try.prog 52 1 = some (1, 49, 1) := by kernel_rfl
theorem fo52_2 : fldOff Try.prog 52 2 = some (2, 50, 1) := by kernel_rfl
theorem fo66_0 : fldOff Try.prog 66 0 = some (0, 4, 1) := by kernel_rfl
theorem fo66_1 : fldOff Try.prog 66 1 = some (1, 56, 1) := by kernel_rfl
theorem fo68_0 : fldOff Try.prog 68 0 = some (0, 66, 2) := by kernel_rfl
theorem fo77_0 : fldOff Try.prog 77 0 = some (0, 66, 2) := by kernel_rfl
theorem fo77_1 : fldOff Try.prog 77 1 = some (2, 4, 1) := by kernel_rfl
theorem pl40 : placesOf Try.prog 40 = some [(0, 1), (1, 1), (2, 1)] := by kernel_rfl
theorem pl44 : placesOf Try.prog 44 = some [(0, 1), (1, 1), (2, 1)] := by kernel_rfl
theorem pl52 : placesOf Try.prog 52 = some [(0, 1), (1, 1), (2, 1)] := by kernel_rfl
theorem pl66 : placesOf Try.prog 66 = some [(0, 1), (1, 1)] := by kernel_rfl
theorem pl68 : placesOf Try.prog 68 = some [(0, 2)] := by kernel_rfl
theorem pl77 : placesOf Try.prog 77 = some [(0, 2), (2, 1)] := by kernel_rfl
theorem cal3 : Callable Try.prog 3 := callable_of Try.func3 rfl (by kernel_rfl)
theorem cal4 : Callable Try.prog 4 := callable_of Try.func4 rfl (by kernel_rfl)
theorem cal5 : Callable Try.prog 5 := callable_of Try.func5 rfl (by kernel_rfl)
theorem cal6 : Callable Try.prog 6 := callable_of Try.func6 rfl (by kernel_rfl)
theorem cal7 : Callable Try.prog 7 := callable_of Try.func7 rfl (by kernel_rfl)
theorem cal8 : Callable Try.prog 8 := callable_of Try.func8 rfl (by kernel_rfl)
theorem cal9 : Callable Try.prog 9 := callable_of Try.func9 rfl (by kernel_rfl)
theorem cal10 : Callable Try.prog 10 := callable_of Try.func10 rfl (by kernel_rfl)
theorem cal11 : Callable Try.prog 11 := callable_of Try.func11 rfl (by kernel_rfl)
theorem cal12 : Callable Try.prog 12 := callable_of Try.func12 rfl (by kernel_rfl)
theorem cal13 : Callable Try.prog 13 := callable_of Try.func13 rfl (by kernel_rfl)
theorem cal14 : Callable Try.prog 14 := callable_of Try.func14 rfl (by kernel_rfl)
theorem cal15 : Callable Try.prog 15 := callable_of Try.func15 rfl (by kernel_rfl)
theorem cal16 : Callable Try.prog 16 := callable_of Try.func16 rfl (by kernel_rfl)
theorem cal17 : Callable Try.prog 17 := callable_of Try.func17 rfl (by kernel_rfl)
theorem cal18 : Callable Try.prog 18 := callable_of Try.func18 rfl (by kernel_rfl)
theorem cal19 : Callable Try.prog 19 := callable_of Try.func19 rfl (by kernel_rfl)
theorem cal20 : Callable Try.prog 20 := callable_of Try.func20 rfl (by kernel_rfl)
theorem cal21 : Callable Try.prog 21 := callable_of Try.func21 rfl (by kernel_rfl)
theorem cal22 : Callable Try.prog 22 := callable_of Try.func22 rfl (by kernel_rfl)
theorem cal23 : Callable Try.prog 23 := callable_of Try.func23 rfl (by kernel_rfl)
theorem cal24 : Callable Try.prog 24 := callable_of Try.func24 rfl (by kernel_rfl)
theorem cal25 : Callable Try.prog 25 := callable_of Try.func25 rfl (by kernel_rfl)
theorem cal26 : Callable Try.prog 26 := callable_of Try.func26 rfl (by kernel_rfl)
theorem cal27 : Callable Try.prog 27 := callable_of Try.func27 rfl (by kernel_rfl)
theorem cal28 : Callable Try.prog 28 := callable_of Try.func28 rfl (by kernel_rfl)
theorem cal29 : Callable Try.prog 29 := callable_of Try.func29 rfl (by kernel_rfl)
theorem cal30 : Callable Try.prog 30 := callable_of Try.func30 rfl (by kernel_rfl)
theorem cal31 : Callable Try.prog 31 := callable_of Try.func31 rfl (by kernel_rfl)
theorem cal32 : Callable Try.prog 32 := callable_of Try.func32 rfl (by kernel_rfl)
theorem cal33 : Callable Try.prog 33 := callable_of Try.func33 rfl (by kernel_rfl)
theorem cal34 : Callable Try.prog 34 := callable_of Try.func34 rfl (by kernel_rfl)
theorem cal35 : Callable Try.prog 35 := callable_of Try.func35 rfl (by kernel_rfl)
theorem cal36 : Callable Try.prog 36 := callable_of Try.func36 rfl (by kernel_rfl)
theorem cal37 : Callable Try.prog 37 := callable_of Try.func37 rfl (by kernel_rfl)
theorem cal38 : Callable Try.prog 38 := callable_of Try.func38 rfl (by kernel_rfl)
theorem cal39 : Callable Try.prog 39 := callable_of Try.func39 rfl (by kernel_rfl)
theorem cal40 : Callable Try.prog 40 := callable_of Try.func40 rfl (by kernel_rfl)
theorem cal41 : Callable Try.prog 41 := callable_of Try.func41 rfl (by kernel_rfl)
theorem cal42 : Callable Try.prog 42 := callable_of Try.func42 rfl (by kernel_rfl)
theorem cal43 : Callable Try.prog 43 := callable_of Try.func43 rfl (by kernel_rfl)
theorem cal44 : Callable Try.prog 44 := callable_of Try.func44 rfl (by kernel_rfl)
theorem cal45 : Callable Try.prog 45 := callable_of Try.func45 rfl (by kernel_rfl)
theorem cal46 : Callable Try.prog 46 := callable_of Try.func46 rfl (by kernel_rfl)
theorem cal47 : Callable Try.prog 47 := callable_of Try.func47 rfl (by kernel_rfl)
theorem cal48 : Callable Try.prog 48 := callable_of Try.func48 rfl (by kernel_rfl)
theorem cal49 : Callable Try.prog 49 := callable_of Try.func49 rfl (by kernel_rfl)
theorem cal50 : Callable Try.prog 50 := callable_of Try.func50 rfl (by kernel_rfl)
theorem cal51 : Callable Try.prog 51 := callable_of Try.func51 rfl (by kernel_rfl)
theorem cal52 : Callable Try.prog 52 := callable_of Try.func52 rfl (by kernel_rfl)
theorem cal53 : Callable Try.prog 53 := callable_of Try.func53 rfl (by kernel_rfl)
theorem cal54 : Callable Try.prog 54 := callable_of Try.func54 rfl (by kernel_rfl)
theorem cal55 : Callable Try.prog 55 := callable_of Try.func55 rfl (by kernel_rfl)
def undL : List (Nat × TypeDesc) := [(2, .int .i64), (3, .int .i64), (4, .bool), (5, .int .u8), (6, .int .u8), (9, .string), (10, .string), (11, .string), (12, .int .u64), (15, .pointer 91), (16, .pointer 94), (17, .pointer 103), (21, .int .i32), (22, .slice 44), (28, .slice 40), (30, .int .i64), (46, .pointer 68), (53, .array 3 52), (56, .slice 5), (59, .pointer 77), (75, .int .u64), (82, .int .u64), (92, .array 0 16), (97, .int .u8)]
theorem und {t : TypeId} {x : TypeDesc} (h : lkL undL t = some x) : Try.prog.underlying t = some x := look (f := Try.prog.underlying) undL ⟨Try.underlying2, Try.underlying3, Try.underlying4, Try.underlying5, Try.underlying6, Try.underlying9, Try.underlying10, Try.underlying11, Try.underlying12, Try.underlying15, Try.underlying16, Try.underlying17, Try.underlying21, Try.underlying22, Try.underlying28, Try.underlying30, Try.underlying46, Try.underlying53, Try.underlying56, Try.underlying59, Try.underlying75, Try.underlying82, Try.underlying92, Try.underlying97, trivial⟩ h
theorem fl40 : flatD Try.prog 40 = some [.int .i64, .int .i64, .string] := by kernel_rfl
theorem fl44 : flatD Try.prog 44 = some [.string, .int .i64, .bool] := by kernel_rfl
def flatL : List (Nat × List TypeDesc) := [(40, [.int .i64, .int .i64, .string]), (44, [.string, .int .i64, .bool])]
theorem flat {t : TypeId} {x : List TypeDesc} (h : lkL flatL t = some x) : flatD Try.prog t = some x := look (f := flatD Try.prog) flatL ⟨fl40, fl44, trivial⟩ h
def aggL : List (Nat × Bool) := [(1, false), (2, false), (3, false), (4, false), (5, false), (6, false), (7, true), (8, true), (9, false), (10, false), (11, false), (12, false), (13, true), (14, true), (15, false), (16, false), (17, false), (18, true), (19, true), (20, false), (21, false), (22, false), (23, false), (24, false), (25, false), (26, false), (27, false), (28, false), (29, false), (30, false), (31, false), (33, false), (35, false), (39, true), (40, true), (41, false), (43, true), (44, true), (45, false), (46, false), (47, false), (48, false), (49, false), (50, false), (51, true), (52, true), (53, true), (54, false), (55, false), (56, false), (57, false), (59, false), (60, false), (61, false), (62, false), (66, true), (68, true), (70, false), (71, false), (72, false), (74, false), (75, false), (76, true), (77, true), (78, false), (80, false), (81, false), (82, false), (92, true), (93, true), (94, true), (97, false)]
theorem agg {t : TypeId} {x : Bool} (h : lkL aggL t = some x) : aggOf Try.prog t = some x := look (f := aggOf Try.prog) aggL ⟨g1, g2, g3, g4, g5, g6, g7, g8, g9, g10, g11, g12, g13, g14, g15, g16, g17, g18, g19, g20, g21, g22, g23, g24, g25, g26, g27, g28, g29, g30, g31, g33, g35, g39, g40, g41, g43, g44, g45, g46, g47, g48, g49, g50, g51, g52, g53, g54, g55, g56, g57, g59, g60, g61, g62, g66, g68, g70, g71, g72, g74, g75, g76, g77, g78, g80, g81, g82, g92, g93, g94, g97, trivial⟩ h
def szL : List (Nat × Nat) := [(1, 1), (2, 1), (3, 1), (4, 1), (5, 1), (6, 1), (7, 4), (8, 4), (9, 1), (10, 1), (11, 1), (12, 1), (13, 2), (14, 2), (15, 1), (16, 1), (17, 1), (18, 1), (19, 1), (20, 1), (21, 1), (22, 1), (23, 1), (24, 1), (25, 1), (26, 1), (27, 1), (28, 1), (29, 1), (30, 1), (31, 1), (33, 1), (35, 1), (39, 3), (40, 3), (41, 1), (43, 3), (44, 3), (45, 1), (46, 1), (47, 1), (48, 1), (49, 1), (50, 1), (51, 3), (52, 3), (53, 9), (54, 1), (55, 1), (56, 1), (57, 1), (59, 1), (60, 1), (61, 1), (62, 1), (66, 2), (68, 2), (70, 1), (71, 1), (72, 1), (74, 1), (75, 1), (76, 3), (77, 3), (78, 1), (80, 1), (81, 1), (82, 1), (92, 0), (93, 0), (94, 0), (97, 1)]
theorem sz {t : TypeId} {x : Nat} (h : lkL szL t = some x) : szOf Try.prog t = some x := look (f := szOf Try.prog) szL ⟨z1, z2, z3, z4, z5, z6, z7, z8, z9, z10, z11, z12, z13, z14, z15, z16, z17, z18, z19, z20, z21, z22, z23, z24, z25, z26, z27, z28, z29, z30, z31, z33, z35, z39, z40, z41, z43, z44, z45, z46, z47, z48, z49, z50, z51, z52, z53, z54, z55, z56, z57, z59, z60, z61, z62, z66, z68, z70, z71, z72, z74, z75, z76, z77, z78, z80, z81, z82, z92, z93, z94, z97, trivial⟩ h
def zrL : List (Nat × Value) := [(1, .nilFunc), (2, .int .i64 (0)), (3, .int .i64 (0)), (4, .bool false), (5, .int .u8 (0)), (6, .int .u8 (0)), (7, .agg [.int .i64 (0), .int .i64 (0), .bool false, .int .u8 (0)].toArray), (8, .agg [.int .i64 (0), .int .i64 (0), .bool false, .int .u8 (0)].toArray), (9, .string ⟨#[]⟩), (10, .string ⟨#[]⟩), (11, .string ⟨#[]⟩), (12, .int .u64 (0)), (13, .agg [.string ⟨#[]⟩, .int .u64 (0)].toArray), (14, .agg [.string ⟨#[]⟩, .int .u64 (0)].toArray), (15, .pointer none), (16, .pointer none), (17, .pointer none), (18, .agg [.pointer none].toArray), (19, .agg [.pointer none].toArray), (20, .nilIface), (21, .int .i32 (0)), (22, .slice none 0 0), (23, .nilFunc), (24, .nilFunc), (25, .nilFunc), (26, .nilFunc), (27, .nilFunc), (28, .slice none 0 0), (29, .nilFunc), (30, .int .i64 (0)), (31, .nilFunc), (33, .nilFunc), (35, .nilFunc), (39, .agg [.int .i64 (0), .int .i64 (0), .string ⟨#[]⟩].toArray), (40, .agg [.int .i64 (0), .int .i64 (0), .string ⟨#[]⟩].toArray), (41, .nilFunc), (43, .agg [.string ⟨#[]⟩, .int .i64 (0), .bool false].toArray), (44, .agg [.string ⟨#[]⟩, .int .i64 (0), .bool false].toArray), (45, .nilFunc), (46, .pointer none), (47, .nilFunc), (48, .nilFunc), (49, .nilFunc), (50, .nilFunc), (51, .agg [.int .i64 (0), .nilFunc, .nilFunc].toArray), (52, .agg [.int .i64 (0), .nilFunc, .nilFunc].toArray), (53, .agg [.int .i64 (0), .nilFunc, .nilFunc, .int .i64 (0), .nilFunc, .nilFunc, .int .i64 (0), .nilFunc, .nilFunc].toArray), (54, .nilFunc), (55, .nilFunc), (56, .slice none 0 0), (57, .nilFunc), (59, .pointer none), (60, .nilFunc), (61, .nilFunc), (62, .nilFunc), (66, .agg [.bool false, .slice none 0 0].toArray), (68, .agg [.bool false, .slice none 0 0].toArray), (70, .nilFunc), (71, .nilFunc), (72, .nilFunc), (74, .nilFunc), (75, .int .u64 (0)), (76, .agg [.bool false, .slice none 0 0, .bool false].toArray), (77, .agg [.bool false, .slice none 0 0, .bool false].toArray), (78, .nilFunc), (80, .nilFunc), (81, .nilFunc), (82, .int .u64 (0)), (92, .agg [].toArray), (93, .agg [].toArray), (94, .agg [].toArray), (97, .int .u8 (0))]
theorem zr {t : TypeId} {x : Value} (h : lkL zrL t = some x) : zrOf Try.prog t = some x := look (f := zrOf Try.prog) zrL ⟨zr1, zr2, zr3, zr4, zr5, zr6, zr7, zr8, zr9, zr10, zr11, zr12, zr13, zr14, zr15, zr16, zr17, zr18, zr19, zr20, zr21, zr22, zr23, zr24, zr25, zr26, zr27, zr28, zr29, zr30, zr31, zr33, zr35, zr39, zr40, zr41, zr43, zr44, zr45, zr46, zr47, zr48, zr49, zr50, zr51, zr52, zr53, zr54, zr55, zr56, zr57, zr59, zr60, zr61, zr62, zr66, zr68, zr70, zr71, zr72, zr74, zr75, zr76, zr77, zr78, zr80, zr81, zr82, zr92, zr93, zr94, zr97, trivial⟩ h
def bytL : List (Nat × Nat) := [(1, 8), (2, 8), (3, 8), (4, 1), (5, 1), (6, 1), (7, 24), (8, 24), (9, 16), (10, 16), (11, 16), (12, 8), (13, 24), (14, 24), (15, 8), (16, 8), (17, 8), (18, 8), (19, 8), (20, 16), (21, 4), (22, 24), (23, 8), (24, 8), (25, 8), (26, 8), (27, 8), (28, 24), (29, 8), (30, 8), (31, 8), (33, 8), (35, 8), (39, 32), (40, 32), (41, 8), (43, 32), (44, 32), (45, 8), (46, 8), (47, 8), (48, 8), (49, 8), (50, 8), (51, 24), (52, 24), (53, 72), (54, 8), (55, 8), (56, 24), (57, 8), (59, 8), (60, 8), (61, 8), (62, 8), (66, 32), (68, 32), (70, 8), (71, 8), (72, 8), (74, 8), (75, 8), (76, 40), (77, 40), (78, 8), (80, 8), (81, 8), (82, 8), (92, 0), (93, 0), (94, 0), (97, 1)]
theorem byt {t : TypeId} {x : Nat} (h : lkL bytL t = some x) : byOf Try.prog t = some x := look (f := byOf Try.prog) bytL ⟨by1, by2, by3, by4, by5, by6, by7, by8, by9, by10, by11, by12, by13, by14, by15, by16, by17, by18, by19, by20, by21, by22, by23, by24, by25, by26, by27, by28, by29, by30, by31, by33, by35, by39, by40, by41, by43, by44, by45, by46, by47, by48, by49, by50, by51, by52, by53, by54, by55, by56, by57, by59, by60, by61, by62, by66, by68, by70, by71, by72, by74, by75, by76, by77, by78, by80, by81, by82, by92, by93, by94, by97, trivial⟩ h
def lkP {α : Type} : List (Nat × Nat × α) → Nat → Nat → Option α
  | [], _, _ => none
  | (k, j, v) :: E, t, i => match Nat.beq k t && Nat.beq j i with
    | true => some v
    | false => lkP E t i
def allP {α : Type} (f : Nat → Nat → Option α) : List (Nat × Nat × α) → Prop
  | [] => True
  | p :: l => f p.1 p.2.1 = some p.2.2 ∧ allP f l
theorem lookP {α : Type} {f : Nat → Nat → Option α} : ∀ (l : List (Nat × Nat × α)), allP f l → ∀ {t i : Nat} {x : α}, lkP l t i = some x → f t i = some x
  | [], _, _, _, _, h => (Option.some_ne_none _ h.symm).elim
  | (k, j, v) :: E, hA, t, i, x, h => by
    unfold lkP at h
    cases hb : Nat.beq k t && Nat.beq j i with
    | true =>
      rw [hb] at h
      simp only [Bool.and_eq_true] at hb
      obtain rfl := Nat.eq_of_beq_eq_true hb.1
      obtain rfl := Nat.eq_of_beq_eq_true hb.2
      cases h
      exact hA.1
    | false =>
      rw [hb] at h
      exact lookP E hA.2 h
def foL : List (Nat × Nat × (Nat × Nat × Nat)) := [(40, 0, (0, 3, 1)), (40, 1, (1, 2, 1)), (40, 2, (2, 9, 1)), (44, 0, (0, 9, 1)), (44, 1, (1, 3, 1)), (44, 2, (2, 4, 1)), (52, 1, (1, 49, 1)), (52, 2, (2, 50, 1)), (66, 0, (0, 4, 1)), (66, 1, (1, 56, 1)), (68, 0, (0, 66, 2)), (77, 0, (0, 66, 2)), (77, 1, (2, 4, 1))]
theorem fo {t : TypeId} {i : Nat} {x : Nat × Nat × Nat} (h : lkP foL t i = some x) : fldOff Try.prog t i = some x := lookP (f := fldOff Try.prog) foL ⟨fo40_0, fo40_1, fo40_2, fo44_0, fo44_1, fo44_2, fo52_1, fo52_2, fo66_0, fo66_1, fo68_0, fo77_0, fo77_1, trivial⟩ h
def lkC : List Nat → Nat → Bool
  | [], _ => false
  | k :: E, t => match Nat.beq k t with
    | true => true
    | false => lkC E t
def allC (Q : Nat → Prop) : List Nat → Prop
  | [] => True
  | p :: l => Q p ∧ allC Q l
theorem lookC {Q : Nat → Prop} : ∀ (l : List Nat), allC Q l → ∀ {t : Nat}, lkC l t = true → Q t
  | [], _, _, h => (Bool.false_ne_true h).elim
  | k :: E, hA, t, h => by
    unfold lkC at h
    cases hb : Nat.beq k t with
    | true => obtain rfl := Nat.eq_of_beq_eq_true hb; exact hA.1
    | false => rw [hb] at h; exact lookC E hA.2 h
def calL : List Nat := [3, 4, 5, 6, 7, 8, 9, 10, 11, 12, 13, 14, 15, 16, 17, 18, 19, 20, 21, 22, 23, 24, 25, 26, 27, 28, 29, 30, 31, 32, 33, 34, 35, 36, 37, 38, 39, 40, 41, 42, 43, 44, 45, 46, 47, 48, 49, 50, 51, 52, 53, 54, 55]
theorem cal {t : Nat} (h : lkC calL t = true) : Callable Try.prog t := lookC (Q := Callable Try.prog) calL ⟨cal3, cal4, cal5, cal6, cal7, cal8, cal9, cal10, cal11, cal12, cal13, cal14, cal15, cal16, cal17, cal18, cal19, cal20, cal21, cal22, cal23, cal24, cal25, cal26, cal27, cal28, cal29, cal30, cal31, cal32, cal33, cal34, cal35, cal36, cal37, cal38, cal39, cal40, cal41, cal42, cal43, cal44, cal45, cal46, cal47, cal48, cal49, cal50, cal51, cal52, cal53, cal54, cal55, trivial⟩ h
def plL : List (Nat × List (Nat × Nat)) := [(40, [(0, 1), (1, 1), (2, 1)]), (44, [(0, 1), (1, 1), (2, 1)]), (52, [(0, 1), (1, 1), (2, 1)]), (66, [(0, 1), (1, 1)]), (68, [(0, 2)]), (77, [(0, 2), (2, 1)])]
theorem pl {t : TypeId} {x : List (Nat × Nat)} (h : lkL plL t = some x) : placesOf Try.prog t = some x := look (f := placesOf Try.prog) plL ⟨pl40, pl44, pl52, pl66, pl68, pl77, trivial⟩ h
theorem mixed : Try.prog.follows .mixedOrders = true := by kernel_rfl
end Go.Proofs.Ythdiokdaaofebaa.Fx
