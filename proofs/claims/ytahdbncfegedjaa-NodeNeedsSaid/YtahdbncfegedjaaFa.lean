/-
  Sums over bytes: the code's and the document's are one. Conditions: each theorem's own.
-/
import Derived.Test.YtahdbncfegedjaaKA
import Derived.Test.YtahdbncfegedjaaKY

namespace Go.Proofs.Ytahdbncfegedjaa.Pg
open Go Go.K Go.Proofs Go.Proofs.Ytahdbncfegedjaa
set_option linter.unusedVariables false
set_option linter.unusedSimpArgs false
set_option maxRecDepth 10000

theorem bits_and_u32 (a b : Nat) (ha : a < 4294967296) (hb : b < 4294967296) : bits .and .u32 (a : Int) (b : Int) = ((a &&& b : Nat) : Int) := by
  have hx : a &&& b < 2 ^ 32 := Nat.and_lt_two_pow _ (by omega)
  have h1 : (BitVec.ofInt 32 (a : Int)).toNat = a := by
    rw [BitVec.ofInt_natCast, BitVec.toNat_ofNat]; exact Nat.mod_eq_of_lt (by omega)
  have h2 : (BitVec.ofInt 32 (b : Int)).toNat = b := by
    rw [BitVec.ofInt_natCast, BitVec.toNat_ofNat]; exact Nat.mod_eq_of_lt (by omega)
  show IntKind.u32.wrap ((BitVec.ofInt 32 (a : Int) &&& BitVec.ofInt 32 (b : Int)).toNat : Int) = _
  rw [BitVec.toNat_and, h1, h2, K.wu32]
  omega
theorem bits_xor_u32 (a b : Nat) (ha : a < 4294967296) (hb : b < 4294967296) : bits .xor .u32 (a : Int) (b : Int) = ((a ^^^ b : Nat) : Int) := by
  have hx : a ^^^ b < 2 ^ 32 := Nat.xor_lt_two_pow (by omega) (by omega)
  have h1 : (BitVec.ofInt 32 (a : Int)).toNat = a := by
    rw [BitVec.ofInt_natCast, BitVec.toNat_ofNat]; exact Nat.mod_eq_of_lt (by omega)
  have h2 : (BitVec.ofInt 32 (b : Int)).toNat = b := by
    rw [BitVec.ofInt_natCast, BitVec.toNat_ofNat]; exact Nat.mod_eq_of_lt (by omega)
  show IntKind.u32.wrap ((BitVec.ofInt 32 (a : Int) ^^^ BitVec.ofInt 32 (b : Int)).toNat : Int) = _
  rw [BitVec.toNat_xor, h1, h2, K.wu32]
  omega
/-- One bit of a sum; a byte; bytes. -/
def stepQ (s : Nat) : Nat := if s % 2 = 1 then (s / 2) ^^^ 2197175160 else s / 2
def stepsQ : Nat → Nat → Nat
  | 0, s => s
  | k + 1, s => stepQ (stepsQ k s)
def byteQ (s : Nat) (c : UInt8) : Nat := stepsQ 8 (s ^^^ c.toNat)
def sumQ (s : Nat) (l : List UInt8) : Nat := (l.foldl byteQ (s ^^^ 4294967295)) ^^^ 4294967295
theorem xor_lt {a b : Nat} (ha : a < 4294967296) (hb : b < 4294967296) : a ^^^ b < 4294967296 := Nat.xor_lt_two_pow (n := 32) ha hb
theorem stepQ_lt {s : Nat} (h : s < 4294967296) : stepQ s < 4294967296 := by
  unfold stepQ
  split
  · exact xor_lt (by omega) (by decide)
  · omega
theorem stepsQ_lt {s : Nat} (h : s < 4294967296) : ∀ k, stepsQ k s < 4294967296
  | 0 => h
  | k + 1 => stepQ_lt (stepsQ_lt h k)
theorem byteQ_lt {s : Nat} (h : s < 4294967296) (c : UInt8) : byteQ s c < 4294967296 := stepsQ_lt (xor_lt h (by have := c.toNat_lt; omega)) 8
theorem foldQ_lt : ∀ (l : List UInt8) {s : Nat}, s < 4294967296 → l.foldl byteQ s < 4294967296
  | [], _, h => h
  | c :: l, _, h => foldQ_lt l (byteQ_lt h c)
theorem sumQ_lt {s : Nat} (h : s < 4294967296) (l : List UInt8) : sumQ s l < 4294967296 := xor_lt (foldQ_lt l (xor_lt h (by decide))) (by decide)
theorem fold_at {l : List UInt8} {j : Nat} {c : UInt8} (h : l[j]? = some c) (s : Nat) : (l.take (j + 1)).foldl byteQ s = byteQ ((l.take j).foldl byteQ s) c := by
  rw [List.take_add_one, h, List.foldl_append]; rfl
theorem and_one (s : Nat) : s &&& 1 = s % 2 := Nat.and_one_is_mod s
/-- The code's bit. -/
theorem step_code (s : Nat) (h : s < 4294967296) : bits .xor .u32 ((s : Int).fdiv (2 ^ (min (1 : Int).toNat IntKind.u32.bits))) (bits .and .u32 2197175160 (IntKind.u32.wrap (0 - bits .and .u32 (s : Int) 1))) = ((stepQ s : Nat) : Int) := by
  have e1 : (s : Int).fdiv (2 ^ (min (1 : Int).toNat IntKind.u32.bits)) = ((s / 2 : Nat) : Int) := by
    show (s : Int).fdiv 2 = _
    rw [Int.fdiv_eq_ediv_of_nonneg _ (by decide)]; omega
  have e2 : bits .and .u32 (s : Int) 1 = ((s % 2 : Nat) : Int) := by
    rw [show (1 : Int) = ((1 : Nat) : Int) from rfl, bits_and_u32 s 1 h (by decide), and_one]
  rw [e1, e2, K.wu32, show (2197175160 : Int) = ((2197175160 : Nat) : Int) from rfl]
  unfold stepQ
  by_cases hs : s % 2 = 1
  · rw [if_pos hs, hs, show (0 - ((1 : Nat) : Int)) % 4294967296 = ((4294967295 : Nat) : Int) by decide, bits_and_u32 _ _ (by decide) (by decide), show 2197175160 &&& 4294967295 = 2197175160 by decide, bits_xor_u32 _ _ (by omega) (by decide)]
  · have h0 : s % 2 = 0 := by omega
    rw [if_neg hs, h0, show (0 - ((0 : Nat) : Int)) % 4294967296 = ((0 : Nat) : Int) by decide, bits_and_u32 _ _ (by decide) (by decide), show 2197175160 &&& 0 = 0 by decide, bits_xor_u32 _ _ (by omega) (by decide), Nat.xor_zero]
end Go.Proofs.Ytahdbncfegedjaa.Pg
