/-
  K6: numbers: wraps that do nothing, bytes of a number. Generic over the program. Conditions: none.
-/
import Derived.Test.YtjgfgpdkcojnmaaK5
namespace Go.K
set_option linter.unusedVariables false

theorem wr_i64 {a : Int} (h1 : -9223372036854775808 ≤ a) (h2 : a ≤ 9223372036854775807) : IntKind.i64.wrap a = a := by
  simp only [IntKind.wrap, IntKind.bits, IntKind.signed, Nat.reduceSub, Int.reducePow, Bool.true_and, decide_eq_true_eq, ge_iff_le]; split <;> omega
theorem wr_i32 {a : Int} (h1 : -2147483648 ≤ a) (h2 : a ≤ 2147483647) : IntKind.i32.wrap a = a := by
  simp only [IntKind.wrap, IntKind.bits, IntKind.signed, Nat.reduceSub, Int.reducePow, Bool.true_and, decide_eq_true_eq, ge_iff_le]; split <;> omega
theorem wr_u64 {a : Int} (h1 : 0 ≤ a) (h2 : a ≤ 18446744073709551615) : IntKind.u64.wrap a = a := by
  simp [IntKind.wrap, IntKind.bits, IntKind.signed]; omega
theorem wr_u32 {a : Int} (h1 : 0 ≤ a) (h2 : a ≤ 4294967295) : IntKind.u32.wrap a = a := by
  simp [IntKind.wrap, IntKind.bits, IntKind.signed]; omega
theorem wr_u16 {a : Int} (h1 : 0 ≤ a) (h2 : a ≤ 65535) : IntKind.u16.wrap a = a := by
  simp [IntKind.wrap, IntKind.bits, IntKind.signed]; omega
theorem wr_u8 {a : Int} (h1 : 0 ≤ a) (h2 : a ≤ 255) : IntKind.u8.wrap a = a := by
  simp [IntKind.wrap, IntKind.bits, IntKind.signed]; omega
theorem wu8 (a : Int) : IntKind.u8.wrap a = a % 256 := by simp [IntKind.wrap, IntKind.bits, IntKind.signed]
theorem wu16 (a : Int) : IntKind.u16.wrap a = a % 65536 := by simp [IntKind.wrap, IntKind.bits, IntKind.signed]
theorem wu32 (a : Int) : IntKind.u32.wrap a = a % 4294967296 := by simp [IntKind.wrap, IntKind.bits, IntKind.signed]
theorem wu64 (a : Int) : IntKind.u64.wrap a = a % 18446744073709551616 := by simp [IntKind.wrap, IntKind.bits, IntKind.signed]
theorem quo_i64 {a b : Int} (h1 : 0 ≤ a) (h2 : 0 < b) (h3 : a ≤ 9223372036854775807) : IntKind.i64.wrap (a.tdiv b) = a / b := by
  rw [Int.tdiv_eq_ediv_of_nonneg h1]
  have := Int.ediv_nonneg h1 (Int.le_of_lt h2)
  have := Int.ediv_le_self b h1
  exact wr_i64 (by omega) (by omega)
theorem quo_u64 {a b : Int} (h1 : 0 ≤ a) (h2 : 0 < b) (h3 : a ≤ 18446744073709551615) : IntKind.u64.wrap (a.tdiv b) = a / b := by
  rw [Int.tdiv_eq_ediv_of_nonneg h1]
  have := Int.ediv_nonneg h1 (Int.le_of_lt h2)
  have := Int.ediv_le_self b h1
  exact wr_u64 (by omega) (by omega)
theorem rem_nn {a b : Int} (h1 : 0 ≤ a) : a.tmod b = a % b := Int.tmod_eq_emod_of_nonneg h1

/-- The bytes of a number, the least first. -/
def lebs (x : Nat) : Nat → List UInt8
  | 0 => []
  | m + 1 => UInt8.ofNat (x % 256) :: lebs (x / 256) m
theorem lebs_length (m : Nat) : ∀ x, (lebs x m).length = m := by
  induction m with
  | zero => intro x; rfl
  | succ m ih => intro x; simp [lebs, ih]
theorem lebs_snoc (m : Nat) : ∀ x, lebs x (m + 1) = lebs x m ++ [UInt8.ofNat (x / 256 ^ m % 256)] := by
  induction m with
  | zero => intro x; simp [lebs]
  | succ m ih =>
    intro x
    rw [lebs, ih, lebs, List.cons_append, Nat.div_div_eq_div_mul]
    rw [show 256 * 256 ^ m = 256 ^ (m + 1) from by rw [Nat.pow_succ, Nat.mul_comm]]
theorem u8_ofNat (x : Nat) : u8 (UInt8.ofNat (x % 256)) = .int .u8 ((x % 256 : Nat) : Int) := by
  simp [u8]
/-- A byte that a shift gives. -/
theorem byte_shift (x m : Nat) (hm : m < 8) : (x : Int).fdiv (2 ^ (min ((8 * (m : Int)).toNat) 64)) = ((x / 256 ^ m : Nat) : Int) := by
  have h1 : min ((8 * (m : Int)).toNat) 64 = 8 * m := by omega
  rw [h1, Int.fdiv_eq_ediv_of_nonneg _ (Int.pow_nonneg (by omega))]
  rw [show (2 : Int) ^ (8 * m) = ((256 ^ m : Nat) : Int) from by rw [Int.pow_mul]; simp]
  rfl

theorem byte_val (x m : Nat) (hm : m < 8) : Value.int .u8 (IntKind.u8.wrap ((x : Int).fdiv (2 ^ (min ((8 * (m : Int)).toNat) IntKind.u64.bits)))) = u8 (UInt8.ofNat (x / 256 ^ m % 256)) := by
  rw [u8_ofNat, wu8]
  have := byte_shift x m hm
  rw [show IntKind.u64.bits = 64 from rfl, this]
  simp

/-! Counted numbers -/
def cuF : Nat → Nat → List UInt8
  | 0, x => [UInt8.ofNat x]
  | f + 1, x => if x < 128 then [UInt8.ofNat x] else UInt8.ofNat (x % 128 + 128) :: cuF f (x / 128)
def cu (x : Nat) : List UInt8 := cuF 9 x
theorem cuF_stable : ∀ (f x : Nat), x < 128 ^ (f + 1) → cuF f x = cuF (f + 1) x
  | 0, x, h => by simp at h; simp [cuF, h]
  | f + 1, x, h => by
    rw [cuF, cuF]
    by_cases hx : x < 128
    · simp [hx]
    · rw [if_neg hx, if_neg hx, cuF_stable f (x / 128) (by rw [Nat.pow_succ] at h; exact Nat.div_lt_of_lt_mul (by rw [Nat.mul_comm]; exact h))]
theorem cu_lt {x : Nat} (h : x < 128) : cu x = [UInt8.ofNat x] := by simp [cu, cuF, h]
theorem cu_ge {x : Nat} (h : ¬ x < 128) (h2 : x < 18446744073709551616) : cu x = UInt8.ofNat (x % 128 + 128) :: cu (x / 128) := by
  rw [cu, cuF, if_neg h, cu, cuF_stable 8 (x / 128) (by
    have : x / 128 < 144115188075855872 := Nat.div_lt_of_lt_mul (by omega)
    exact Nat.lt_of_lt_of_le this (by decide))]
theorem cuF_len : ∀ (f x : Nat), 1 ≤ (cuF f x).length ∧ (cuF f x).length ≤ f + 1
  | 0, x => by simp [cuF]
  | f + 1, x => by
    rw [cuF]
    split
    · simp
    · have := cuF_len f (x / 128)
      simp; omega
theorem cu_len (x : Nat) : 1 ≤ (cu x).length ∧ (cu x).length ≤ 10 := cuF_len 9 x
/-- The counted number of a signed one. -/
def zig (x : Int) : Nat := if 0 ≤ x then (2 * x).toNat else (2 * (-(x + 1)) + 1).toNat
theorem zig_lt {x : Int} (h1 : -9223372036854775808 ≤ x) (h2 : x ≤ 9223372036854775807) : zig x < 18446744073709551616 := by unfold zig; split <;> omega
theorem or128 (x : Nat) : bits .or .u8 (IntKind.u8.wrap (x : Int)) 128 = ((x % 128 + 128 : Nat) : Int) := by
  rw [wu8]
  have h : ((x : Int) % 256) = ((x % 256 : Nat) : Int) := by simp
  rw [h, show (128 : Int) = ((128 : Nat) : Int) from rfl, u8_or_nat _ _ (Nat.mod_lt _ (by omega)) (by omega)]
  congr 1
  have h1 : x % 256 ||| 128 = (x % 256 % 128) ||| 128 := by
    apply Nat.eq_of_testBit_eq
    intro i
    rw [Nat.testBit_or, Nat.testBit_or, show (128 : Nat) = 2 ^ 7 from rfl, Nat.testBit_two_pow, Nat.testBit_mod_two_pow]
    by_cases h7 : 7 = i
    · simp [h7]
    · by_cases hlt : i < 7
      · simp [hlt]
      · have : (x % 256).testBit i = false := by
          rw [show (256 : Nat) = 2 ^ 8 from rfl, Nat.testBit_mod_two_pow]
          simp; omega
        simp [this]
  rw [h1, Nat.mod_mod_of_dvd _ (by decide : 128 ∣ 256), nat_or_add]
where
  nat_or_add : x % 128 ||| 128 = x % 128 + 128 := by
    have := nat_join 7 128 (x % 128) (by decide) (Nat.mod_lt _ (by decide))
    rw [Nat.or_comm, this, Nat.add_comm]
theorem shr7 (x : Nat) : (x : Int).fdiv (2 ^ (min (7 : Int).toNat IntKind.u64.bits)) = ((x / 128 : Nat) : Int) := by
  rw [Int.fdiv_eq_ediv_of_nonneg _ (by decide)]
  rfl
theorem xor_ones (a : Nat) (h : a < 18446744073709551616) : a ^^^ 18446744073709551615 = 18446744073709551615 - a := by
  have h1 : (2 : Nat) ^ 64 - 1 = 18446744073709551615 := by decide
  apply Nat.eq_of_testBit_eq
  intro i
  rw [Nat.testBit_xor, ← h1, show 2 ^ 64 - 1 - a = 2 ^ 64 - (a + 1) from by omega, Nat.testBit_two_pow_sub_succ (x := a) (by omega), Nat.testBit_two_pow_sub_one]
  by_cases hi : i < 64
  · simp [hi]
  · have : a.testBit i = false := Nat.testBit_lt_two_pow (Nat.lt_of_lt_of_le (show a < 2 ^ 64 from h) (Nat.pow_le_pow_right (by omega) (by omega)))
    simp [hi, this]
/-- The code's fold of a signed number. -/
theorem zig_code {x : Int} (h1 : -9223372036854775808 ≤ x) (h2 : x ≤ 9223372036854775807) :
    bits .xor .u64 (IntKind.u64.wrap (IntKind.u64.wrap x * 2 ^ (min (1 : Int).toNat IntKind.u64.bits))) (IntKind.u64.wrap (x.fdiv (2 ^ (min (63 : Int).toNat IntKind.i64.bits)))) = (zig x : Int) := by
  have e1 : (2 : Int) ^ (min (1 : Int).toNat IntKind.u64.bits) = 2 := rfl
  have e2 : (2 : Int) ^ (min (63 : Int).toNat IntKind.i64.bits) = 9223372036854775808 := rfl
  rw [e1, e2, Int.fdiv_eq_ediv_of_nonneg _ (by decide)]
  unfold zig
  split
  · rename_i hx
    have a1 : IntKind.u64.wrap (IntKind.u64.wrap x * 2) = (((2 * x).toNat : Nat) : Int) := by rw [wu64, wu64]; omega
    have a2 : IntKind.u64.wrap (x / 9223372036854775808) = ((0 : Nat) : Int) := by rw [wu64]; omega
    rw [a1, a2, bits_xor_u64_nat _ _ (by omega) (by decide), Nat.xor_zero]
  · rename_i hx
    have a1 : IntKind.u64.wrap (IntKind.u64.wrap x * 2) = (((18446744073709551616 + 2 * x).toNat : Nat) : Int) := by rw [wu64, wu64]; omega
    have a2 : IntKind.u64.wrap (x / 9223372036854775808) = ((18446744073709551615 : Nat) : Int) := by rw [wu64]; omega
    rw [a1, a2, bits_xor_u64_nat _ _ (by omega) (by decide), xor_ones _ (by omega)]
    congr 1; omega
end Go.K
