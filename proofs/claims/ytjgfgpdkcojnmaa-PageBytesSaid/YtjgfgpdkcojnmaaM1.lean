/-
  M1: plain laws of numbers in bytes, no program in sight. Conditions: each theorem's own.
-/
import Derived.Test.YtjgfgpdkcojnmaaK6
namespace Go.K
set_option linter.unusedVariables false
set_option linter.unusedSimpArgs false

/-- The number of these bytes, the least first. -/
def leNum : List UInt8 → Nat
  | [] => 0
  | c :: r => c.toNat + 256 * leNum r
theorem leNum_lt : ∀ l : List UInt8, leNum l < 256 ^ l.length
  | [] => by simp [leNum]
  | c :: r => by
    have := leNum_lt r
    have hc := c.toNat_lt
    rw [leNum, List.length_cons, Nat.pow_succ]
    omega
theorem leNum_snoc : ∀ (l : List UInt8) (c : UInt8), leNum (l ++ [c]) = leNum l + c.toNat * 256 ^ l.length
  | [], c => by simp [leNum]
  | x :: r, c => by
    rw [List.cons_append, leNum, leNum_snoc r c, leNum, List.length_cons, Nat.pow_succ, Nat.mul_add]
    have : 256 * (c.toNat * 256 ^ r.length) = c.toNat * (256 ^ r.length * 256) := by
      rw [Nat.mul_left_comm, Nat.mul_comm 256]
    omega
theorem leNum_lebs : ∀ (m x : Nat), x < 256 ^ m → leNum (lebs x m) = x
  | 0, x, h => by simp at h; simp [lebs, leNum, h]
  | m + 1, x, h => by
    rw [lebs, leNum, leNum_lebs m (x / 256) (by rw [Nat.pow_succ] at h; exact Nat.div_lt_of_lt_mul (by rw [Nat.mul_comm]; exact h))]
    simp
    omega
theorem lebs_leNum : ∀ l : List UInt8, lebs (leNum l) l.length = l
  | [] => rfl
  | c :: r => by
    have hc := c.toNat_lt
    rw [leNum, List.length_cons, lebs]
    rw [show (c.toNat + 256 * leNum r) / 256 = leNum r from by omega, lebs_leNum r]
    congr 1
    rw [show (c.toNat + 256 * leNum r) % 256 = c.toNat from by omega]
    simp

theorem u8_of {x : Nat} (h : x < 256) : u8 (UInt8.ofNat x) = .int .u8 (x : Int) := by
  simp [u8]; omega
/-- One byte more of a number that is put together: a shift and an or. -/
theorem or_shift (x c i : Nat) (w : Nat) (hx : x < 2 ^ i) (hw : c < 2 ^ w) (h64 : i + w ≤ 64) :
    bits .or .u64 (x : Int) (IntKind.u64.wrap ((c : Int) * 2 ^ (min ((i : Int)).toNat IntKind.u64.bits))) = ((x + c * 2 ^ i : Nat) : Int) := by
  have hm : min ((i : Int)).toNat IntKind.u64.bits = i := by simp [IntKind.bits]; omega
  have hpow : (2 : Nat) ^ i * 2 ^ w ≤ 2 ^ 64 := by rw [← Nat.pow_add]; exact Nat.pow_le_pow_right (by omega) h64
  have hc : c * 2 ^ i < 2 ^ 64 := by
    have : c * 2 ^ i < 2 ^ w * 2 ^ i := Nat.mul_lt_mul_of_pos_right hw (Nat.two_pow_pos i)
    rw [Nat.mul_comm (2 ^ w)] at this
    omega
  have e1 : IntKind.u64.wrap ((c : Int) * 2 ^ i) = ((c * 2 ^ i : Nat) : Int) := by
    rw [wu64]
    have : ((c : Int) * 2 ^ i) = ((c * 2 ^ i : Nat) : Int) := by simp
    rw [this]
    have h2 : (2 : Nat) ^ 64 = 18446744073709551616 := by decide
    omega
  rw [hm, e1, u64_or_nat _ _ (by
    have h2 : (2 : Nat) ^ 64 = 18446744073709551616 := by decide
    have : (2 : Nat) ^ i ≤ 2 ^ 64 := Nat.pow_le_pow_right (by omega) (by omega)
    omega) (by
    have h2 : (2 : Nat) ^ 64 = 18446744073709551616 := by decide
    omega)]
  congr 1
  have := nat_join i (c * 2 ^ i) x (Nat.mul_mod_left _ _) hx
  rw [Nat.or_comm, this, Nat.add_comm]
theorem and127 (c : UInt8) : bits .and .u8 (c.toNat : Int) 127 = ((c.toNat % 128 : Nat) : Int) := by
  rw [show (127 : Int) = ((127 : Nat) : Int) from rfl, u8_and_nat _ _ c.toNat_lt (by omega), nat_mask7]

/-- The counted number at the front: its value, and how many bytes it has. -/
def frontF : Nat → Nat → List UInt8 → Option (Nat × Nat)
  | _, _, [] => none
  | i, acc, c :: r =>
    if i = 10 ∨ (i = 9 ∧ 1 < c.toNat) then none
    else if c.toNat < 128 then (if 0 < c.toNat ∨ i = 0 then some (acc + c.toNat % 128 * 128 ^ i, i + 1) else none)
    else frontF (i + 1) (acc + c.toNat % 128 * 128 ^ i) r
def front (l : List UInt8) : Option (Nat × Nat) := frontF 0 0 l
theorem frontF_le : ∀ (l : List UInt8) (i acc x m : Nat), i ≤ 10 → frontF i acc l = some (x, m) → i < m ∧ m ≤ i + l.length ∧ m ≤ 10
  | [], i, acc, x, m, _, h => by simp [frontF] at h
  | c :: r, i, acc, x, m, hi, h => by
    rw [frontF] at h
    split at h
    · cases h
    · rename_i h1
      split at h
      · split at h
        · cases h
          simp; omega
        · cases h
      · have := frontF_le r (i + 1) _ x m (by omega) h
        simp; omega
theorem front_le {l : List UInt8} {x m : Nat} (h : front l = some (x, m)) : 1 ≤ m ∧ m ≤ l.length ∧ m ≤ 10 := by
  have := frontF_le l 0 0 x m (by omega) h
  omega
theorem frontF_lt : ∀ (l : List UInt8) (i acc x m : Nat), i ≤ 10 → acc < 128 ^ i → (i = 10 → acc < 18446744073709551616) → frontF i acc l = some (x, m) → x < 18446744073709551616
  | [], i, acc, x, m, _, _, _, h => by simp [frontF] at h
  | c :: r, i, acc, x, m, hi, ha, ha2, h => by
    rw [frontF] at h
    split at h
    · cases h
    · rename_i h1
      have hc : c.toNat % 128 < 128 := Nat.mod_lt _ (by omega)
      have hstep : acc + c.toNat % 128 * 128 ^ i < 128 ^ (i + 1) := by
        rw [Nat.pow_succ]
        have : c.toNat % 128 * 128 ^ i ≤ 127 * 128 ^ i := Nat.mul_le_mul_right _ (by omega)
        omega
      have h9 : i = 9 → acc + c.toNat % 128 * 128 ^ i < 18446744073709551616 := fun e => by
        subst e
        have hc1 : c.toNat ≤ 1 := by omega
        have : c.toNat % 128 ≤ 1 := by omega
        have : c.toNat % 128 * 128 ^ 9 ≤ 1 * 128 ^ 9 := Nat.mul_le_mul_right _ this
        have e9 : (128 : Nat) ^ 9 = 9223372036854775808 := by decide
        omega
      have hle : i ≤ 8 → acc + c.toNat % 128 * 128 ^ i < 18446744073709551616 := fun e => by
        have : (128 : Nat) ^ (i + 1) ≤ 128 ^ 9 := Nat.pow_le_pow_right (by omega) (by omega)
        have e9 : (128 : Nat) ^ 9 = 9223372036854775808 := by decide
        omega
      split at h
      · split at h
        · cases h
          rcases Nat.lt_or_ge i 9 with h' | h'
          · exact hle (by omega)
          · exact h9 (by omega)
        · cases h
      · refine frontF_lt r (i + 1) _ x m (by omega) hstep (fun e => h9 (by omega)) h
theorem front_lt {l : List UInt8} {x m : Nat} (h : front l = some (x, m)) : x < 18446744073709551616 := frontF_lt l 0 0 x m (by omega) (by simp) (by omega) h
theorem frontF_cu : ∀ (f i acc x : Nat) (r : List UInt8), f + i ≤ 9 → x < 128 ^ (f + 1) → (i + f = 9 → x / 128 ^ f ≤ 1) → (i = 0 ∨ 0 < x) → frontF i acc (cuF f x ++ r) = some (acc + x * 128 ^ i, i + (cuF f x).length)
  | 0, i, acc, x, r, hi, hx, h9, h0 => by
    simp at hx
    rw [cuF, List.singleton_append, frontF]
    have hc : (UInt8.ofNat x).toNat = x := by simp; omega
    rw [hc, if_neg (by intro h; rcases h with h | h; omega; have := h9 (by omega); simp at this; omega), if_pos hx, if_pos (by omega), Nat.mod_eq_of_lt hx]
    simp
  | f + 1, i, acc, x, r, hi, hx, h9, h0 => by
    rw [cuF]
    by_cases hlt : x < 128
    · rw [if_pos hlt, List.singleton_append, frontF]
      have hc : (UInt8.ofNat x).toNat = x := by simp; omega
      rw [hc, if_neg (by omega), if_pos hlt, if_pos (by omega), Nat.mod_eq_of_lt hlt]
      simp
    · rw [if_neg hlt, List.cons_append, frontF]
      have hc : (UInt8.ofNat (x % 128 + 128)).toNat = x % 128 + 128 := by simp; omega
      rw [hc, if_neg (by omega), if_neg (by omega)]
      rw [frontF_cu f (i + 1) _ (x / 128) r (by omega) (by rw [Nat.pow_succ] at hx; exact Nat.div_lt_of_lt_mul (by rw [Nat.mul_comm]; exact hx)) (fun e => by
        have := h9 (by omega)
        rwa [Nat.div_div_eq_div_mul, Nat.mul_comm, ← Nat.pow_succ]) (.inr (by omega))]
      congr 1
      rw [Prod.mk.injEq]
      constructor
      · rw [Nat.add_mod_right, Nat.mod_mod, Nat.pow_succ, Nat.add_assoc, ← Nat.mul_assoc]
        congr 1
        rw [Nat.mul_right_comm, ← Nat.add_mul]
        congr 1
        omega
      · simp; omega
theorem front_cu (x : Nat) (hx : x < 18446744073709551616) (r : List UInt8) : front (cu x ++ r) = some (x, (cu x).length) := by
  have := frontF_cu 9 0 0 x r (by omega) (Nat.lt_of_lt_of_le hx (by decide)) (fun _ => by
    have e9 : (128 : Nat) ^ 9 = 9223372036854775808 := by decide
    rw [e9]; omega) (.inl rfl)
  simpa [front, cu] using this
/-- The signed number of a counted one. -/
def unzig (x : Nat) : Int := if x % 2 = 0 then ((x / 2 : Nat) : Int) else -((x / 2 : Nat) : Int) - 1
theorem unzig_zig {x : Int} : unzig (zig x) = x := by unfold unzig zig; split <;> split <;> omega
theorem zig_unzig {x : Nat} : zig (unzig x) = x := by unfold unzig zig; split <;> split <;> omega
theorem unzig_in {x : Nat} (h : x < 18446744073709551616) : -9223372036854775808 ≤ unzig x ∧ unzig x ≤ 9223372036854775807 := by unfold unzig; split <;> omega
end Go.K
