/-
  MX: the texts M1 M2 M3 in one. Conditions: each theorem's own.
-/
import Derived.Test.YtkdngpiiecmpgaaGreatKX
/-! M1: plain laws of numbers in bytes, no program in sight. Conditions: each theorem's own. -/
namespace Go.K
set_option linter.unusedVariables false
set_option linter.unusedSimpArgs false

/-- The number of these bytes, the least first. -/
def leNum : List UInt8 → Nat
  | [] => 0
  | c :: r => c.toNat + 256 * leNum r
theorem leNum_lt : ∀ l : List UInt8, leNum l < 256 ^ l.length
  | [] => by simp [leNum]
  | c :: r => by
    have := leNum_lt r
    have hc := c.toNat_lt
    rw [leNum, List.length_cons, Nat.pow_succ]
    omega
theorem leNum_snoc : ∀ (l : List UInt8) (c : UInt8), leNum (l ++ [c]) = leNum l + c.toNat * 256 ^ l.length
  | [], c => by simp [leNum]
  | x :: r, c => by
    rw [List.cons_append, leNum, leNum_snoc r c, leNum, List.length_cons, Nat.pow_succ, Nat.mul_add]
    have : 256 * (c.toNat * 256 ^ r.length) = c.toNat * (256 ^ r.length * 256) := by
      rw [Nat.mul_left_comm, Nat.mul_comm 256]
    omega
theorem leNum_lebs : ∀ (m x : Nat), x < 256 ^ m → leNum (lebs x m) = x
  | 0, x, h => by simp at h; simp [lebs, leNum, h]
  | m + 1, x, h => by
    rw [lebs, leNum, leNum_lebs m (x / 256) (by rw [Nat.pow_succ] at h; exact Nat.div_lt_of_lt_mul (by rw [Nat.mul_comm]; exact h))]
    simp
    omega
theorem lebs_leNum : ∀ l : List UInt8, lebs (leNum l) l.length = l
  | [] => rfl
  | c :: r => by
    have hc := c.toNat_lt
    rw [leNum, List.length_cons, lebs]
    rw [show (c.toNat + 256 * leNum r) / 256 = leNum r from by omega, lebs_leNum r]
    congr 1
    rw [show (c.toNat + 256 * leNum r) % 256 = c.toNat from by omega]
    simp

theorem u8_of {x : Nat} (h : x < 256) : u8 (UInt8.ofNat x) = .int .u8 (x : Int) := by
  simp [u8]; omega
/-- One byte more of a number that is put together: a shift and an or. -/
theorem or_shift (x c i : Nat) (w : Nat) (hx : x < 2 ^ i) (hw : c < 2 ^ w) (h64 : i + w ≤ 64) :
    bits .or .u64 (x : Int) (IntKind.u64.wrap ((c : Int) * 2 ^ (min ((i : Int)).toNat IntKind.u64.bits))) = ((x + c * 2 ^ i : Nat) : Int) := by
  have hm : min ((i : Int)).toNat IntKind.u64.bits = i := by simp [IntKind.bits]; omega
  have hpow : (2 : Nat) ^ i * 2 ^ w ≤ 2 ^ 64 := by rw [← Nat.pow_add]; exact Nat.pow_le_pow_right (by omega) h64
  have hc : c * 2 ^ i < 2 ^ 64 := by
    have : c * 2 ^ i < 2 ^ w * 2 ^ i := Nat.mul_lt_mul_of_pos_right hw (Nat.two_pow_pos i)
    rw [Nat.mul_comm (2 ^ w)] at this
    omega
  have e1 : IntKind.u64.wrap ((c : Int) * 2 ^ i) = ((c * 2 ^ i : Nat) : Int) := by
    rw [wu64]
    have : ((c : Int) * 2 ^ i) = ((c * 2 ^ i : Nat) : Int) := by simp
    rw [this]
    have h2 : (2 : Nat) ^ 64 = 18446744073709551616 := by decide
    omega
  rw [hm, e1, u64_or_nat _ _ (by
    have h2 : (2 : Nat) ^ 64 = 18446744073709551616 := by decide
    have : (2 : Nat) ^ i ≤ 2 ^ 64 := Nat.pow_le_pow_right (by omega) (by omega)
    omega) (by
    have h2 : (2 : Nat) ^ 64 = 18446744073709551616 := by decide
    omega)]
  congr 1
  have := nat_join i (c * 2 ^ i) x (Nat.mul_mod_left _ _) hx
  rw [Nat.or_comm, this, Nat.add_comm]
theorem and127 (c : UInt8) : bits .and .u8 (c.toNat : Int) 127 = ((c.toNat % 128 : Nat) : Int) := by
  rw [show (127 : Int) = ((127 : Nat) : Int) from rfl, u8_and_nat _ _ c.toNat_lt (by omega), nat_mask7]

/-- The counted number at the front: its value, and how many bytes it has. -/
def frontF : Nat → Nat → List UInt8 → Option (Nat × Nat)
  | _, _, [] => none
  | i, acc, c :: r =>
    if i = 10 ∨ (i = 9 ∧ 1 < c.toNat) then none
    else if c.toNat < 128 then (if 0 < c.toNat ∨ i = 0 then some (acc + c.toNat % 128 * 128 ^ i, i + 1) else none)
    else frontF (i + 1) (acc + c.toNat % 128 * 128 ^ i) r
def front (l : List UInt8) : Option (Nat × Nat) := frontF 0 0 l
theorem frontF_le : ∀ (l : List UInt8) (i acc x m : Nat), i ≤ 10 → frontF i acc l = some (x, m) → i < m ∧ m ≤ i + l.length ∧ m ≤ 10
  | [], i, acc, x, m, _, h => by simp [frontF] at h
  | c :: r, i, acc, x, m, hi, h => by
    rw [frontF] at h
    split at h
    · cases h
    · rename_i h1
      split at h
      · split at h
        · cases h
          simp; omega
        · cases h
      · have := frontF_le r (i + 1) _ x m (by omega) h
        simp; omega
theorem front_le {l : List UInt8} {x m : Nat} (h : front l = some (x, m)) : 1 ≤ m ∧ m ≤ l.length ∧ m ≤ 10 := by
  have := frontF_le l 0 0 x m (by omega) h
  omega
theorem frontF_lt : ∀ (l : List UInt8) (i acc x m : Nat), i ≤ 10 → acc < 128 ^ i → (i = 10 → acc < 18446744073709551616) → frontF i acc l = some (x, m) → x < 18446744073709551616
  | [], i, acc, x, m, _, _, _, h => by simp [frontF] at h
  | c :: r, i, acc, x, m, hi, ha, ha2, h => by
    rw [frontF] at h
    split at h
    · cases h
    · rename_i h1
      have hc : c.toNat % 128 < 128 := Nat.mod_lt _ (by omega)
      have hstep : acc + c.toNat % 128 * 128 ^ i < 128 ^ (i + 1) := by
        rw [Nat.pow_succ]
        have : c.toNat % 128 * 128 ^ i ≤ 127 * 128 ^ i := Nat.mul_le_mul_right _ (by omega)
        omega
      have h9 : i = 9 → acc + c.toNat % 128 * 128 ^ i < 18446744073709551616 := fun e => by
        subst e
        have hc1 : c.toNat ≤ 1 := by omega
        have : c.toNat % 128 ≤ 1 := by omega
        have : c.toNat % 128 * 128 ^ 9 ≤ 1 * 128 ^ 9 := Nat.mul_le_mul_right _ this
        have e9 : (128 : Nat) ^ 9 = 9223372036854775808 := by decide
        omega
      have hle : i ≤ 8 → acc + c.toNat % 128 * 128 ^ i < 18446744073709551616 := fun e => by
        have : (128 : Nat) ^ (i + 1) ≤ 128 ^ 9 := Nat.pow_le_pow_right (by omega) (by omega)
        have e9 : (128 : Nat) ^ 9 = 9223372036854775808 := by decide
        omega
      split at h
      · split at h
        · cases h
          rcases Nat.lt_or_ge i 9 with h' | h'
          · exact hle (by omega)
          · exact h9 (by omega)
        · cases h
      · refine frontF_lt r (i + 1) _ x m (by omega) hstep (fun e => h9 (by omega)) h
theorem front_lt {l : List UInt8} {x m : Nat} (h : front l = some (x, m)) : x < 18446744073709551616 := frontF_lt l 0 0 x m (by omega) (by simp) (by omega) h
theorem frontF_cu : ∀ (f i acc x : Nat) (r : List UInt8), f + i ≤ 9 → x < 128 ^ (f + 1) → (i + f = 9 → x / 128 ^ f ≤ 1) → (i = 0 ∨ 0 < x) → frontF i acc (cuF f x ++ r) = some (acc + x * 128 ^ i, i + (cuF f x).length)
  | 0, i, acc, x, r, hi, hx, h9, h0 => by
    simp at hx
    rw [cuF, List.singleton_append, frontF]
    have hc : (UInt8.ofNat x).toNat = x := by simp; omega
    rw [hc, if_neg (by intro h; rcases h with h | h; omega; have := h9 (by omega); simp at this; omega), if_pos hx, if_pos (by omega), Nat.mod_eq_of_lt hx]
    simp
  | f + 1, i, acc, x, r, hi, hx, h9, h0 => by
    rw [cuF]
    by_cases hlt : x < 128
    · rw [if_pos hlt, List.singleton_append, frontF]
      have hc : (UInt8.ofNat x).toNat = x := by simp; omega
      rw [hc, if_neg (by omega), if_pos hlt, if_pos (by omega), Nat.mod_eq_of_lt hlt]
      simp
    · rw [if_neg hlt, List.cons_append, frontF]
      have hc : (UInt8.ofNat (x % 128 + 128)).toNat = x % 128 + 128 := by simp; omega
      rw [hc, if_neg (by omega), if_neg (by omega)]
      rw [frontF_cu f (i + 1) _ (x / 128) r (by omega) (by rw [Nat.pow_succ] at hx; exact Nat.div_lt_of_lt_mul (by rw [Nat.mul_comm]; exact hx)) (fun e => by
        have := h9 (by omega)
        rwa [Nat.div_div_eq_div_mul, Nat.mul_comm, ← Nat.pow_succ]) (.inr (by omega))]
      congr 1
      rw [Prod.mk.injEq]
      constructor
      · rw [Nat.add_mod_right, Nat.mod_mod, Nat.pow_succ, Nat.add_assoc, ← Nat.mul_assoc]
        congr 1
        rw [Nat.mul_right_comm, ← Nat.add_mul]
        congr 1
        omega
      · simp; omega
theorem front_cu (x : Nat) (hx : x < 18446744073709551616) (r : List UInt8) : front (cu x ++ r) = some (x, (cu x).length) := by
  have := frontF_cu 9 0 0 x r (by omega) (Nat.lt_of_lt_of_le hx (by decide)) (fun _ => by
    have e9 : (128 : Nat) ^ 9 = 9223372036854775808 := by decide
    rw [e9]; omega) (.inl rfl)
  simpa [front, cu] using this
/-- The signed number of a counted one. -/
def unzig (x : Nat) : Int := if x % 2 = 0 then ((x / 2 : Nat) : Int) else -((x / 2 : Nat) : Int) - 1
theorem unzig_zig {x : Int} : unzig (zig x) = x := by unfold unzig zig; split <;> split <;> omega
theorem zig_unzig {x : Nat} : zig (unzig x) = x := by unfold unzig zig; split <;> split <;> omega
theorem unzig_in {x : Nat} (h : x < 18446744073709551616) : -9223372036854775808 ≤ unzig x ∧ unzig x ≤ 9223372036854775807 := by unfold unzig; split <;> omega
end Go.K

/-! M2: a counted number has one form. Plain law, no program. Conditions: none. -/
namespace Go.K
set_option linter.unusedVariables false
set_option linter.unusedSimpArgs false

theorem frontF_form : ∀ (l : List UInt8) (i acc x m : Nat), i ≤ 9 → frontF i acc l = some (x, m) → ∃ y, x = acc + y * 128 ^ i ∧ i < m ∧ cuF (9 - i) y = l.take (m - i) ∧ (i = 0 ∨ 0 < y)
  | [], i, acc, x, m, _, h => by simp [frontF] at h
  | c :: r, i, acc, x, m, hi, h => by
    rw [frontF] at h
    split at h
    · cases h
    · rename_i h1
      have hc256 := c.toNat_lt
      split at h
      · rename_i hlt
        split at h
        · rename_i hpos
          cases h
          refine ⟨c.toNat, by rw [Nat.mod_eq_of_lt hlt], by omega, ?_, hpos.symm.imp id id⟩
          rw [show i + 1 - i = 1 from by omega]
          cases 9 - i with
          | zero => simp [cuF]
          | succ f => simp [cuF, hlt]
        · cases h
      · rename_i hge
        have hi8 : i ≤ 8 := by omega
        obtain ⟨y, e1, e2, e3, e4⟩ := frontF_form r (i + 1) _ x m (by omega) h
        have hy : 0 < y := e4.resolve_left (by omega)
        refine ⟨c.toNat % 128 + 128 * y, ?_, by omega, ?_, .inr (by omega)⟩
        · rw [e1, Nat.pow_succ, Nat.add_mul, Nat.add_assoc]
          congr 2
          rw [Nat.mul_comm (128 ^ i) 128, ← Nat.mul_assoc, Nat.mul_comm y 128]
        · rw [show 9 - i = (9 - (i + 1)) + 1 from by omega, cuF, if_neg (by omega), show m - i = (m - (i + 1)) + 1 from by omega, List.take_succ_cons]
          have a1 : (c.toNat % 128 + 128 * y) % 128 + 128 = c.toNat := by omega
          have a2 : (c.toNat % 128 + 128 * y) / 128 = y := by omega
          rw [a1, a2, e3, UInt8.ofNat_toNat]
/-- What was read at the front is just what is written of it. -/
theorem cu_front {l : List UInt8} {x m : Nat} (h : front l = some (x, m)) : cu x = l.take m := by
  obtain ⟨y, e1, e2, e3, _⟩ := frontF_form l 0 0 x m (by omega) h
  have : x = y := by simpa using e1
  subst this
  simpa [cu] using e3
end Go.K

/-! M3: the reference's way to a counted number: how many bytes go on, then the number from its end. Plain law, no program. Conditions: none. -/
namespace Go.K
set_option linter.unusedVariables false
set_option linter.unusedSimpArgs false

/-- A number of its sevens, the lowest first. -/
def num7 : List UInt8 → Nat
  | [] => 0
  | c :: r => c.toNat % 128 + 128 * num7 r
theorem num7_lt : ∀ l : List UInt8, num7 l < 128 ^ l.length
  | [] => by simp [num7]
  | c :: r => by
    have h := num7_lt r
    have hc : c.toNat % 128 < 128 := Nat.mod_lt _ (by omega)
    rw [num7, List.length_cons, Nat.pow_succ]
    omega
theorem num7_drop_le : ∀ (l : List UInt8) (i : Nat), num7 (l.drop i) ≤ num7 l
  | l, 0 => Nat.le_refl _
  | [], i + 1 => Nat.le_refl _
  | c :: r, i + 1 => by
    have h := num7_drop_le r i
    rw [List.drop_succ_cons, num7]
    omega
/-- The byte where it ends is not fit. -/
def badEnd (i : Nat) (l : List UInt8) (n : Nat) : Prop := match l[n]? with
  | none => True
  | some c => 9 < i + n ∨ (i + n = 9 ∧ 1 < c.toNat) ∨ (0 < i + n ∧ c.toNat = 0)
theorem frontF_bad : ∀ (n : Nat) (l : List UInt8) (i acc : Nat), i ≤ 10 → (∀ k c, k < n → l[k]? = some c → 128 ≤ c.toNat) → (∀ c, l[n]? = some c → c.toNat < 128) → badEnd i l n → frontF i acc l = none
  | n, [], i, acc, _, _, _, _ => rfl
  | 0, c :: r, i, acc, hi, _, he, hb => by
    have hc := he c rfl
    unfold badEnd at hb
    simp at hb
    rw [frontF]
    split
    · rfl
    · rename_i h1
      first | rw [if_pos hc, if_neg (by omega)] | rw [if_neg (by omega)]
  | n + 1, c :: r, i, acc, hi, hg, he, hb => by
    have hc := hg 0 c (by omega) rfl
    rw [frontF]
    split
    · rfl
    · rename_i h1
      rw [if_neg (by omega)]
      refine frontF_bad n r (i + 1) _ (by omega) (fun k d hk hd => hg (k + 1) d (by omega) (by simpa using hd)) (fun d hd => he d (by simpa using hd)) ?_
      unfold badEnd at hb ⊢
      simp only [List.getElem?_cons_succ] at hb
      cases h : r[n]? with
      | none => trivial
      | some d =>
        simp only [h] at hb ⊢
        omega
theorem frontF_good : ∀ (n : Nat) (l : List UInt8) (i acc : Nat) (c : UInt8), (∀ k c, k < n → l[k]? = some c → 128 ≤ c.toNat) → l[n]? = some c → c.toNat < 128 → ¬ badEnd i l n → frontF i acc l = some (acc + num7 (l.take (n + 1)) * 128 ^ i, i + n + 1)
  | n, [], i, acc, c, _, hn, _, _ => by simp at hn
  | 0, d :: r, i, acc, c, _, hn, hc, hb => by
    simp at hn
    subst hn
    unfold badEnd at hb
    simp at hb
    rw [frontF, if_neg (by omega), if_pos hc, if_pos (by omega)]
    simp [num7]
  | n + 1, d :: r, i, acc, c, hg, hn, hc, hb => by
    have hd := hg 0 d (by omega) rfl
    have hn' : r[n]? = some c := by simpa using hn
    have hb' : ¬ badEnd (i + 1) r n := by
      unfold badEnd at hb ⊢
      simp only [List.getElem?_cons_succ, hn'] at hb ⊢
      omega
    have hi9 : i + 1 + n ≤ 9 := by
      unfold badEnd at hb'
      simp only [hn'] at hb'
      omega
    rw [frontF, if_neg (by omega), if_neg (by omega), frontF_good n r (i + 1) _ c (fun k e hk he => hg (k + 1) e (by omega) (by simpa using he)) hn' hc hb', List.take_succ_cons, num7]
    congr 1
    rw [Prod.mk.injEq]
    refine ⟨?_, by omega⟩
    rw [Nat.pow_succ, Nat.add_mul, Nat.add_assoc]
    congr 2
    rw [Nat.mul_comm (128 ^ i) 128, ← Nat.mul_assoc, Nat.mul_comm 128 (num7 _)]
/-- What the front is, off the number of bytes that go on. -/
theorem front_bad {l : List UInt8} {n : Nat} (hg : ∀ k c, k < n → l[k]? = some c → 128 ≤ c.toNat) (he : ∀ c, l[n]? = some c → c.toNat < 128) (hb : badEnd 0 l n) : front l = none := frontF_bad n l 0 0 (by omega) hg he hb
theorem front_good {l : List UInt8} {n : Nat} {c : UInt8} (hg : ∀ k c, k < n → l[k]? = some c → 128 ≤ c.toNat) (hn : l[n]? = some c) (hc : c.toNat < 128) (hb : ¬ badEnd 0 l n) : front l = some (num7 (l.take (n + 1)), n + 1) := by
  have := frontF_good n l 0 0 c hg hn hc hb
  simpa [front] using this
theorem num7_take {l : List UInt8} {j : Nat} {c : UInt8} (hc : l[j]? = some c) (m : Nat) (hm : j < m) : num7 ((l.take m).drop j) = c.toNat % 128 + 128 * num7 ((l.take m).drop (j + 1)) := by
  have h1 : (l.take m)[j]? = some c := by rw [List.getElem?_take, if_pos hm, hc]
  obtain ⟨hlt, he⟩ := List.getElem?_eq_some_iff.1 h1
  rw [List.drop_eq_getElem_cons hlt, he, num7]
theorem leNum_drop {l : List UInt8} {j : Nat} {c : UInt8} (hc : l[j]? = some c) : leNum (l.drop j) = c.toNat + 256 * leNum (l.drop (j + 1)) := by
  obtain ⟨hlt, he⟩ := List.getElem?_eq_some_iff.1 hc
  rw [List.drop_eq_getElem_cons hlt, he, leNum]
end Go.K
