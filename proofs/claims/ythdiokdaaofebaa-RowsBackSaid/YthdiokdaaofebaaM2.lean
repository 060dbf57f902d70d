/-
  M2: a counted number has one form. Plain law, no program. Conditions: none.
-/
import Derived.Test.YthdiokdaaofebaaM1
namespace Go.K
set_option linter.unusedVariables false
set_option linter.unusedSimpArgs false

theorem frontF_form : ∀ (l : List UInt8) (i acc x m : Nat), i ≤ 9 → frontF i acc l = some (x, m) → ∃ y, x = acc + y * 128 ^ i ∧ i < m ∧ cuF (9 - i) y = l.take (m - i) ∧ (i = 0 ∨ 0 < y)
  | [], i, acc, x, m, _, h => by simp [frontF] at h
  | c :: r, i, acc, x, m, hi, h => by
    rw [frontF] at h
    split at h
    · cases h
    · rename_i h1
      have hc256 := c.toNat_lt
      split at h
      · rename_i hlt
        split at h
        · rename_i hpos
          cases h
          refine ⟨c.toNat, by rw [Nat.mod_eq_of_lt hlt], by omega, ?_, hpos.symm.imp id id⟩
          rw [show i + 1 - i = 1 from by omega]
          cases 9 - i with
          | zero => simp [cuF]
          | succ f => simp [cuF, hlt]
        · cases h
      · rename_i hge
        have hi8 : i ≤ 8 := by omega
        obtain ⟨y, e1, e2, e3, e4⟩ := frontF_form r (i + 1) _ x m (by omega) h
        have hy : 0 < y := e4.resolve_left (by omega)
        refine ⟨c.toNat % 128 + 128 * y, ?_, by omega, ?_, .inr (by omega)⟩
        · rw [e1, Nat.pow_succ, Nat.add_mul, Nat.add_assoc]
          congr 2
          rw [Nat.mul_comm (128 ^ i) 128, ← Nat.mul_assoc, Nat.mul_comm y 128]
        · rw [show 9 - i = (9 - (i + 1)) + 1 from by omega, cuF, if_neg (by omega), show m - i = (m - (i + 1)) + 1 from by omega, List.take_succ_cons]
          have a1 : (c.toNat % 128 + 128 * y) % 128 + 128 = c.toNat := by omega
          have a2 : (c.toNat % 128 + 128 * y) / 128 = y := by omega
          rw [a1, a2, e3, UInt8.ofNat_toNat]
/-- What was read at the front is just what is written of it. -/
theorem cu_front {l : List UInt8} {x m : Nat} (h : front l = some (x, m)) : cu x = l.take m := by
  obtain ⟨y, e1, e2, e3, _⟩ := frontF_form l 0 0 x m (by omega) h
  have : x = y := by simpa using e1
  subst this
  simpa [cu] using e3
end Go.K
