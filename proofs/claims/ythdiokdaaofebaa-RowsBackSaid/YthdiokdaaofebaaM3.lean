/-
  M3: the reference's way to a counted number: how many bytes go on, then the number from its end. Plain law, no program. Conditions: none.
-/
import Derived.Test.YthdiokdaaofebaaM2
namespace Go.K
set_option linter.unusedVariables false
set_option linter.unusedSimpArgs false

/-- A number of its sevens, the lowest first. -/
def num7 : List UInt8 → Nat
  | [] => 0
  | c :: r => c.toNat % 128 + 128 * num7 r
theorem num7_lt : ∀ l : List UInt8, num7 l < 128 ^ l.length
  | [] => by simp [num7]
  | c :: r => by
    have h := num7_lt r
    have hc : c.toNat % 128 < 128 := Nat.mod_lt _ (by omega)
    rw [num7, List.length_cons, Nat.pow_succ]
    omega
theorem num7_drop_le : ∀ (l : List UInt8) (i : Nat), num7 (l.drop i) ≤ num7 l
  | l, 0 => Nat.le_refl _
  | [], i + 1 => Nat.le_refl _
  | c :: r, i + 1 => by
    have h := num7_drop_le r i
    rw [List.drop_succ_cons, num7]
    omega
/-- The byte where it ends is not fit. -/
def badEnd (i : Nat) (l : List UInt8) (n : Nat) : Prop := match l[n]? with
  | none => True
  | some c => 9 < i + n ∨ (i + n = 9 ∧ 1 < c.toNat) ∨ (0 < i + n ∧ c.toNat = 0)
theorem frontF_bad : ∀ (n : Nat) (l : List UInt8) (i acc : Nat), i ≤ 10 → (∀ k c, k < n → l[k]? = some c → 128 ≤ c.toNat) → (∀ c, l[n]? = some c → c.toNat < 128) → badEnd i l n → frontF i acc l = none
  | n, [], i, acc, _, _, _, _ => rfl
  | 0, c :: r, i, acc, hi, _, he, hb => by
    have hc := he c rfl
    unfold badEnd at hb
    simp at hb
    rw [frontF]
    split
    · rfl
    · rename_i h1
      first | rw [if_pos hc, if_neg (by omega)] | rw [if_neg (by omega)]
  | n + 1, c :: r, i, acc, hi, hg, he, hb => by
    have hc := hg 0 c (by omega) rfl
    rw [frontF]
    split
    · rfl
    · rename_i h1
      rw [if_neg (by omega)]
      refine frontF_bad n r (i + 1) _ (by omega) (fun k d hk hd => hg (k + 1) d (by omega) (by simpa using hd)) (fun d hd => he d (by simpa using hd)) ?_
      unfold badEnd at hb ⊢
      simp only [List.getElem?_cons_succ] at hb
      cases h : r[n]? with
      | none => trivial
      | some d =>
        simp only [h] at hb ⊢
        omega
theorem frontF_good : ∀ (n : Nat) (l : List UInt8) (i acc : Nat) (c : UInt8), (∀ k c, k < n → l[k]? = some c → 128 ≤ c.toNat) → l[n]? = some c → c.toNat < 128 → ¬ badEnd i l n → frontF i acc l = some (acc + num7 (l.take (n + 1)) * 128 ^ i, i + n + 1)
  | n, [], i, acc, c, _, hn, _, _ => by simp at hn
  | 0, d :: r, i, acc, c, _, hn, hc, hb => by
    simp at hn
    subst hn
    unfold badEnd at hb
    simp at hb
    rw [frontF, if_neg (by omega), if_pos hc, if_pos (by omega)]
    simp [num7]
  | n + 1, d :: r, i, acc, c, hg, hn, hc, hb => by
    have hd := hg 0 d (by omega) rfl
    have hn' : r[n]? = some c := by simpa using hn
    have hb' : ¬ badEnd (i + 1) r n := by
      unfold badEnd at hb ⊢
      simp only [List.getElem?_cons_succ, hn'] at hb ⊢
      omega
    have hi9 : i + 1 + n ≤ 9 := by
      unfold badEnd at hb'
      simp only [hn'] at hb'
      omega
    rw [frontF, if_neg (by omega), if_neg (by omega), frontF_good n r (i + 1) _ c (fun k e hk he => hg (k + 1) e (by omega) (by simpa using he)) hn' hc hb', List.take_succ_cons, num7]
    congr 1
    rw [Prod.mk.injEq]
    refine ⟨?_, by omega⟩
    rw [Nat.pow_succ, Nat.add_mul, Nat.add_assoc]
    congr 2
    rw [Nat.mul_comm (128 ^ i) 128, ← Nat.mul_assoc, Nat.mul_comm 128 (num7 _)]
/-- What the front is, off the number of bytes that go on. -/
theorem front_bad {l : List UInt8} {n : Nat} (hg : ∀ k c, k < n → l[k]? = some c → 128 ≤ c.toNat) (he : ∀ c, l[n]? = some c → c.toNat < 128) (hb : badEnd 0 l n) : front l = none := frontF_bad n l 0 0 (by omega) hg he hb
theorem front_good {l : List UInt8} {n : Nat} {c : UInt8} (hg : ∀ k c, k < n → l[k]? = some c → 128 ≤ c.toNat) (hn : l[n]? = some c) (hc : c.toNat < 128) (hb : ¬ badEnd 0 l n) : front l = some (num7 (l.take (n + 1)), n + 1) := by
  have := frontF_good n l 0 0 c hg hn hc hb
  simpa [front] using this
theorem num7_take {l : List UInt8} {j : Nat} {c : UInt8} (hc : l[j]? = some c) (m : Nat) (hm : j < m) : num7 ((l.take m).drop j) = c.toNat % 128 + 128 * num7 ((l.take m).drop (j + 1)) := by
  have h1 : (l.take m)[j]? = some c := by rw [List.getElem?_take, if_pos hm, hc]
  obtain ⟨hlt, he⟩ := List.getElem?_eq_some_iff.1 h1
  rw [List.drop_eq_getElem_cons hlt, he, num7]
theorem leNum_drop {l : List UInt8} {j : Nat} {c : UInt8} (hc : l[j]? = some c) : leNum (l.drop j) = c.toNat + 256 * leNum (l.drop (j + 1)) := by
  obtain ⟨hlt, he⟩ := List.getElem?_eq_some_iff.1 hc
  rw [List.drop_eq_getElem_cons hlt, he, leNum]
end Go.K
