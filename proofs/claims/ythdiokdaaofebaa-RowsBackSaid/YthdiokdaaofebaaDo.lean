/-
  Rows, the plain side of decoding: what a text is read as, step by step. Conditions: each theorem's own.
-/
import Derived.Test.YthdiokdaaofebaaDn

namespace Go.Proofs.Ythdiokdaaofebaa.Rw
open Go Go.K Go.Proofs Go.Proofs.Ythdiokdaaofebaa
set_option linter.unusedVariables false
set_option linter.unusedSimpArgs false
set_option maxRecDepth 10000

/-- What is read so far cannot become a row. -/
def badP (q : List Val × Bool × List UInt8) : Prop := q.2.1 = false ∨ ∃ v ∈ q.1, okV v = false
theorem found_false (rem : List UInt8) : Cc.found false rem = none := rfl
theorem rdV_false (k : Int) (rem : List UInt8) : (rdV k false rem).2.1 = false := by
  unfold rdV
  split
  · rw [found_false]; rfl
  split
  · unfold Cc.txt; rw [found_false]; rfl
  · rfl
theorem bad_step {b : List UInt8} {l : List Col} {j : Nat} {ok : Bool} {rem : List UInt8} (h : badP (rowP b l j ok rem)) : badP (rowP b l (j + 1) ok rem) := by
  rw [rowP]
  split
  · exact h
  · split
    · rcases h with h | ⟨v, hv, h⟩
      · exact .inl h
      · exact .inr ⟨v, List.mem_append_left _ hv, h⟩
    · rcases h with h | ⟨v, hv, h⟩
      · left
        rw [h]
        exact rdV_false _ _
      · exact .inr ⟨v, List.mem_append_left _ hv, h⟩
theorem bad_le {b : List UInt8} {l : List Col} {j k : Nat} {ok : Bool} {rem : List UInt8} (h : badP (rowP b l j ok rem)) (hk : j ≤ k) : badP (rowP b l k ok rem) := by
  obtain ⟨d, rfl⟩ := Nat.le.dest hk
  clear hk
  induction d with
  | zero => exact h
  | succ d ih => exact bad_step ih
theorem bad_dec {l : List Col} {t : List UInt8} (hm : mayB l = true) {j : Nat} (hj : j ≤ l.length) (h : badP (rowP (bytesN ((l.length + 7) / 8) true t).1 l j (bytesN ((l.length + 7) / 8) true t).2.1 (bytesN ((l.length + 7) / 8) true t).2.2)) : decP l t = ([], 5) := by
  have h := bad_le h hj
  rw [decP, if_neg (by rw [hm]; decide)]
  split
  · rfl
  dsimp only
  split
  · rfl
  rw [if_pos]
  rcases h with h | ⟨v, hv, h⟩
  · exact .inl (by rw [h]; rfl)
  · exact .inr fun e => by
      rw [(fits_ok e).2.2.2 v hv] at h
      cases h
theorem bytesN_take : ∀ (m : Nat) (t : List UInt8), m ≤ t.length → bytesN m true t = (t.take m, true, t.drop m)
  | 0, t, _ => by simp [bytesN]
  | m + 1, t, h => by
    have hlt : m < t.length := by omega
    rw [bytesN, bytesN_take m t (by omega)]
    dsimp only
    rw [List.take_succ_eq_append_getElem hlt]
    have e : (t.drop m).take 1 = [t[m]] := by rw [List.drop_eq_getElem_cons hlt]; rfl
    have hl : 1 ≤ (t.drop m).length := by rw [List.length_drop]; omega
    have e1 : Cc.getN true 1 (t.drop m) = t[m].toNat := by
      unfold Cc.getN
      rw [if_pos ⟨rfl, hl⟩, e]
      simp [leNum]
    have e2 : Cc.getOk true 1 (t.drop m) = true := by
      unfold Cc.getOk
      rw [decide_eq_true hl]; rfl
    have e3 : Cc.getRem true 1 (t.drop m) = t.drop (m + 1) := by
      unfold Cc.getRem
      rw [if_pos ⟨rfl, hl⟩, List.drop_drop]
    rw [e1, e2, e3, UInt8.ofNat_toNat]
theorem bytesN_short : ∀ (m : Nat) (t : List UInt8), t.length < m → (bytesN m true t).2.1 = false
  | 0, t, h => by omega
  | m + 1, t, h => by
    rw [bytesN]
    by_cases hm : t.length < m
    · show Cc.getOk _ 1 _ = false
      rw [bytesN_short m t hm]
      rfl
    · rw [bytesN_take m t (by omega)]
      show Cc.getOk true 1 (t.drop m) = false
      unfold Cc.getOk
      rw [decide_eq_false (by rw [List.length_drop]; omega)]
      rfl
theorem rd_step {k : Int} (hk : k = 1 ∨ k = 2 ∨ k = 3) (rem : List UInt8) : ((rdQ k rem).2 = 0 → (rdV k true rem).2.1 = false ∨ okV (rdV k true rem).1 = false) ∧
    ((rdQ k rem).2 ≠ 0 → rdV k true rem = ((rdQ k rem).1, true, rem.drop (rdQ k rem).2) ∧ (rdQ k rem).2 ≤ rem.length) := by
  have hfd : Cc.found true rem = front rem := rfl
  rcases hk with rfl | rfl | rfl
  · have hv : rdV 1 true rem = (⟨1, unzig (Cc.uN (front rem)), ⟨#[]⟩⟩, (front rem).isSome, Cc.uRem (front rem) rem) := by unfold rdV; rw [if_pos rfl, hfd]
    have hq : rdQ 1 rem = match front rem with
      | none => (zeroV, 0)
      | some (x, m) => (⟨1, unzig x, ⟨#[]⟩⟩, m) := by
      unfold rdQ
      rw [if_neg (by decide)]
      cases front rem with
      | none => rfl
      | some p => rfl
    rw [hv, hq]
    cases hf : front rem with
    | none => exact ⟨fun _ => .inl rfl, fun e => (e rfl).elim⟩
    | some p =>
      obtain ⟨x, m⟩ := p
      obtain ⟨f1, f2, f3⟩ := front_le hf
      exact ⟨fun (e : m = 0) => by omega, fun _ => ⟨rfl, f2⟩⟩
  · have hv : rdV 2 true rem = (⟨2, 0, ⟨(Cc.txtV (Cc.txt true rem 64) rem).toArray⟩⟩, (Cc.txt true rem 64).isSome, Cc.txtRem (Cc.txt true rem 64) rem) := by unfold rdV; rw [if_neg (by decide), if_pos rfl]
    rw [hv]
    cases hf : front rem with
    | none =>
      have ht : Cc.txt true rem 64 = none := by unfold Cc.txt; rw [hfd, hf]
      have hq : rdQ 2 rem = (zeroV, 0) := by unfold rdQ; rw [if_neg (by decide), hf]
      rw [ht, hq]
      exact ⟨fun _ => .inl rfl, fun e => (e rfl).elim⟩
    | some p =>
      obtain ⟨x, m⟩ := p
      obtain ⟨f1, f2, f3⟩ := front_le hf
      by_cases hbad : 64 < x ∨ rem.length < x + m
      · have ht : Cc.txt true rem 64 = none := by unfold Cc.txt; rw [hfd, hf]; dsimp only; rw [if_neg (by omega)]
        have hq : rdQ 2 rem = (zeroV, 0) := by unfold rdQ; rw [if_neg (by decide), hf]; dsimp only; rw [if_neg (by decide), if_pos hbad]
        rw [ht, hq]
        exact ⟨fun _ => .inl rfl, fun e => (e rfl).elim⟩
      · have ht : Cc.txt true rem 64 = some (x, m) := by unfold Cc.txt; rw [hfd, hf]; dsimp only; rw [if_pos (by omega)]
        have hq : rdQ 2 rem = (⟨2, 0, ⟨((rem.drop m).take x).toArray⟩⟩, m + x) := by unfold rdQ; rw [if_neg (by decide), hf]; dsimp only; rw [if_neg (by decide), if_neg hbad]
        rw [ht, hq]
        refine ⟨fun (e : m + x = 0) => by omega, fun _ => ⟨?_, by show m + x ≤ _; omega⟩⟩
        show (_, _, (rem.drop m).drop x) = _
        rw [List.drop_drop]
        rfl
  · have hv : rdV 3 true rem = (⟨3, (Cc.getN true 1 rem : Nat), ⟨#[]⟩⟩, Cc.getOk true 1 rem, Cc.getRem true 1 rem) := by unfold rdV; rw [if_neg (by decide), if_neg (by decide)]
    rw [hv]
    cases rem with
    | nil => exact ⟨fun _ => .inl rfl, fun e => (e rfl).elim⟩
    | cons c r =>
      have e1 : Cc.getN true 1 (c :: r) = c.toNat := by
        unfold Cc.getN
        rw [if_pos ⟨rfl, by simp⟩]
        simp [leNum]
      have e2 : Cc.getOk true 1 (c :: r) = true := by simp [Cc.getOk]
      have e3 : Cc.getRem true 1 (c :: r) = (c :: r).drop 1 := by
        unfold Cc.getRem
        rw [if_pos ⟨rfl, by simp⟩]
      rw [e1, e2, e3]
      by_cases h1 : 1 < c.toNat
      · have hq : rdQ 3 (c :: r) = (zeroV, 0) := by unfold rdQ; rw [if_pos rfl]; dsimp only; rw [if_pos h1]
        rw [hq]
        refine ⟨fun _ => .inr ?_, fun e => (e rfl).elim⟩
        refine decide_eq_false ?_
        unfold okVP
        dsimp only
        omega
      · have hq : rdQ 3 (c :: r) = (⟨3, c.toNat, ⟨#[]⟩⟩, 1) := by unfold rdQ; rw [if_pos rfl]; dsimp only; rw [if_neg h1]
        rw [hq]
        exact ⟨fun (e : 1 = 0) => by omega, fun _ => ⟨rfl, by simp⟩⟩
theorem rdQ_wf {k : Int} (hk : k = 1 ∨ k = 2 ∨ k = 3) (rem : List UInt8) (hl : rem.length ≤ Cc.big) (h : (rdQ k rem).2 ≠ 0) : wfV (rdQ k rem).1 := by
  have h1 := rdV_wf k true rem hl
  rw [((rd_step hk rem).2 h).1] at h1
  exact h1
theorem high_bits : ∀ n : Nat, n < 8 → ∀ x : Nat, x < 256 → (∀ k : Nat, k < 8 → n ≤ k → x / 2 ^ k % 2 ≠ 1) → x / 2 ^ n = 0 := by decide +kernel
theorem high_bit : ∀ n : Nat, n < 8 → ∀ x : Nat, x < 256 → ∀ k : Nat, k < 8 → n ≤ k ∧ x / 2 ^ k % 2 = 1 → x / 2 ^ n ≠ 0 := by decide +kernel
theorem mod_bit (x m : Nat) : decide ((((x / 2 ^ m : Nat) : Int) % 2) = 1) = decide (x / 2 ^ m % 2 = 1) := by
  rw [Bool.eq_iff_iff, decide_eq_true_iff, decide_eq_true_iff]
  omega
theorem decP_len (l : List Col) (t : List UInt8) : (decP l t).1.length ≤ 16 := by
  unfold decP
  split
  · exact Nat.zero_le _
  rename_i hm
  split
  · exact Nat.zero_le _
  dsimp only
  split
  · exact Nat.zero_le _
  split
  · exact Nat.zero_le _
  · rw [(rowP_len _ l l.length _ _ (Nat.le_refl _)).1]
    exact (mayB_len16 (by simpa using hm)).2
end Go.Proofs.Ythdiokdaaofebaa.Rw
