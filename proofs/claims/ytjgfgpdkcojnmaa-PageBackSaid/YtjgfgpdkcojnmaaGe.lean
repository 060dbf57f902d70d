/-
  With one byte changed a page's bytes are none's, plainly. Conditions: each theorem's own.
-/
import Derived.Test.YtjgfgpdkcojnmaaGd

namespace Go.Proofs.Ytjgfgpdkcojnmaa.Pg
open Go Go.K Go.Proofs Go.Proofs.Ytjgfgpdkcojnmaa Go.Proofs.Ytjgfgpdkcojnmaa.Cc Go.Proofs.Ytjgfgpdkcojnmaa.Rb
set_option linter.unusedVariables false
set_option linter.unusedSimpArgs false
set_option maxRecDepth 10000

theorem xor_back {a b c : Nat} (h : a ^^^ c = b ^^^ c) : a = b := by
  have := congrArg (· ^^^ c) h
  simpa [Nat.xor_assoc] using this
theorem xor_fore {a b c : Nat} (h : c ^^^ a = c ^^^ b) : a = b := xor_back (c := c) (by rw [Nat.xor_comm a, Nat.xor_comm b, h])
theorem odd_step {a b : Nat} (ha : a < 4294967296) (hb : b < 4294967296) : (a / 2) ^^^ 2197175160 ≠ b / 2 := fun h => by
  have e := congrArg (fun x => Nat.testBit x 31) h
  simp only [Nat.testBit_xor] at e
  rw [Nat.testBit_lt_two_pow (x := a / 2) (i := 31) (by omega), Nat.testBit_lt_two_pow (x := b / 2) (i := 31) (by omega)] at e
  exact absurd e (by decide)
theorem stepQ_inj {a b : Nat} (ha : a < 4294967296) (hb : b < 4294967296) (h : stepQ a = stepQ b) : a = b := by
  unfold stepQ at h
  split at h
  · split at h
    · have := xor_back h; omega
    · exact absurd h (odd_step ha hb)
  · split at h
    · exact absurd h.symm (odd_step hb ha)
    · omega
theorem stepsQ_inj {a b : Nat} (ha : a < 4294967296) (hb : b < 4294967296) : ∀ k, stepsQ k a = stepsQ k b → a = b
  | 0, h => h
  | k + 1, h => stepsQ_inj ha hb k (stepQ_inj (stepsQ_lt ha k) (stepsQ_lt hb k) h)
theorem byte_lt (s : Nat) (hs : s < 4294967296) (c : UInt8) : s ^^^ c.toNat < 4294967296 := xor_lt hs (by have := c.toNat_lt; omega)
theorem foldQ_inj : ∀ (l : List UInt8) {a b : Nat}, a < 4294967296 → b < 4294967296 → l.foldl byteQ a = l.foldl byteQ b → a = b
  | [], _, _, _, _, h => h
  | c :: l, a, b, ha, hb, h => xor_back (stepsQ_inj (byte_lt a ha c) (byte_lt b hb c) 8 (foldQ_inj l (byteQ_lt ha c) (byteQ_lt hb c) h))
theorem sum_one {x y : List UInt8} {c d : UInt8} (h : sumQ 0 (x ++ c :: y) = sumQ 0 (x ++ d :: y)) : c = d := by
  unfold sumQ at h
  have h := xor_back h
  rw [List.foldl_append, List.foldl_append] at h
  have hs : x.foldl byteQ (0 ^^^ 4294967295) < 4294967296 := foldQ_lt x (by decide)
  generalize x.foldl byteQ (0 ^^^ 4294967295) = s at hs h
  rw [List.foldl_cons, List.foldl_cons] at h
  have h2 := foldQ_inj y (byteQ_lt hs c) (byteQ_lt hs d) h
  have h3 := xor_fore (stepsQ_inj (byte_lt s hs c) (byte_lt s hs d) 8 h2)
  exact UInt8.toNat_inj.1 h3
theorem xor_ne {c d : UInt8} (hd : d ≠ 0) : c ^^^ d ≠ c := fun h => hd (by
  have := congrArg (c ^^^ ·) h
  simpa [← UInt8.xor_assoc] using this)
theorem spoilt {p : Pag} {i : Nat} {c d : UInt8} (hm : mayQ p = true) (hc : (encB p)[i]? = some c) (hd : d ≠ 0) : decQ ((encB p).set i (c ^^^ d)) = (zPd, 5) := by
  rcases dec_cases ((encB p).set i (c ^^^ d)) with ⟨_, h0, hr, he⟩ | ⟨_, h⟩
  · exfalso
    generalize (decQ ((encB p).set i (c ^^^ d))).1 = r at hr he
    have hil := (List.getElem?_eq_some_iff.1 hc).1
    have hl := encB_len hm
    have l1 := lebs_length 4 (sumQ 0 (padB p))
    have l2 := lebs_length 4 (sumQ 0 (padB r))
    have s1 : sumQ 0 (padB p) < 4294967296 := sumQ_lt (by decide) _
    have s2 : sumQ 0 (padB r) < 4294967296 := sumQ_lt (by decide) _
    unfold encB at he hc hil hl
    by_cases h4 : i < 4
    · rw [List.set_append_left _ _ (by omega)] at he
      obtain ⟨e1, e2⟩ := List.append_inj he (by rw [List.length_set]; omega)
      rw [List.getElem?_append_left (by omega)] at hc
      have := congrArg (·[i]?) e1
      simp only [List.getElem?_set_self (show i < (lebs (sumQ 0 (padB p)) 4).length by omega), e2, hc] at this
      exact xor_ne hd (Option.some.inj this).symm
    · rw [List.set_append_right _ _ (by omega)] at he
      obtain ⟨e1, e2⟩ := List.append_inj he (by omega)
      have e3 := congrArg leNum e1
      rw [leNum_lebs 4 _ s1, leNum_lebs 4 _ s2] at e3
      rw [List.getElem?_append_right (by omega), l1] at hc
      obtain ⟨hj, hv⟩ := List.getElem?_eq_some_iff.1 hc
      have k1 : padB p = (padB p).take (i - 4) ++ c :: (padB p).drop (i - 4 + 1) := by
        rw [← hv, List.getElem_cons_drop, List.take_append_drop]
      have k2 : padB r = (padB p).take (i - 4) ++ (c ^^^ d) :: (padB p).drop (i - 4 + 1) := by
        rw [e2, l1, List.set_eq_take_append_cons_drop, if_pos hj]
      have e4 : sumQ 0 ((padB p).take (i - 4) ++ (c ^^^ d) :: (padB p).drop (i - 4 + 1)) = sumQ 0 ((padB p).take (i - 4) ++ c :: (padB p).drop (i - 4 + 1)) := by rw [← k2, ← k1]; exact e3
      exact xor_ne hd (sum_one e4)
  · exact h
end Go.Proofs.Ytjgfgpdkcojnmaa.Pg
