/-
  Rows: the row of a text, the reference's way: numbers, values. Conditions: each theorem's own.
-/
import Derived.Test.YthdiokdaaofebaaDl
import Derived.Test.YthdiokdaaofebaaM3

namespace Go.Proofs.Ythdiokdaaofebaa.Rw
open Go Go.K Go.Proofs Go.Proofs.Ythdiokdaaofebaa
set_option linter.unusedVariables false
set_option linter.unusedSimpArgs false
set_option maxRecDepth 10000

def frontV (o : Option (Nat × Nat)) : Value := match o with
  | some (x, m) => .tuple #[.int .u64 x, .int .i64 m]
  | none => .tuple #[.int .u64 0, .int .i64 0]
theorem pow_128 (j : Nat) : (2 : Int) ^ (7 * j) = ((128 ^ j : Nat) : Int) := by
  rw [Int.pow_mul]
  simp
theorem shl_d (d j : Nat) (hd : d < 128) (hj : j ≤ 9) (h9 : j = 9 → d ≤ 1) : IntKind.u64.wrap ((d : Int) * 2 ^ (min (7 * (j : Int)).toNat IntKind.u64.bits)) = ((d * 128 ^ j : Nat) : Int) ∧ d * 128 ^ j ≤ 9223372036854775808 := by
  have e1 : min (7 * (j : Int)).toNat IntKind.u64.bits = 7 * j := by
    show min (7 * (j : Int)).toNat 64 = 7 * j
    omega
  have hb : d * 128 ^ j ≤ 9223372036854775808 := by
    by_cases e : j = 9
    · subst e
      have := Nat.mul_le_mul_right (128 ^ 9) (h9 rfl)
      exact this
    · have h1 : 128 ^ j ≤ 128 ^ 8 := Nat.pow_le_pow_right (by omega) (by omega)
      have h2 := Nat.mul_le_mul (show d ≤ 127 by omega) h1
      exact Nat.le_trans h2 (by decide)
  refine ⟨?_, hb⟩
  rw [e1, pow_128, ← Int.natCast_mul]
  exact wr_u64 (by omega) (by omega)

set_option maxHeartbeats 1000000 in
theorem Number (h : Base) (s : ByteArray) (hs : s.size ≤ 9223372036854775807) : TrV Try.prog 50 [.string s] h [] (frontV (front s.data.toList)) [] := by
  have hsz : s.data.toList.length = s.size := by simp
  refine K.enter Try.func50 rfl (Nat.le_of_ble_eq_true rfl) (fun F => ?_)
  simp only [List.nil_append]
  (repeat' (first | (apply K.s_pure; (first | (apply Y.mv; exact X.mv) | (apply Y.sg; exact X.sg) | (apply Y.pk; exact X.pk) | (apply Y.cv; exact X.cv) | (apply Y.ix; exact X.ix) | (apply Y.len; exact X.len) | (apply Y.badd; exact X.badd) | (apply Y.bmul; exact X.bmul) | (apply Y.beql; exact X.beql) | (apply Y.blss; exact X.blss) | (apply Y.bgtr; exact X.bgtr) | (apply Y.bshl; exact X.bshl) | (apply Y.brem; exact X.brem)); exact rfl) | refine X.l ?_ | refine X.w ?_ | refine X.a ?_ | (refine K.c_condD rfl (fun hc => ?_) (fun hc => ?_) <;> first | (exfalso; omega) | skip) | refine K.c_cond rfl (fun hc => ?_) (fun hc => ?_) | (refine K.s_guardD rfl rfl (fun hc => ?_) (fun hc => ?_) <;> first | (exfalso; omega) | skip) | refine K.s_guard rfl rfl (fun hc => ?_) (fun hc => ?_)))
  refine K.c_loop (σ := Nat × Nat) (fun q => [(0, .string s), (4, .int .u64 q.2), (5, .int .i64 q.1)]) (fun _ => h) (fun _ => F)
    (fun q => q.1 ≤ s.size ∧ frontF q.1 q.2 (s.data.toList.drop q.1) = front s.data.toList ∧ q.2 < 128 ^ q.1 ∧ q.1 ≤ 10) (fun q => s.size - q.1) (0, 0) ⟨Nat.zero_le _, rfl, by simp, by omega⟩ (by repeat (first | exact K.Sub.nil _ | refine K.Sub.cons rfl ?_)) rfl rfl ?_
  rintro ⟨j, acc⟩ ⟨hj, hfr, hacc, hj10⟩ KL hKL
  dsimp only at hj hfr hacc hj10 ⊢
  by_cases hjl : j < s.data.toList.length
  · have hc0 : s.data.toList[((j : Nat) : Int).toNat]? = some s.data.toList[j] := by rw [Int.toNat_natCast]; exact List.getElem?_eq_getElem hjl
    rw [List.drop_eq_getElem_cons hjl] at hfr
    generalize s.data.toList[j] = c at hc0 hfr
    have hcl : c.toNat < 256 := c.toNat_lt
    rw [frontF] at hfr
    by_cases h10 : j = 10
    · rw [if_pos (.inl h10)] at hfr
      rw [← hfr]
      (repeat' (first | (apply K.s_pure; (first | (apply Y.mv; exact X.mv) | (apply Y.sg; exact X.sg) | (apply Y.pk; exact X.pk) | (apply Y.cv; exact X.cv) | (apply Y.ix; exact X.ix) | (apply Y.len; exact X.len) | (apply Y.badd; exact X.badd) | (apply Y.bmul; exact X.bmul) | (apply Y.beql; exact X.beql) | (apply Y.blss; exact X.blss) | (apply Y.bgtr; exact X.bgtr) | (apply Y.bshl; exact X.bshl) | (apply Y.brem; exact X.brem)); exact rfl) | refine X.l ?_ | refine X.w ?_ | refine X.a ?_ | (refine K.c_condD rfl (fun hc => ?_) (fun hc => ?_) <;> first | (exfalso; omega) | skip) | refine K.c_cond rfl (fun hc => ?_) (fun hc => ?_) | (refine K.s_guardD rfl rfl (fun hc => ?_) (fun hc => ?_) <;> first | (exfalso; omega) | skip) | refine K.s_guard rfl rfl (fun hc => ?_) (fun hc => ?_)))
      refine K.done (by first | exact Or.inl rfl | exact Or.inr rfl) rfl (by first | exact K.Base.le.refl _ | assumption) (H' := []) rfl ⟨rfl, rfl, rfl⟩
    · have h128 : c.toNat % 128 < 128 := Nat.mod_lt _ (by omega)
      by_cases h9 : j = 9 ∧ 1 < c.toNat % 128
      · rw [if_pos (by omega)] at hfr
        rw [← hfr]
        (repeat' (first | (apply K.s_pure; (first | (apply Y.mv; exact X.mv) | (apply Y.sg; exact X.sg) | (apply Y.pk; exact X.pk) | (apply Y.cv; exact X.cv) | (apply Y.ix; exact X.ix) | (apply Y.len; exact X.len) | (apply Y.badd; exact X.badd) | (apply Y.bmul; exact X.bmul) | (apply Y.beql; exact X.beql) | (apply Y.blss; exact X.blss) | (apply Y.bgtr; exact X.bgtr) | (apply Y.bshl; exact X.bshl) | (apply Y.brem; exact X.brem)); exact rfl) | refine X.l ?_ | refine X.w ?_ | refine X.a ?_ | (refine K.c_condD rfl (fun hc => ?_) (fun hc => ?_) <;> first | (exfalso; omega) | skip) | refine K.c_cond rfl (fun hc => ?_) (fun hc => ?_) | (refine K.s_guardD rfl rfl (fun hc => ?_) (fun hc => ?_) <;> first | (exfalso; omega) | skip) | refine K.s_guard rfl rfl (fun hc => ?_) (fun hc => ?_)))
        refine K.done (by first | exact Or.inl rfl | exact Or.inr rfl) rfl (by first | exact K.Base.le.refl _ | assumption) (H' := []) rfl ⟨rfl, rfl, rfl⟩
      · obtain ⟨hsd, hdb⟩ := shl_d (c.toNat % 128) j h128 (by omega) (by omega)
        have hac : acc + c.toNat % 128 * 128 ^ j < 18446744073709551616 := by
          have : 128 ^ j ≤ 128 ^ 9 := Nat.pow_le_pow_right (by omega) (by omega)
          have e9 : 128 ^ 9 = 9223372036854775808 := by decide
          omega
        have hsum : IntKind.u64.wrap ((acc : Int) + ((c.toNat % 128 * 128 ^ j : Nat) : Int)) = ((acc + c.toNat % 128 * 128 ^ j : Nat) : Int) := by
          rw [← Int.natCast_add]
          exact wr_u64 (by omega) (by omega)
        rw [show ((c.toNat % 128 : Nat) : Int) = (c.toNat : Int) % 128 from by omega] at hsd
        by_cases hlow : c.toNat < 128
        · by_cases hz : 0 < j ∧ c.toNat = 0
          · have hfr2 : front s.data.toList = none := by
              rw [← hfr]
              by_cases h91 : j = 10 ∨ j = 9 ∧ 1 < c.toNat
              · rw [if_pos h91]
              · rw [if_neg h91, if_pos hlow, if_neg (by omega)]
            rw [hfr2]
            (repeat' (first | (apply K.s_pure; (first | (apply Y.mv; exact X.mv) | (apply Y.sg; exact X.sg) | (apply Y.pk; exact X.pk) | (apply Y.cv; exact X.cv) | (apply Y.ix; exact X.ix) | (apply Y.len; exact X.len) | (apply Y.badd; exact X.badd) | (apply Y.bmul; exact X.bmul) | (apply Y.beql; exact X.beql) | (apply Y.blss; exact X.blss) | (apply Y.bgtr; exact X.bgtr) | (apply Y.bshl; exact X.bshl) | (apply Y.brem; exact X.brem)); exact rfl) | refine X.l ?_ | refine X.w ?_ | refine X.a ?_ | (refine K.c_condD rfl (fun hc => ?_) (fun hc => ?_) <;> first | (exfalso; omega) | skip) | refine K.c_cond rfl (fun hc => ?_) (fun hc => ?_) | (refine K.s_guardD rfl rfl (fun hc => ?_) (fun hc => ?_) <;> first | (exfalso; omega) | skip) | refine K.s_guard rfl rfl (fun hc => ?_) (fun hc => ?_)))
            all_goals
              refine K.done (by first | exact Or.inl rfl | exact Or.inr rfl) rfl (by first | exact K.Base.le.refl _ | assumption) (H' := []) rfl ⟨rfl, rfl, rfl⟩
          · rw [if_neg (by omega), if_pos hlow, if_pos (by omega)] at hfr
            rw [← hfr]
            (repeat' (first | (apply K.s_pure; (first | (apply Y.mv; exact X.mv) | (apply Y.sg; exact X.sg) | (apply Y.pk; exact X.pk) | (apply Y.cv; exact X.cv) | (apply Y.ix; exact X.ix) | (apply Y.len; exact X.len) | (apply Y.badd; exact X.badd) | (apply Y.bmul; exact X.bmul) | (apply Y.beql; exact X.beql) | (apply Y.blss; exact X.blss) | (apply Y.bgtr; exact X.bgtr) | (apply Y.bshl; exact X.bshl) | (apply Y.brem; exact X.brem)); exact rfl) | refine X.l ?_ | refine X.w ?_ | refine X.a ?_ | (refine K.c_condD rfl (fun hc => ?_) (fun hc => ?_) <;> first | (exfalso; omega) | skip) | refine K.c_cond rfl (fun hc => ?_) (fun hc => ?_) | (refine K.s_guardD rfl rfl (fun hc => ?_) (fun hc => ?_) <;> first | (exfalso; omega) | skip) | refine K.s_guard rfl rfl (fun hc => ?_) (fun hc => ?_)))
            all_goals
              rw [hsd, ← Int.natCast_add]
              refine K.done (by first | exact Or.inl rfl | exact Or.inr rfl) rfl (by first | exact K.Base.le.refl _ | assumption) (H' := []) rfl ⟨rfl, rfl, rfl⟩
        · (repeat' (first | (apply K.s_pure; (first | (apply Y.mv; exact X.mv) | (apply Y.sg; exact X.sg) | (apply Y.pk; exact X.pk) | (apply Y.cv; exact X.cv) | (apply Y.ix; exact X.ix) | (apply Y.len; exact X.len) | (apply Y.badd; exact X.badd) | (apply Y.bmul; exact X.bmul) | (apply Y.beql; exact X.beql) | (apply Y.blss; exact X.blss) | (apply Y.bgtr; exact X.bgtr) | (apply Y.bshl; exact X.bshl) | (apply Y.brem; exact X.brem)); exact rfl) | refine X.l ?_ | refine X.w ?_ | refine X.a ?_ | (refine K.c_condD rfl (fun hc => ?_) (fun hc => ?_) <;> first | (exfalso; omega) | skip) | refine K.c_cond rfl (fun hc => ?_) (fun hc => ?_) | (refine K.s_guardD rfl rfl (fun hc => ?_) (fun hc => ?_) <;> first | (exfalso; omega) | skip) | refine K.s_guard rfl rfl (fun hc => ?_) (fun hc => ?_)))
          all_goals
           rw [hsd, ← Int.natCast_add]
           by_cases h91 : j = 9
           · have hn : front s.data.toList = none := by rw [← hfr, if_pos (by omega)]
             have hn10 : ∀ (a : Nat) (l : List UInt8), frontF 10 a l = none := fun a l => by
               cases l with
               | nil => rfl
               | cons c r => rw [frontF, if_pos (.inl rfl)]
             subst h91
             refine K.a_round hKL (9 + 1, acc + c.toNat % 128 * 128 ^ 9) ⟨by dsimp only; omega, by dsimp only; rw [hn10, hn], ?_, by dsimp only; omega⟩ (by repeat (first | exact K.Sub.nil _ | refine K.Sub.cons rfl ?_)) rfl rfl (by dsimp only; omega)
             dsimp only
             have e9 : 128 ^ 9 = 9223372036854775808 := by decide
             have e10 : 128 ^ (9 + 1) = 1180591620717411303424 := by decide
             omega
           · rw [if_neg (by omega), if_neg (by omega)] at hfr
             refine K.a_round hKL (j + 1, acc + c.toNat % 128 * 128 ^ j) ⟨by dsimp only; omega, hfr, ?_, by dsimp only; omega⟩ (by repeat (first | exact K.Sub.nil _ | refine K.Sub.cons rfl ?_)) rfl rfl (by dsimp only; omega)
             dsimp only
             rw [Nat.pow_succ]
             have : c.toNat % 128 * 128 ^ j ≤ 127 * 128 ^ j := Nat.mul_le_mul_right _ (by omega)
             omega
  · have e : j = s.data.toList.length := by omega
    have hn : front s.data.toList = none := by rw [← hfr, e, List.drop_length]; rfl
    rw [hn]
    (repeat' (first | (apply K.s_pure; (first | (apply Y.mv; exact X.mv) | (apply Y.sg; exact X.sg) | (apply Y.pk; exact X.pk) | (apply Y.cv; exact X.cv) | (apply Y.ix; exact X.ix) | (apply Y.len; exact X.len) | (apply Y.badd; exact X.badd) | (apply Y.bmul; exact X.bmul) | (apply Y.beql; exact X.beql) | (apply Y.blss; exact X.blss) | (apply Y.bgtr; exact X.bgtr) | (apply Y.bshl; exact X.bshl) | (apply Y.brem; exact X.brem)); exact rfl) | refine X.l ?_ | refine X.w ?_ | refine X.a ?_ | (refine K.c_condD rfl (fun hc => ?_) (fun hc => ?_) <;> first | (exfalso; omega) | skip) | refine K.c_cond rfl (fun hc => ?_) (fun hc => ?_) | (refine K.s_guardD rfl rfl (fun hc => ?_) (fun hc => ?_) <;> first | (exfalso; omega) | skip) | refine K.s_guard rfl rfl (fun hc => ?_) (fun hc => ?_)))
    refine K.done (by first | exact Or.inl rfl | exact Or.inr rfl) rfl (by first | exact K.Base.le.refl _ | assumption) (H' := []) rfl ⟨rfl, rfl, rfl⟩
end Go.Proofs.Ythdiokdaaofebaa.Rw
