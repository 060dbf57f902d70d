/-
  Values reckoned: what the numbers' operations answer. Conditions: each theorem's own.
-/
import Derived.Test.YteminhinpbcepaaDc
import Derived.Laws.MathBits

namespace Go.Proofs.Yteminhinpbcepaa.Rw
open Go Go.K Go.Proofs Go.Proofs.Yteminhinpbcepaa
set_option linter.unusedVariables false
set_option linter.unusedSimpArgs false
set_option maxRecDepth 10000

def in64 (z : Int) : Prop := -9223372036854775808 ≤ z ∧ z ≤ 9223372036854775807
instance (z : Int) : Decidable (in64 z) := by unfold in64; infer_instance
/-- The exact answer: a sum, a difference, a product, a quotient, a rest. -/
def exQ (k : Nat) (x y : Int) : Int := if k = 0 then x + y else if k = 1 then x - y else if k = 2 then x * y else if k = 3 then x.tdiv y else x.tmod y
theorem w64_spec (z : Int) : ∃ k : Int, IntKind.i64.wrap z = z + k * 18446744073709551616 ∧ in64 (IntKind.i64.wrap z) := by
  simp only [IntKind.wrap, IntKind.bits, IntKind.signed, Nat.reduceSub, Int.reducePow, Bool.true_and, decide_eq_true_eq, ge_iff_le, in64]
  split
  · exact ⟨-(z / 18446744073709551616) - 1, by omega, by omega, by omega⟩
  · exact ⟨-(z / 18446744073709551616), by omega, by omega, by omega⟩
theorem u64_spec (z : Int) : ∃ k : Int, IntKind.u64.wrap z = z + k * 18446744073709551616 ∧ 0 ≤ IntKind.u64.wrap z ∧ IntKind.u64.wrap z < 18446744073709551616 := by
  simp only [IntKind.wrap, IntKind.bits, IntKind.signed, Int.reducePow, Bool.false_and, Bool.false_eq_true, if_false]
  exact ⟨-(z / 18446744073709551616), by omega, by omega, by omega⟩
theorem tdiv_in {x y : Int} (hx : in64 x) (hy : in64 y) (hy0 : y ≠ 0) : in64 (x.tdiv y) ↔ ¬ (x = -9223372036854775808 ∧ y = -1) := by
  unfold in64 at *
  have hm : (x.tdiv y).natAbs = x.natAbs / y.natAbs := Int.natAbs_tdiv x y
  constructor
  · rintro h ⟨rfl, rfl⟩
    have : ((-9223372036854775808 : Int).tdiv (-1)) = 9223372036854775808 := by decide
    omega
  · intro h
    by_cases h1 : y.natAbs = 1
    · rw [h1, Nat.div_one] at hm
      have : y = 1 ∨ y = -1 := by omega
      rcases this with rfl | rfl
      · rw [Int.tdiv_one]; exact hx
      · rw [Int.tdiv_neg, Int.tdiv_one]; omega
    · have : x.natAbs / y.natAbs ≤ x.natAbs / 2 := Nat.div_le_div_left (by omega) (by omega)
      omega
theorem w64_in {z : Int} (h : in64 z) : IntKind.i64.wrap z = z := K.wr_i64 h.1 h.2
theorem tmod_in {x y : Int} (hx : in64 x) (hy : in64 y) (hy0 : y ≠ 0) : in64 (x.tmod y) := by
  have h1 := Int.natAbs_tmod x y
  have h2 := Nat.mod_le x.natAbs y.natAbs
  have h3 : x.natAbs % y.natAbs < y.natAbs := Nat.mod_lt _ (by omega)
  unfold in64 at *
  omega
/-- The product's trial. -/
theorem mul_back {x y : Int} (hx : in64 x) (hy : in64 y) (hx0 : x ≠ 0) (hy0 : y ≠ 0) (h1 : ¬ (x = -1 ∧ y = -9223372036854775808)) (h2 : ¬ (y = -1 ∧ x = -9223372036854775808)) : in64 (x * y) ↔ IntKind.i64.wrap ((IntKind.i64.wrap (x * y)).tdiv y) = x := by
  obtain ⟨k, hk, hi⟩ := w64_spec (x * y)
  constructor
  · intro h
    rw [w64_in h, Int.mul_tdiv_cancel _ hy0, w64_in hx]
  · intro h
    generalize IntKind.i64.wrap (x * y) = z at hk hi h
    by_cases hb : z = -9223372036854775808 ∧ y = -1
    · obtain ⟨rfl, rfl⟩ := hb
      have : ((-9223372036854775808 : Int).tdiv (-1)) = 9223372036854775808 := by decide
      rw [this] at h
      have : IntKind.i64.wrap 9223372036854775808 = -9223372036854775808 := by decide
      omega
    · rw [w64_in ((tdiv_in hi hy hy0).2 hb)] at h
      have e1 := Int.tdiv_mul_add_tmod z y
      have e2 := Int.natAbs_tmod z y
      have e3 : z.natAbs % y.natAbs < y.natAbs := Nat.mod_lt _ (by omega)
      rw [h] at e1
      generalize z.tmod y = m at e1 e2
      have : k = 0 := by
        unfold in64 at hy
        omega
      subst this
      have : x * y = z := by omega
      rw [this]; exact hi
/-- A number and whether it is in 64 bits. -/
def NumP (h : Base) (e : Int) (v : Value) (h' : Base) (H' : List Asrt) : Prop := h = h' ∧ H' = [] ∧ ∃ z, v = .tuple #[.int .i64 z, .bool (decide (in64 e))] ∧ (in64 e → z = e)
theorem num_post {h : Base} {e z : Int} {b : Bool} (hb : b = decide (in64 e)) (hz : in64 e → z = e) : NumP h e (.tuple #[.int .i64 z, .bool b]) h [] := ⟨rfl, rfl, z, by rw [hb], hz⟩

theorem AddF (h : Base) (x y : Int) (hx : in64 x) (hy : in64 y) : Tr Try.prog 91 [.int .i64 x, .int .i64 y] h [] (NumP h (exQ 0 x y)) := by
  have e : exQ 0 x y = x + y := rfl
  rw [e]
  obtain ⟨k, hk, hi⟩ := w64_spec (x + y)
  unfold in64 at hx hy hi
  refine K.enter Try.func91 rfl (Nat.le_of_ble_eq_true rfl) (fun F => ?_)
  simp only [List.nil_append]
  (repeat' (first | (apply K.s_pure; (first | (apply Y.mv; exact X.mv) | (apply Y.sg; exact X.sg) | (apply Y.pk; exact X.pk) | (apply Y.badd; exact X.badd) | (apply Y.beql; exact X.beql) | (apply Y.bneq; exact X.bneq) | (apply Y.blss; exact X.blss)); exact rfl) | refine X.l ?_ | refine X.w ?_ | refine X.a ?_ | (refine K.c_condD rfl (fun hc => ?_) (fun hc => ?_) <;> first | (exfalso; omega) | skip) | refine K.c_cond rfl (fun hc => ?_) (fun hc => ?_) | (refine K.s_guardD rfl rfl (fun hc => ?_) (fun hc => ?_) <;> first | (exfalso; omega) | skip) | refine K.s_guard rfl rfl (fun hc => ?_) (fun hc => ?_)))
  all_goals
    refine K.done (by first | exact Or.inl rfl | exact Or.inr rfl) rfl (by first | exact K.Base.le.refl _ | assumption) (H' := []) rfl (num_post ?_ (fun hin => ?_))
    · rw [Bool.eq_iff_iff, decide_eq_true_iff]
      unfold in64
      simp only [Bool.not_eq_true', Bool.not_eq_false', beq_eq_false_iff_ne, beq_iff_eq, ne_eq, decide_eq_decide, eq_self, true_iff, false_iff, iff_true, Bool.false_eq_true] at *
      omega
    · unfold in64 at hin
      omega
theorem SubF (h : Base) (x y : Int) (hx : in64 x) (hy : in64 y) : Tr Try.prog 92 [.int .i64 x, .int .i64 y] h [] (NumP h (exQ 1 x y)) := by
  have e : exQ 1 x y = x - y := rfl
  rw [e]
  obtain ⟨k, hk, hi⟩ := w64_spec (x - y)
  unfold in64 at hx hy hi
  refine K.enter Try.func92 rfl (Nat.le_of_ble_eq_true rfl) (fun F => ?_)
  simp only [List.nil_append]
  (repeat' (first | (apply K.s_pure; (first | (apply Y.mv; exact X.mv) | (apply Y.sg; exact X.sg) | (apply Y.pk; exact X.pk) | (apply Y.bsub; exact X.bsub) | (apply Y.beql; exact X.beql) | (apply Y.blss; exact X.blss)); exact rfl) | refine X.l ?_ | refine X.w ?_ | refine X.a ?_ | (refine K.c_condD rfl (fun hc => ?_) (fun hc => ?_) <;> first | (exfalso; omega) | skip) | refine K.c_cond rfl (fun hc => ?_) (fun hc => ?_) | (refine K.s_guardD rfl rfl (fun hc => ?_) (fun hc => ?_) <;> first | (exfalso; omega) | skip) | refine K.s_guard rfl rfl (fun hc => ?_) (fun hc => ?_)))
  all_goals
    refine K.done (by first | exact Or.inl rfl | exact Or.inr rfl) rfl (by first | exact K.Base.le.refl _ | assumption) (H' := []) rfl (num_post ?_ (fun hin => ?_))
    · rw [Bool.eq_iff_iff, decide_eq_true_iff]
      unfold in64
      simp only [Bool.not_eq_true', Bool.not_eq_false', beq_eq_false_iff_ne, beq_iff_eq, ne_eq, decide_eq_decide, eq_self, true_iff, false_iff, iff_true, Bool.false_eq_true] at *
      omega
    · unfold in64 at hin
      omega
theorem NegF (h : Base) (x y : Int) (hx : x = 0) (hy : in64 y) : Tr Try.prog 58 [.int .i64 x, .int .i64 y] h [] (NumP h (exQ 1 x y)) := by
  have e : exQ 1 x y = 0 - y := by rw [hx]; rfl
  rw [e]
  obtain ⟨k, hk, hi⟩ := w64_spec (0 - y)
  unfold in64 at hy hi
  refine K.enter Try.func58 rfl (Nat.le_of_ble_eq_true rfl) (fun F => ?_)
  simp only [List.nil_append]
  (repeat' (first | (apply K.s_pure; (first | (apply Y.mv; exact X.mv) | (apply Y.sg; exact X.sg) | (apply Y.ng; exact X.ng) | (apply Y.bneq; exact X.bneq)); exact rfl) | refine X.l ?_ | refine X.w ?_ | refine X.a ?_ | (refine K.c_condD rfl (fun hc => ?_) (fun hc => ?_) <;> first | (exfalso; omega) | skip) | refine K.c_cond rfl (fun hc => ?_) (fun hc => ?_)))
  refine K.done (by first | exact Or.inl rfl | exact Or.inr rfl) rfl (by first | exact K.Base.le.refl _ | assumption) (H' := []) rfl (num_post ?_ (fun hin => ?_))
  · rw [Bool.eq_iff_iff, decide_eq_true_iff, decide_eq_true_iff]
    unfold in64
    omega
  · unfold in64 at hin
    omega
theorem DivF (h : Base) (x y : Int) (hx : in64 x) (hy : in64 y) (hy0 : y ≠ 0) : Tr Try.prog 94 [.int .i64 x, .int .i64 y] h [] (NumP h (exQ 3 x y)) := by
  have e : exQ 3 x y = x.tdiv y := rfl
  rw [e]
  have hin := tdiv_in hx hy hy0
  obtain ⟨k, hk, hi⟩ := w64_spec (x.tdiv y)
  refine K.enter Try.func94 rfl (Nat.le_of_ble_eq_true rfl) (fun F => ?_)
  simp only [List.nil_append]
  (repeat' (first | (apply K.s_pure; (first | (apply Y.mv; exact X.mv) | (apply Y.sg; exact X.sg) | (apply Y.pk; exact X.pk) | (apply Y.beql; exact X.beql) | (apply Y.bquo; exact X.bquo)); exact rfl) | refine X.l ?_ | refine X.w ?_ | refine X.a ?_ | (refine K.c_condD rfl (fun hc => ?_) (fun hc => ?_) <;> first | (exfalso; omega) | skip) | refine K.c_cond rfl (fun hc => ?_) (fun hc => ?_) | (refine K.s_guardD rfl rfl (fun hc => ?_) (fun hc => ?_) <;> first | (exfalso; omega) | skip) | refine K.s_guard rfl rfl (fun hc => ?_) (fun hc => ?_)))
  · refine K.done (by first | exact Or.inl rfl | exact Or.inr rfl) rfl (by first | exact K.Base.le.refl _ | assumption) (H' := []) rfl (num_post (decide_eq_false (fun hd => absurd ⟨by assumption, by assumption⟩ (hin.1 hd))).symm (fun hd => absurd ⟨by assumption, by assumption⟩ (hin.1 hd)))
  · have hi2 : in64 (x.tdiv y) := hin.2 (fun hh => hc hh.2)
    refine K.done (by first | exact Or.inl rfl | exact Or.inr rfl) rfl (by first | exact K.Base.le.refl _ | assumption) (H' := []) rfl (num_post (decide_eq_true hi2).symm (fun _ => w64_in hi2))
  · have hi2 : in64 (x.tdiv y) := hin.2 (fun hh => hc hh.1)
    refine K.done (by first | exact Or.inl rfl | exact Or.inr rfl) rfl (by first | exact K.Base.le.refl _ | assumption) (H' := []) rfl (num_post (decide_eq_true hi2).symm (fun _ => w64_in hi2))
theorem ModF (h : Base) (x y : Int) (hx : in64 x) (hy : in64 y) (hy0 : y ≠ 0) : Tr Try.prog 95 [.int .i64 x, .int .i64 y] h [] (NumP h (exQ 4 x y)) := by
  have e : exQ 4 x y = x.tmod y := rfl
  rw [e]
  have hin := tmod_in hx hy hy0
  refine K.enter Try.func95 rfl (Nat.le_of_ble_eq_true rfl) (fun F => ?_)
  simp only [List.nil_append]
  (repeat' (first | (apply K.s_pure; (first | (apply Y.mv; exact X.mv) | (apply Y.sg; exact X.sg) | (apply Y.beql; exact X.beql) | (apply Y.brem; exact X.brem)); exact rfl) | refine X.l ?_ | refine X.w ?_ | refine X.a ?_ | (refine K.c_condD rfl (fun hc => ?_) (fun hc => ?_) <;> first | (exfalso; omega) | skip) | refine K.c_cond rfl (fun hc => ?_) (fun hc => ?_)))
  · have e0 : x.tmod y = 0 := by rw [hc, Int.tmod_neg, Int.tmod_one]
    refine K.done (by first | exact Or.inl rfl | exact Or.inr rfl) rfl (by first | exact K.Base.le.refl _ | assumption) (H' := []) rfl (num_post (decide_eq_true hin).symm (fun _ => e0.symm))
  · refine K.done (by first | exact Or.inl rfl | exact Or.inr rfl) rfl (by first | exact K.Base.le.refl _ | assumption) (H' := []) rfl (num_post (decide_eq_true hin).symm (fun _ => rfl))
set_option maxHeartbeats 1000000 in
theorem MulF (h : Base) (x y : Int) (hx : in64 x) (hy : in64 y) : Tr Try.prog 93 [.int .i64 x, .int .i64 y] h [] (NumP h (exQ 2 x y)) := by
  have e : exQ 2 x y = x * y := rfl
  rw [e]
  have hz := mul_back hx hy
  refine K.enter Try.func93 rfl (Nat.le_of_ble_eq_true rfl) (fun F => ?_)
  simp only [List.nil_append]
  (repeat' (first | (apply K.s_pure; (first | (apply Y.mv; exact X.mv) | (apply Y.sg; exact X.sg) | (apply Y.pk; exact X.pk) | (apply Y.nt; exact X.nt) | (apply Y.bmul; exact X.bmul) | (apply Y.beql; exact X.beql) | (apply Y.bquo; exact X.bquo)); exact rfl) | refine X.l ?_ | refine X.w ?_ | refine X.a ?_ | (refine K.c_condD rfl (fun hc => ?_) (fun hc => ?_) <;> first | (exfalso; omega) | skip) | refine K.c_cond rfl (fun hc => ?_) (fun hc => ?_) | (refine K.s_guardD rfl rfl (fun hc => ?_) (fun hc => ?_) <;> first | (exfalso; omega) | skip) | refine K.s_guard rfl rfl (fun hc => ?_) (fun hc => ?_)))
  · have e0 : x * y = 0 := by rw [hc, Int.zero_mul]
    refine K.done (by first | exact Or.inl rfl | exact Or.inr rfl) rfl (by first | exact K.Base.le.refl _ | assumption) (H' := []) rfl (num_post (decide_eq_true (by rw [e0]; unfold in64; omega)).symm (fun _ => e0.symm))
  · have e0 : x * y = 0 := by rw [hc, Int.mul_zero]
    refine K.done (by first | exact Or.inl rfl | exact Or.inr rfl) rfl (by first | exact K.Base.le.refl _ | assumption) (H' := []) rfl (num_post (decide_eq_true (by rw [e0]; unfold in64; omega)).symm (fun _ => e0.symm))
  · rename_i hx0
    have hy0 := hc
    refine X.draw ([]) [] (.pu 0 (.pu 1 (.pu 2 (.pu 3 (.pu 4 (.pu 5 (.pu 6 (.pu 7 (.pu 8 (.pu 9 (.pu 10 (.pu 11 (.pu 12 (.pu 13 (.pu 14 (.pu 15 (.pu 16 (.pu 17 (.pu 18 (.pu 19 (.pu 20 (.pu 21 (.pu 22 (.pu 23 (.pu 24 .nil))))))))))))))))))))))))) ?_
    all_goals (refine K.d_pu rfl (fun _ _ => X.mv) rfl ?_)
    all_goals (refine K.d_pu rfl (fun _ _ => X.mv) rfl ?_)
    all_goals (refine K.d_pu rfl (fun _ _ => X.beql) rfl ?_)
    all_goals (refine K.d_pu rfl (fun _ _ => X.mv) rfl ?_)
    all_goals try (refine K.d_splitD (s := 19) rfl (fun hc => ?_) (fun hc => ?_) <;> first | (exfalso; omega) | skip)
    all_goals (first | refine K.d_skip rfl rfl rfl rfl ?_ | refine K.d_skipU rfl rfl rfl rfl rfl ?_ | refine K.d_puG rfl rfl rfl (fun _ _ => X.mv) rfl ?_)
    all_goals (first | refine K.d_skip rfl rfl rfl rfl ?_ | refine K.d_skipU rfl rfl rfl rfl rfl ?_ | refine K.d_puG rfl rfl rfl (fun _ _ => X.beql) rfl ?_)
    all_goals (refine K.d_pu rfl (fun _ _ => X.pk) rfl ?_)
    all_goals (refine K.d_pu rfl (fun _ _ => X.mv) rfl ?_)
    all_goals try (refine K.d_splitD (s := 23) rfl (fun hc => ?_) (fun hc => ?_) <;> first | (exfalso; omega) | skip)
    all_goals (first | refine K.d_skip rfl rfl rfl rfl ?_ | refine K.d_skipU rfl rfl rfl rfl rfl ?_ | refine K.d_puG rfl rfl rfl (fun _ _ => X.mv) rfl ?_)
    all_goals (first | refine K.d_skip rfl rfl rfl rfl ?_ | refine K.d_skipU rfl rfl rfl rfl rfl ?_ | refine K.d_puG rfl rfl rfl (fun _ _ => X.beql) rfl ?_)
    all_goals (first | refine K.d_skip rfl rfl rfl rfl ?_ | refine K.d_skipU rfl rfl rfl rfl rfl ?_ | refine K.d_puG rfl rfl rfl (fun _ _ => X.mv) rfl ?_)
    all_goals try (refine K.d_splitD (s := 26) rfl (fun hc => ?_) (fun hc => ?_) <;> first | (exfalso; omega) | skip)
    all_goals (first | refine K.d_skip rfl rfl rfl rfl ?_ | refine K.d_skipU rfl rfl rfl rfl rfl ?_ | refine K.d_puG rfl rfl rfl (fun _ _ => X.mv) rfl ?_)
    all_goals (first | refine K.d_skip rfl rfl rfl rfl ?_ | refine K.d_skipU rfl rfl rfl rfl rfl ?_ | refine K.d_puG rfl rfl rfl (fun _ _ => X.beql) rfl ?_)
    all_goals (first | refine K.d_skip rfl rfl rfl rfl ?_ | refine K.d_skipU rfl rfl rfl rfl rfl ?_ | refine K.d_puG rfl rfl rfl (fun _ _ => X.pk) rfl ?_)
    all_goals (refine K.d_pu rfl (fun _ _ => X.pk) rfl ?_)
    all_goals (refine K.d_pu rfl (fun _ _ => X.nt) rfl ?_)
    all_goals (refine K.d_pu rfl (fun _ _ => X.mv) rfl ?_)
    all_goals try (refine K.d_splitD (s := 32) rfl (fun hc => ?_) (fun hc => ?_) <;> first | (exfalso; omega) | skip)
    all_goals (first | refine K.d_skip rfl rfl rfl rfl ?_ | refine K.d_skipU rfl rfl rfl rfl rfl ?_ | refine K.d_puG rfl rfl rfl (fun _ _ => X.mv) rfl ?_)
    all_goals (first | refine K.d_skip rfl rfl rfl rfl ?_ | refine K.d_skipU rfl rfl rfl rfl rfl ?_ | refine K.d_puG rfl rfl rfl (fun _ _ => X.mv) rfl ?_)
    all_goals (first | refine K.d_skip rfl rfl rfl rfl ?_ | refine K.d_skipU rfl rfl rfl rfl rfl ?_ | refine K.d_puG rfl rfl rfl (fun _ _ => X.bquo) rfl ?_)
    all_goals (first | refine K.d_skip rfl rfl rfl rfl ?_ | refine K.d_skipU rfl rfl rfl rfl rfl ?_ | refine K.d_puG rfl rfl rfl (fun _ _ => X.mv) rfl ?_)
    all_goals (first | refine K.d_skip rfl rfl rfl rfl ?_ | refine K.d_skipU rfl rfl rfl rfl rfl ?_ | refine K.d_puG rfl rfl rfl (fun _ _ => X.beql) rfl ?_)
    all_goals (refine K.d_pu rfl (fun _ _ => X.pk) rfl ?_)
    all_goals (refine K.d_pu rfl (fun _ _ => X.sg) rfl ?_)
    all_goals (refine K.d_pu rfl (fun _ _ => X.sg) rfl ?_)
    all_goals refine K.d_nil ?_
    all_goals (repeat' (first | (apply K.s_pure; (first | (apply Y.mv; exact X.mv) | (apply Y.sg; exact X.sg) | (apply Y.pk; exact X.pk) | (apply Y.nt; exact X.nt) | (apply Y.bmul; exact X.bmul) | (apply Y.beql; exact X.beql) | (apply Y.bquo; exact X.bquo)); exact rfl) | refine X.l ?_ | refine X.w ?_ | refine X.a ?_ | (refine K.c_condD rfl (fun hc => ?_) (fun hc => ?_) <;> first | (exfalso; omega) | skip) | refine K.c_cond rfl (fun hc => ?_) (fun hc => ?_) | (refine K.s_guardD rfl rfl (fun hc => ?_) (fun hc => ?_) <;> first | (exfalso; omega) | skip) | refine K.s_guard rfl rfl (fun hc => ?_) (fun hc => ?_)))
    all_goals
      have hr := hz hx0 hy0
      refine K.done (by first | exact Or.inl rfl | exact Or.inr rfl) rfl (by first | exact K.Base.le.refl _ | assumption) (H' := []) rfl (num_post ?_ (fun hd => ?_))
      · first
          | (rw [decide_eq_decide, hr (by omega) (by omega)])
          | (refine (decide_eq_false (fun hd => ?_)).symm
             rcases (by omega : (x = -1 ∧ y = -9223372036854775808) ∨ (x = -9223372036854775808 ∧ y = -1)) with ⟨e1, e2⟩ | ⟨e1, e2⟩ <;> (rw [e1, e2] at hd; revert hd; decide))
      · exact w64_in hd
/-! The document's -/
theorem RSize (h : Base) (x : Int) (hx : in64 x) : TrV Try.prog 103 [.int .i64 x] h [] (.int .u64 x.natAbs) [] := by
  unfold in64 at hx
  refine K.enter Try.func103 rfl (Nat.le_of_ble_eq_true rfl) (fun F => ?_)
  simp only [List.nil_append]
  (repeat' (first | (apply K.s_pure; (first | (apply Y.mv; exact X.mv) | (apply Y.sg; exact X.sg) | (apply Y.cv; exact X.cv) | (apply Y.ng; exact X.ng) | (apply Y.blss; exact X.blss)); exact rfl) | refine X.l ?_ | refine X.w ?_ | refine X.a ?_ | (refine K.c_condD rfl (fun hc => ?_) (fun hc => ?_) <;> first | (exfalso; omega) | skip) | refine K.c_cond rfl (fun hc => ?_) (fun hc => ?_)))
  · refine K.done (by first | exact Or.inl rfl | exact Or.inr rfl) rfl (by first | exact K.Base.le.refl _ | assumption) (H' := []) rfl ⟨?_, rfl, rfl⟩
    show Value.int _ _ = Value.int _ _
    congr 1
    rw [K.wu64, K.wu64]; omega
  · refine K.done (by first | exact Or.inl rfl | exact Or.inr rfl) rfl (by first | exact K.Base.le.refl _ | assumption) (H' := []) rfl ⟨?_, rfl, rfl⟩
    show Value.int _ _ = Value.int _ _
    congr 1
    omega
theorem RSigned (h : Base) (x : Nat) (b : Bool) (hx : x < 18446744073709551616) : Tr Try.prog 106 [.int .u64 x, .bool b] h [] (NumP h (if b then -(x : Int) else x)) := by
  refine K.enter Try.func106 rfl (Nat.le_of_ble_eq_true rfl) (fun F => ?_)
  simp only [List.nil_append]
  cases b with
  | true =>
    (repeat' (first | (apply K.s_pure; (first | (apply Y.mv; exact X.mv) | (apply Y.sg; exact X.sg) | (apply Y.cv; exact X.cv) | (apply Y.ng; exact X.ng) | (apply Y.blss; exact X.blss) | (apply Y.bleq; exact X.bleq)); exact rfl) | refine X.l ?_ | refine X.w ?_ | refine X.a ?_ | (refine K.c_condD rfl (fun hc => ?_) (fun hc => ?_) <;> first | (exfalso; omega) | skip) | refine K.c_cond rfl (fun hc => ?_) (fun hc => ?_)))
    refine K.done (by first | exact Or.inl rfl | exact Or.inr rfl) rfl (by first | exact K.Base.le.refl _ | assumption) (H' := []) rfl (num_post ?_ (fun hd => ?_))
    · rw [decide_eq_decide, if_pos rfl]; unfold in64; omega
    · rw [if_pos rfl] at hd ⊢
      unfold in64 at hd
      rw [K.wu64]
      obtain ⟨k, hk, hi⟩ := w64_spec ((0 - (x : Int)) % 18446744073709551616)
      unfold in64 at hi
      omega
  | false =>
    (repeat' (first | (apply K.s_pure; (first | (apply Y.mv; exact X.mv) | (apply Y.sg; exact X.sg) | (apply Y.cv; exact X.cv) | (apply Y.ng; exact X.ng) | (apply Y.blss; exact X.blss) | (apply Y.bleq; exact X.bleq)); exact rfl) | refine X.l ?_ | refine X.w ?_ | refine X.a ?_ | (refine K.c_condD rfl (fun hc => ?_) (fun hc => ?_) <;> first | (exfalso; omega) | skip) | refine K.c_cond rfl (fun hc => ?_) (fun hc => ?_)))
    refine K.done (by first | exact Or.inl rfl | exact Or.inr rfl) rfl (by first | exact K.Base.le.refl _ | assumption) (H' := []) rfl (num_post ?_ (fun hd => ?_))
    · rw [decide_eq_decide, if_neg (by decide)]; unfold in64; omega
    · rw [if_neg (by decide)] at hd ⊢
      exact w64_in hd
theorem RSummed (h : Base) (x y : Int) (hx : in64 x) (hy : in64 y) : Tr Try.prog 104 [.int .i64 x, .int .i64 y] h [] (NumP h (x + y)) := by
  unfold in64 at hx hy
  refine K.enter Try.func104 rfl (Nat.le_of_ble_eq_true rfl) (fun F => ?_)
  simp only [List.nil_append]
  (repeat' (first | (apply K.s_pure; (first | (apply Y.mv; exact X.mv) | (apply Y.sg; exact X.sg) | (apply Y.pk; exact X.pk) | (apply Y.badd; exact X.badd) | (apply Y.bsub; exact X.bsub) | (apply Y.blss; exact X.blss) | (apply Y.bgtr; exact X.bgtr)); exact rfl) | refine X.l ?_ | refine X.w ?_ | refine X.a ?_ | (refine K.c_condD rfl (fun hc => ?_) (fun hc => ?_) <;> first | (exfalso; omega) | skip) | refine K.c_cond rfl (fun hc => ?_) (fun hc => ?_) | (refine K.s_guardD rfl rfl (fun hc => ?_) (fun hc => ?_) <;> first | (exfalso; omega) | skip) | refine K.s_guard rfl rfl (fun hc => ?_) (fun hc => ?_)))
  all_goals
    refine K.done (by first | exact Or.inl rfl | exact Or.inr rfl) rfl (by first | exact K.Base.le.refl _ | assumption) (H' := []) rfl (num_post ?_ (fun hd => ?_))
    · first
        | exact (decide_eq_true (by unfold in64; omega)).symm
        | exact (decide_eq_false (by unfold in64; omega)).symm
    · unfold in64 at hd; omega
theorem fd32 (a : Int) : a.fdiv (2 ^ min (Int.toNat 32) IntKind.u64.bits) = a / 4294967296 := by
  show a.fdiv 4294967296 = _
  exact Int.fdiv_eq_ediv_of_nonneg a (by decide)
theorem RMul64 (h : Base) (x y : Nat) (hx : x < 18446744073709551616) (hy : y < 18446744073709551616) : TrV Try.prog 105 [.int .u64 x, .int .u64 y] h [] (.tuple #[.int .u64 ((x * y / 18446744073709551616 : Nat) : Int), .int .u64 ((x * y % 18446744073709551616 : Nat) : Int)]) [] := by
  refine K.enter Try.func105 rfl (Nat.le_of_ble_eq_true rfl) (fun F => ?_)
  simp only [List.nil_append]
  (repeat' (first | (apply K.s_pure; (first | (apply Y.mv; exact X.mv) | (apply Y.sg; exact X.sg) | (apply Y.badd; exact X.badd) | (apply Y.bmul; exact X.bmul) | (apply Y.band; exact X.band) | (apply Y.bshr; exact X.bshr)); exact rfl) | refine X.l ?_ | refine X.w ?_ | refine X.a ?_ | (refine K.c_condD rfl (fun hc => ?_) (fun hc => ?_) <;> first | (exfalso; omega) | skip) | refine K.c_cond rfl (fun hc => ?_) (fun hc => ?_)))
  refine K.done (by first | exact Or.inl rfl | exact Or.inr rfl) rfl (by first | exact K.Base.le.refl _ | assumption) (H' := []) rfl ⟨?_, rfl, rfl⟩
  have e1 := mul64_arith x y (by omega) (by omega) (by omega) (by omega)
  show Value.tuple #[Value.int _ _, Value.int _ _] = Value.tuple #[Value.int _ _, Value.int _ _]
  congr 4
  · simp only [fd32, K.wu64]
    simp (disch := omega) only [and_low32]
    rw [Int.natCast_ediv, Int.natCast_mul]
    exact e1
theorem abs_cases (x : Int) : (x < 0 ∧ x = -(x.natAbs : Int)) ∨ (¬ x < 0 ∧ x = (x.natAbs : Int)) := by omega
theorem sgn_mul {x y : Int} {nb : Bool} (hn : (!(decide (x < 0) == decide (y < 0))) = nb) : x * y = if nb then -((x.natAbs * y.natAbs : Nat) : Int) else ((x.natAbs * y.natAbs : Nat) : Int) := by
  rw [Int.natCast_mul]
  rcases abs_cases x with ⟨h1, e1⟩ | ⟨h1, e1⟩ <;> rcases abs_cases y with ⟨h2, e2⟩ | ⟨h2, e2⟩ <;> (simp only [h1, h2, decide_true, decide_false, beq_self_eq_true, Bool.not_true, beq_iff_eq, Bool.true_eq_false, Bool.false_eq_true] at hn; first | subst hn | (revert hn; cases nb <;> decide)) <;> generalize x.natAbs = p at * <;> generalize y.natAbs = q at * <;> subst e1 <;> subst e2 <;> simp [Int.neg_mul, Int.mul_neg]
theorem sgn_div {x y : Int} {nb : Bool} (hn : (!(decide (x < 0) == decide (y < 0))) = nb) : x.tdiv y = if nb then -((x.natAbs / y.natAbs : Nat) : Int) else ((x.natAbs / y.natAbs : Nat) : Int) := by
  rw [Int.natCast_ediv, ← Int.tdiv_eq_ediv_of_nonneg (by omega)]
  rcases abs_cases x with ⟨h1, e1⟩ | ⟨h1, e1⟩ <;> rcases abs_cases y with ⟨h2, e2⟩ | ⟨h2, e2⟩ <;> (simp only [h1, h2, decide_true, decide_false, beq_self_eq_true, Bool.not_true, beq_iff_eq, Bool.true_eq_false, Bool.false_eq_true] at hn; first | subst hn | (revert hn; cases nb <;> decide)) <;> generalize x.natAbs = p at * <;> generalize y.natAbs = q at * <;> subst e1 <;> subst e2 <;> simp [Int.neg_tdiv, Int.tdiv_neg]
theorem sgn_mod (x y : Int) : x.tmod y = if x < 0 then -((x.natAbs % y.natAbs : Nat) : Int) else ((x.natAbs % y.natAbs : Nat) : Int) := by
  rw [Int.natCast_emod, ← Int.tmod_eq_emod_of_nonneg (by omega)]
  rcases abs_cases x with ⟨h1, e1⟩ | ⟨h1, e1⟩ <;> rcases abs_cases y with ⟨h2, e2⟩ | ⟨h2, e2⟩ <;> simp only [h1, if_true, if_false] <;> generalize x.natAbs = p at * <;> generalize y.natAbs = q at * <;> subst e1 <;> subst e2 <;> simp [Int.neg_tmod, Int.tmod_neg]
theorem sgn_lo (m : Nat) : (if decide (0 < (m : Int)) = true then -(m : Int) else m) = -(m : Int) := by
  split
  · rfl
  · rename_i hh; simp only [decide_eq_true_eq] at hh; omega
theorem RExact (h : Base) (k : Nat) (hk : k < 5) (x y : Int) (hx : in64 x) (hy : in64 y) (hy0 : 3 ≤ k → y ≠ 0) : Tr Try.prog 78 [.int .i64 k, .int .i64 x, .int .i64 y] h [] (NumP h (exQ k x y)) := by
  have hx' := hx
  have hy' := hy
  unfold in64 at hx' hy'
  refine K.enter Try.func78 rfl (Nat.le_of_ble_eq_true rfl) (fun F => ?_)
  simp only [List.nil_append]
  (repeat' (first | (apply K.s_pure; (first | (apply Y.mv; exact X.mv) | (apply Y.sg; exact X.sg) | (apply Y.pk; exact X.pk) | (apply Y.cv; exact X.cv) | (apply Y.ex; exact X.ex) | (apply Y.ng; exact X.ng) | (apply Y.badd; exact X.badd) | (apply Y.beql; exact X.beql) | (apply Y.bneq; exact X.bneq) | (apply Y.blss; exact X.blss) | (apply Y.bgtr; exact X.bgtr) | (apply Y.bquo; exact X.bquo) | (apply Y.brem; exact X.brem)); exact rfl) | refine X.l ?_ | refine X.w ?_ | refine X.a ?_ | (refine K.c_condD rfl (fun hc => ?_) (fun hc => ?_) <;> first | (exfalso; omega) | skip) | refine K.c_cond rfl (fun hc => ?_) (fun hc => ?_) | (refine K.s_guardD rfl rfl (fun hc => ?_) (fun hc => ?_) <;> first | (exfalso; omega) | skip) | refine K.s_guard rfl rfl (fun hc => ?_) (fun hc => ?_)))
  refine K.l_callV (Fx.cal rfl) rfl (RSize h x hx) (K.pp [] rfl) rfl rfl ?_
  (repeat' (first | (apply K.s_pure; (first | (apply Y.mv; exact X.mv) | (apply Y.sg; exact X.sg) | (apply Y.pk; exact X.pk) | (apply Y.cv; exact X.cv) | (apply Y.ex; exact X.ex) | (apply Y.ng; exact X.ng) | (apply Y.badd; exact X.badd) | (apply Y.beql; exact X.beql) | (apply Y.bneq; exact X.bneq) | (apply Y.blss; exact X.blss) | (apply Y.bgtr; exact X.bgtr) | (apply Y.bquo; exact X.bquo) | (apply Y.brem; exact X.brem)); exact rfl) | refine X.l ?_ | refine X.w ?_ | refine X.a ?_ | (refine K.c_condD rfl (fun hc => ?_) (fun hc => ?_) <;> first | (exfalso; omega) | skip) | refine K.c_cond rfl (fun hc => ?_) (fun hc => ?_) | (refine K.s_guardD rfl rfl (fun hc => ?_) (fun hc => ?_) <;> first | (exfalso; omega) | skip) | refine K.s_guard rfl rfl (fun hc => ?_) (fun hc => ?_)))
  refine K.l_callV (Fx.cal rfl) rfl (RSize h y hy) (K.pp [] rfl) rfl rfl ?_
  simp only [List.nil_append]
  (repeat' (first | (apply K.s_pure; (first | (apply Y.mv; exact X.mv) | (apply Y.sg; exact X.sg) | (apply Y.pk; exact X.pk) | (apply Y.cv; exact X.cv) | (apply Y.ex; exact X.ex) | (apply Y.ng; exact X.ng) | (apply Y.badd; exact X.badd) | (apply Y.beql; exact X.beql) | (apply Y.bneq; exact X.bneq) | (apply Y.blss; exact X.blss) | (apply Y.bgtr; exact X.bgtr) | (apply Y.bquo; exact X.bquo) | (apply Y.brem; exact X.brem)); exact rfl) | refine X.l ?_ | refine X.w ?_ | refine X.a ?_ | (refine K.c_condD rfl (fun hc => ?_) (fun hc => ?_) <;> first | (exfalso; omega) | skip) | refine K.c_cond rfl (fun hc => ?_) (fun hc => ?_) | (refine K.s_guardD rfl rfl (fun hc => ?_) (fun hc => ?_) <;> first | (exfalso; omega) | skip) | refine K.s_guard rfl rfl (fun hc => ?_) (fun hc => ?_)))
  · obtain rfl : k = 0 := by omega
    refine K.l_call (Fx.cal rfl) rfl (RSummed h x y hx hy) (K.pp [] rfl) rfl ?_
    rintro u h' H' - ⟨rfl, rfl, z, rfl, hz⟩
    simp only [List.nil_append]
    (repeat' (first | (apply K.s_pure; (first | (apply Y.mv; exact X.mv) | (apply Y.sg; exact X.sg) | (apply Y.pk; exact X.pk) | (apply Y.cv; exact X.cv) | (apply Y.ex; exact X.ex) | (apply Y.ng; exact X.ng) | (apply Y.badd; exact X.badd) | (apply Y.beql; exact X.beql) | (apply Y.bneq; exact X.bneq) | (apply Y.blss; exact X.blss) | (apply Y.bgtr; exact X.bgtr) | (apply Y.bquo; exact X.bquo) | (apply Y.brem; exact X.brem)); exact rfl) | refine X.l ?_ | refine X.w ?_ | refine X.a ?_ | (refine K.c_condD rfl (fun hc => ?_) (fun hc => ?_) <;> first | (exfalso; omega) | skip) | refine K.c_cond rfl (fun hc => ?_) (fun hc => ?_) | (refine K.s_guardD rfl rfl (fun hc => ?_) (fun hc => ?_) <;> first | (exfalso; omega) | skip) | refine K.s_guard rfl rfl (fun hc => ?_) (fun hc => ?_)))
    refine K.done (by first | exact Or.inl rfl | exact Or.inr rfl) rfl (by first | exact K.Base.le.refl _ | assumption) (H' := []) rfl (num_post rfl hz)
  · obtain rfl : k = 1 := by omega
    have e1 : exQ 1 x y = x - y := rfl
    rw [Int.natCast_one, e1]
    refine K.done (by first | exact Or.inl rfl | exact Or.inr rfl) rfl (by first | exact K.Base.le.refl _ | assumption) (H' := []) rfl (num_post ?_ (fun hd => ?_))
    · rw [decide_eq_decide]; unfold in64; omega
    · unfold in64 at hd
      rw [K.wu64, K.wu64]
      obtain ⟨k, hk, hi⟩ := w64_spec ((x % 18446744073709551616 + 9223372036854775808) % 18446744073709551616)
      unfold in64 at hi
      omega
  · obtain rfl : k = 1 := by omega
    have e1 : exQ 1 x y = x + (0 - y) := by show x - y = _; omega
    rw [Int.natCast_one, e1]
    refine K.l_call (Fx.cal rfl) rfl (RSummed h x (0 - y) hx (by unfold in64; omega)) (K.pp [] rfl) rfl ?_
    rintro u h' H' - ⟨rfl, rfl, z, rfl, hz⟩
    simp only [List.nil_append]
    (repeat' (first | (apply K.s_pure; (first | (apply Y.mv; exact X.mv) | (apply Y.sg; exact X.sg) | (apply Y.pk; exact X.pk) | (apply Y.cv; exact X.cv) | (apply Y.ex; exact X.ex) | (apply Y.ng; exact X.ng) | (apply Y.badd; exact X.badd) | (apply Y.beql; exact X.beql) | (apply Y.bneq; exact X.bneq) | (apply Y.blss; exact X.blss) | (apply Y.bgtr; exact X.bgtr) | (apply Y.bquo; exact X.bquo) | (apply Y.brem; exact X.brem)); exact rfl) | refine X.l ?_ | refine X.w ?_ | refine X.a ?_ | (refine K.c_condD rfl (fun hc => ?_) (fun hc => ?_) <;> first | (exfalso; omega) | skip) | refine K.c_cond rfl (fun hc => ?_) (fun hc => ?_) | (refine K.s_guardD rfl rfl (fun hc => ?_) (fun hc => ?_) <;> first | (exfalso; omega) | skip) | refine K.s_guard rfl rfl (fun hc => ?_) (fun hc => ?_)))
    refine K.done (by first | exact Or.inl rfl | exact Or.inr rfl) rfl (by first | exact K.Base.le.refl _ | assumption) (H' := []) rfl (num_post rfl hz)
  · obtain rfl : k = 2 := by omega
    refine K.l_callV (Fx.cal rfl) rfl (RMul64 h x.natAbs y.natAbs (by omega) (by omega)) (K.pp [] rfl) rfl rfl ?_
    simp only [List.nil_append]
    generalize hnb : (!(decide (x < 0) == decide (y < 0))) = nb
    have hs := sgn_mul hnb
    have e1 : exQ 2 x y = x * y := rfl
    rw [show (((2 : Nat) : Int)) = 2 from rfl, e1]
    generalize x.natAbs * y.natAbs = m at hs ⊢
    have hlo : m % 18446744073709551616 < 18446744073709551616 := Nat.mod_lt _ (by decide)
    cases nb with
    | true =>
      simp only [if_true] at hs
      rw [hs]
      (repeat' (first | (apply K.s_pure; (first | (apply Y.mv; exact X.mv) | (apply Y.sg; exact X.sg) | (apply Y.pk; exact X.pk) | (apply Y.cv; exact X.cv) | (apply Y.ex; exact X.ex) | (apply Y.ng; exact X.ng) | (apply Y.badd; exact X.badd) | (apply Y.beql; exact X.beql) | (apply Y.bneq; exact X.bneq) | (apply Y.blss; exact X.blss) | (apply Y.bgtr; exact X.bgtr) | (apply Y.bquo; exact X.bquo) | (apply Y.brem; exact X.brem)); exact rfl) | refine X.l ?_ | refine X.w ?_ | refine X.a ?_ | (refine K.c_condD rfl (fun hc => ?_) (fun hc => ?_) <;> first | (exfalso; omega) | skip) | refine K.c_cond rfl (fun hc => ?_) (fun hc => ?_) | (refine K.s_guardD rfl rfl (fun hc => ?_) (fun hc => ?_) <;> first | (exfalso; omega) | skip) | refine K.s_guard rfl rfl (fun hc => ?_) (fun hc => ?_)))
      refine K.l_call (Fx.cal rfl) rfl (RSigned h (m % 18446744073709551616) (decide (0 < ((m % 18446744073709551616 : Nat) : Int))) hlo) (K.pp [] rfl) rfl ?_
      rintro u h' H' - ⟨rfl, rfl, z, rfl, hz⟩
      simp only [List.nil_append]
      rw [sgn_lo] at hz ⊢
      unfold in64 at hz
      (repeat' (first | (apply K.s_pure; (first | (apply Y.mv; exact X.mv) | (apply Y.sg; exact X.sg) | (apply Y.pk; exact X.pk) | (apply Y.cv; exact X.cv) | (apply Y.ex; exact X.ex) | (apply Y.ng; exact X.ng) | (apply Y.badd; exact X.badd) | (apply Y.beql; exact X.beql) | (apply Y.bneq; exact X.bneq) | (apply Y.blss; exact X.blss) | (apply Y.bgtr; exact X.bgtr) | (apply Y.bquo; exact X.bquo) | (apply Y.brem; exact X.brem)); exact rfl) | refine X.l ?_ | refine X.w ?_ | refine X.a ?_ | (refine K.c_condD rfl (fun hc => ?_) (fun hc => ?_) <;> first | (exfalso; omega) | skip) | refine K.c_cond rfl (fun hc => ?_) (fun hc => ?_) | (refine K.s_guardD rfl rfl (fun hc => ?_) (fun hc => ?_) <;> first | (exfalso; omega) | skip) | refine K.s_guard rfl rfl (fun hc => ?_) (fun hc => ?_)))
      all_goals
        unfold in64 at hc
        refine K.done (by first | exact Or.inl rfl | exact Or.inr rfl) rfl (by first | exact K.Base.le.refl _ | assumption) (H' := []) rfl (num_post ?_ (fun hd => ?_))
        · first
            | (rw [decide_eq_decide]; unfold in64; omega)
            | (refine (decide_eq_false ?_).symm; unfold in64; omega)
        · unfold in64 at hd
          have := hz (by omega)
          omega
    | false =>
      simp only [Bool.false_eq_true, if_false] at hs
      rw [hs]
      (repeat' (first | (apply K.s_pure; (first | (apply Y.mv; exact X.mv) | (apply Y.sg; exact X.sg) | (apply Y.pk; exact X.pk) | (apply Y.cv; exact X.cv) | (apply Y.ex; exact X.ex) | (apply Y.ng; exact X.ng) | (apply Y.badd; exact X.badd) | (apply Y.beql; exact X.beql) | (apply Y.bneq; exact X.bneq) | (apply Y.blss; exact X.blss) | (apply Y.bgtr; exact X.bgtr) | (apply Y.bquo; exact X.bquo) | (apply Y.brem; exact X.brem)); exact rfl) | refine X.l ?_ | refine X.w ?_ | refine X.a ?_ | (refine K.c_condD rfl (fun hc => ?_) (fun hc => ?_) <;> first | (exfalso; omega) | skip) | refine K.c_cond rfl (fun hc => ?_) (fun hc => ?_) | (refine K.s_guardD rfl rfl (fun hc => ?_) (fun hc => ?_) <;> first | (exfalso; omega) | skip) | refine K.s_guard rfl rfl (fun hc => ?_) (fun hc => ?_)))
      refine K.l_call (Fx.cal rfl) rfl (RSigned h (m % 18446744073709551616) false hlo) (K.pp [] rfl) rfl ?_
      rintro u h' H' - ⟨rfl, rfl, z, rfl, hz⟩
      simp only [List.nil_append, Bool.false_eq_true, if_false] at hz ⊢
      unfold in64 at hz
      (repeat' (first | (apply K.s_pure; (first | (apply Y.mv; exact X.mv) | (apply Y.sg; exact X.sg) | (apply Y.pk; exact X.pk) | (apply Y.cv; exact X.cv) | (apply Y.ex; exact X.ex) | (apply Y.ng; exact X.ng) | (apply Y.badd; exact X.badd) | (apply Y.beql; exact X.beql) | (apply Y.bneq; exact X.bneq) | (apply Y.blss; exact X.blss) | (apply Y.bgtr; exact X.bgtr) | (apply Y.bquo; exact X.bquo) | (apply Y.brem; exact X.brem)); exact rfl) | refine X.l ?_ | refine X.w ?_ | refine X.a ?_ | (refine K.c_condD rfl (fun hc => ?_) (fun hc => ?_) <;> first | (exfalso; omega) | skip) | refine K.c_cond rfl (fun hc => ?_) (fun hc => ?_) | (refine K.s_guardD rfl rfl (fun hc => ?_) (fun hc => ?_) <;> first | (exfalso; omega) | skip) | refine K.s_guard rfl rfl (fun hc => ?_) (fun hc => ?_)))
      all_goals
        unfold in64 at hc
        refine K.done (by first | exact Or.inl rfl | exact Or.inr rfl) rfl (by first | exact K.Base.le.refl _ | assumption) (H' := []) rfl (num_post ?_ (fun hd => ?_))
        · first
            | (rw [decide_eq_decide]; unfold in64; omega)
            | (refine (decide_eq_false ?_).symm; unfold in64; omega)
        · unfold in64 at hd
          have := hz (by omega)
          omega
  · obtain rfl : k = 3 := by omega
    generalize hnb : (!(decide (x < 0) == decide (y < 0))) = nb
    have hs := sgn_div hnb
    have e1 : exQ 3 x y = x.tdiv y := rfl
    have hq0 := hy0 (Nat.le_refl _)
    rw [show (((3 : Nat) : Int)) = 3 from rfl, e1]
    have hle := Nat.div_le_self x.natAbs y.natAbs
    have hmx : x.natAbs / y.natAbs < 18446744073709551616 := by omega
    have hwq : ((x.natAbs : Int) / (y.natAbs : Int)) = ((x.natAbs / y.natAbs : Nat) : Int) := (Int.natCast_ediv _ _).symm
    cases nb with
    | true =>
      simp only [if_true] at hs
      rw [hs]
      refine X.draw ([]) [] (.pu 0 (.pu 1 (.pu 2 (.pu 3 (.pu 4 (.pu 5 (.pu 6 (.pu 7 (.pu 8 (.pu 9 (.on 10 (.pu 11 (.pu 12 (.pu 13 (.pu 14 .nil))))))))))))))) ?_
      refine K.d_pu rfl (fun _ _ => X.mv) rfl ?_
      refine K.d_pu rfl (fun _ _ => X.mv) rfl ?_
      refine K.d_pu rfl (fun _ _ => X.bquo) rfl ?_
      refine K.d_pu rfl (fun _ _ => X.mv) rfl ?_
      refine K.d_pu rfl (fun _ _ => X.mv) rfl ?_
      first | refine K.d_skip rfl rfl rfl rfl ?_ | refine K.d_skipU rfl rfl rfl rfl rfl ?_ | refine K.d_puG rfl rfl rfl (fun _ _ => X.mv) rfl ?_
      first | refine K.d_skip rfl rfl rfl rfl ?_ | refine K.d_skipU rfl rfl rfl rfl rfl ?_ | refine K.d_puG rfl rfl rfl (fun _ _ => X.mv) rfl ?_
      first | refine K.d_skip rfl rfl rfl rfl ?_ | refine K.d_skipU rfl rfl rfl rfl rfl ?_ | refine K.d_puG rfl rfl rfl (fun _ _ => X.bquo) rfl ?_
      first | refine K.d_skip rfl rfl rfl rfl ?_ | refine K.d_skipU rfl rfl rfl rfl rfl ?_ | refine K.d_puG rfl rfl rfl (fun _ _ => X.bgtr) rfl ?_
      refine K.d_pu rfl (fun _ _ => X.pk) rfl ?_
      refine K.d_on rfl (fun KK hKK => ?_)
      rw [hwq]
      refine K.l_call (Fx.cal rfl) rfl (RSigned h (x.natAbs / y.natAbs) (decide (0 < ((x.natAbs / y.natAbs : Nat) : Int))) hmx) (K.pp [] rfl) rfl ?_
      rintro u h' H' - ⟨rfl, rfl, z, rfl, hz⟩
      rw [sgn_lo] at hz ⊢
      simp only [List.nil_append]
      refine K.l_nil ?_
      refine X.onE hKK ?_
      refine K.d_pu rfl (fun _ _ => X.ex) rfl ?_
      refine K.d_pu rfl (fun _ _ => X.ex) rfl ?_
      refine K.d_pu rfl (fun _ _ => X.sg) rfl ?_
      refine K.d_pu rfl (fun _ _ => X.sg) rfl ?_
      refine K.d_nil ?_
      (repeat' (first | (apply K.s_pure; (first | (apply Y.mv; exact X.mv) | (apply Y.sg; exact X.sg) | (apply Y.pk; exact X.pk) | (apply Y.cv; exact X.cv) | (apply Y.ex; exact X.ex) | (apply Y.ng; exact X.ng) | (apply Y.badd; exact X.badd) | (apply Y.beql; exact X.beql) | (apply Y.bneq; exact X.bneq) | (apply Y.blss; exact X.blss) | (apply Y.bgtr; exact X.bgtr) | (apply Y.bquo; exact X.bquo) | (apply Y.brem; exact X.brem)); exact rfl) | refine X.l ?_ | refine X.w ?_ | refine X.a ?_ | (refine K.c_condD rfl (fun hc => ?_) (fun hc => ?_) <;> first | (exfalso; omega) | skip) | refine K.c_cond rfl (fun hc => ?_) (fun hc => ?_) | (refine K.s_guardD rfl rfl (fun hc => ?_) (fun hc => ?_) <;> first | (exfalso; omega) | skip) | refine K.s_guard rfl rfl (fun hc => ?_) (fun hc => ?_)))
      refine K.done (by first | exact Or.inl rfl | exact Or.inr rfl) rfl (by first | exact K.Base.le.refl _ | assumption) (H' := []) rfl (num_post rfl hz)
    | false =>
      simp only [Bool.false_eq_true, if_false] at hs
      rw [hs]
      refine X.draw ([]) [] (.pu 0 (.pu 1 (.pu 2 (.pu 3 (.pu 4 (.pu 5 (.pu 6 (.pu 7 (.pu 8 (.pu 9 (.on 10 (.pu 11 (.pu 12 (.pu 13 (.pu 14 .nil))))))))))))))) ?_
      refine K.d_pu rfl (fun _ _ => X.mv) rfl ?_
      refine K.d_pu rfl (fun _ _ => X.mv) rfl ?_
      refine K.d_pu rfl (fun _ _ => X.bquo) rfl ?_
      refine K.d_pu rfl (fun _ _ => X.mv) rfl ?_
      refine K.d_pu rfl (fun _ _ => X.mv) rfl ?_
      first | refine K.d_skip rfl rfl rfl rfl ?_ | refine K.d_skipU rfl rfl rfl rfl rfl ?_ | refine K.d_puG rfl rfl rfl (fun _ _ => X.mv) rfl ?_
      first | refine K.d_skip rfl rfl rfl rfl ?_ | refine K.d_skipU rfl rfl rfl rfl rfl ?_ | refine K.d_puG rfl rfl rfl (fun _ _ => X.mv) rfl ?_
      first | refine K.d_skip rfl rfl rfl rfl ?_ | refine K.d_skipU rfl rfl rfl rfl rfl ?_ | refine K.d_puG rfl rfl rfl (fun _ _ => X.bquo) rfl ?_
      first | refine K.d_skip rfl rfl rfl rfl ?_ | refine K.d_skipU rfl rfl rfl rfl rfl ?_ | refine K.d_puG rfl rfl rfl (fun _ _ => X.bgtr) rfl ?_
      refine K.d_pu rfl (fun _ _ => X.pk) rfl ?_
      refine K.d_on rfl (fun KK hKK => ?_)
      rw [hwq]
      refine K.l_call (Fx.cal rfl) rfl (RSigned h (x.natAbs / y.natAbs) false hmx) (K.pp [] rfl) rfl ?_
      rintro u h' H' - ⟨rfl, rfl, z, rfl, hz⟩
      simp only [List.nil_append, Bool.false_eq_true, if_false] at hz ⊢
      refine K.l_nil ?_
      refine X.onE hKK ?_
      refine K.d_pu rfl (fun _ _ => X.ex) rfl ?_
      refine K.d_pu rfl (fun _ _ => X.ex) rfl ?_
      refine K.d_pu rfl (fun _ _ => X.sg) rfl ?_
      refine K.d_pu rfl (fun _ _ => X.sg) rfl ?_
      refine K.d_nil ?_
      (repeat' (first | (apply K.s_pure; (first | (apply Y.mv; exact X.mv) | (apply Y.sg; exact X.sg) | (apply Y.pk; exact X.pk) | (apply Y.cv; exact X.cv) | (apply Y.ex; exact X.ex) | (apply Y.ng; exact X.ng) | (apply Y.badd; exact X.badd) | (apply Y.beql; exact X.beql) | (apply Y.bneq; exact X.bneq) | (apply Y.blss; exact X.blss) | (apply Y.bgtr; exact X.bgtr) | (apply Y.bquo; exact X.bquo) | (apply Y.brem; exact X.brem)); exact rfl) | refine X.l ?_ | refine X.w ?_ | refine X.a ?_ | (refine K.c_condD rfl (fun hc => ?_) (fun hc => ?_) <;> first | (exfalso; omega) | skip) | refine K.c_cond rfl (fun hc => ?_) (fun hc => ?_) | (refine K.s_guardD rfl rfl (fun hc => ?_) (fun hc => ?_) <;> first | (exfalso; omega) | skip) | refine K.s_guard rfl rfl (fun hc => ?_) (fun hc => ?_)))
      refine K.done (by first | exact Or.inl rfl | exact Or.inr rfl) rfl (by first | exact K.Base.le.refl _ | assumption) (H' := []) rfl (num_post rfl hz)
  · obtain rfl : k = 4 := by omega
    have hs := sgn_mod x y
    have e1 : exQ 4 x y = x.tmod y := rfl
    have hq0 := hy0 (by omega)
    rw [show (((4 : Nat) : Int)) = 4 from rfl, e1]
    have hle := Nat.mod_le x.natAbs y.natAbs
    have hmx : x.natAbs % y.natAbs < 18446744073709551616 := by omega
    have hwq : ((x.natAbs : Int) % (y.natAbs : Int)) = ((x.natAbs % y.natAbs : Nat) : Int) := (Int.natCast_emod _ _).symm
    by_cases hx0 : x < 0
    · simp only [hx0, if_true] at hs
      rw [hs]
      refine X.draw ([]) [] (.pu 0 (.pu 1 (.pu 2 (.pu 3 (.pu 4 (.pu 5 (.pu 6 (.pu 7 (.pu 8 (.pu 9 (.pu 10 (.on 11 (.pu 12 (.pu 13 (.pu 14 (.pu 15 .nil)))))))))))))))) ?_
      refine K.d_pu rfl (fun _ _ => X.mv) rfl ?_
      refine K.d_pu rfl (fun _ _ => X.mv) rfl ?_
      refine K.d_pu rfl (fun _ _ => X.brem) rfl ?_
      refine K.d_pu rfl (fun _ _ => X.mv) rfl ?_
      refine K.d_pu rfl (fun _ _ => X.blss) rfl ?_
      rw [decide_eq_true hx0]
      refine K.d_pu rfl (fun _ _ => X.mv) rfl ?_
      first | refine K.d_skip rfl rfl rfl rfl ?_ | refine K.d_skipU rfl rfl rfl rfl rfl ?_ | refine K.d_puG rfl rfl rfl (fun _ _ => X.mv) rfl ?_
      first | refine K.d_skip rfl rfl rfl rfl ?_ | refine K.d_skipU rfl rfl rfl rfl rfl ?_ | refine K.d_puG rfl rfl rfl (fun _ _ => X.mv) rfl ?_
      first | refine K.d_skip rfl rfl rfl rfl ?_ | refine K.d_skipU rfl rfl rfl rfl rfl ?_ | refine K.d_puG rfl rfl rfl (fun _ _ => X.brem) rfl ?_
      first | refine K.d_skip rfl rfl rfl rfl ?_ | refine K.d_skipU rfl rfl rfl rfl rfl ?_ | refine K.d_puG rfl rfl rfl (fun _ _ => X.bgtr) rfl ?_
      refine K.d_pu rfl (fun _ _ => X.pk) rfl ?_
      refine K.d_on rfl (fun KK hKK => ?_)
      rw [hwq]
      refine K.l_call (Fx.cal rfl) rfl (RSigned h (x.natAbs % y.natAbs) (decide (0 < ((x.natAbs % y.natAbs : Nat) : Int))) hmx) (K.pp [] rfl) rfl ?_
      rintro u h' H' - ⟨rfl, rfl, z, rfl, hz⟩
      rw [sgn_lo] at hz ⊢
      simp only [List.nil_append]
      refine K.l_nil ?_
      refine X.onE hKK ?_
      refine K.d_pu rfl (fun _ _ => X.ex) rfl ?_
      refine K.d_pu rfl (fun _ _ => X.ex) rfl ?_
      refine K.d_pu rfl (fun _ _ => X.sg) rfl ?_
      refine K.d_pu rfl (fun _ _ => X.sg) rfl ?_
      refine K.d_nil ?_
      (repeat' (first | (apply K.s_pure; (first | (apply Y.mv; exact X.mv) | (apply Y.sg; exact X.sg) | (apply Y.pk; exact X.pk) | (apply Y.cv; exact X.cv) | (apply Y.ex; exact X.ex) | (apply Y.ng; exact X.ng) | (apply Y.badd; exact X.badd) | (apply Y.beql; exact X.beql) | (apply Y.bneq; exact X.bneq) | (apply Y.blss; exact X.blss) | (apply Y.bgtr; exact X.bgtr) | (apply Y.bquo; exact X.bquo) | (apply Y.brem; exact X.brem)); exact rfl) | refine X.l ?_ | refine X.w ?_ | refine X.a ?_ | (refine K.c_condD rfl (fun hc => ?_) (fun hc => ?_) <;> first | (exfalso; omega) | skip) | refine K.c_cond rfl (fun hc => ?_) (fun hc => ?_) | (refine K.s_guardD rfl rfl (fun hc => ?_) (fun hc => ?_) <;> first | (exfalso; omega) | skip) | refine K.s_guard rfl rfl (fun hc => ?_) (fun hc => ?_)))
      refine K.done (by first | exact Or.inl rfl | exact Or.inr rfl) rfl (by first | exact K.Base.le.refl _ | assumption) (H' := []) rfl (num_post rfl hz)
    · simp only [hx0, if_false] at hs
      rw [hs]
      refine X.draw ([]) [] (.pu 0 (.pu 1 (.pu 2 (.pu 3 (.pu 4 (.pu 5 (.pu 6 (.pu 7 (.pu 8 (.pu 9 (.pu 10 (.on 11 (.pu 12 (.pu 13 (.pu 14 (.pu 15 .nil)))))))))))))))) ?_
      refine K.d_pu rfl (fun _ _ => X.mv) rfl ?_
      refine K.d_pu rfl (fun _ _ => X.mv) rfl ?_
      refine K.d_pu rfl (fun _ _ => X.brem) rfl ?_
      refine K.d_pu rfl (fun _ _ => X.mv) rfl ?_
      refine K.d_pu rfl (fun _ _ => X.blss) rfl ?_
      rw [decide_eq_false hx0]
      refine K.d_pu rfl (fun _ _ => X.mv) rfl ?_
      first | refine K.d_skip rfl rfl rfl rfl ?_ | refine K.d_skipU rfl rfl rfl rfl rfl ?_ | refine K.d_puG rfl rfl rfl (fun _ _ => X.mv) rfl ?_
      first | refine K.d_skip rfl rfl rfl rfl ?_ | refine K.d_skipU rfl rfl rfl rfl rfl ?_ | refine K.d_puG rfl rfl rfl (fun _ _ => X.mv) rfl ?_
      first | refine K.d_skip rfl rfl rfl rfl ?_ | refine K.d_skipU rfl rfl rfl rfl rfl ?_ | refine K.d_puG rfl rfl rfl (fun _ _ => X.brem) rfl ?_
      first | refine K.d_skip rfl rfl rfl rfl ?_ | refine K.d_skipU rfl rfl rfl rfl rfl ?_ | refine K.d_puG rfl rfl rfl (fun _ _ => X.bgtr) rfl ?_
      refine K.d_pu rfl (fun _ _ => X.pk) rfl ?_
      refine K.d_on rfl (fun KK hKK => ?_)
      rw [hwq]
      refine K.l_call (Fx.cal rfl) rfl (RSigned h (x.natAbs % y.natAbs) false hmx) (K.pp [] rfl) rfl ?_
      rintro u h' H' - ⟨rfl, rfl, z, rfl, hz⟩
      simp only [List.nil_append, Bool.false_eq_true, if_false] at hz ⊢
      refine K.l_nil ?_
      refine X.onE hKK ?_
      refine K.d_pu rfl (fun _ _ => X.ex) rfl ?_
      refine K.d_pu rfl (fun _ _ => X.ex) rfl ?_
      refine K.d_pu rfl (fun _ _ => X.sg) rfl ?_
      refine K.d_pu rfl (fun _ _ => X.sg) rfl ?_
      refine K.d_nil ?_
      (repeat' (first | (apply K.s_pure; (first | (apply Y.mv; exact X.mv) | (apply Y.sg; exact X.sg) | (apply Y.pk; exact X.pk) | (apply Y.cv; exact X.cv) | (apply Y.ex; exact X.ex) | (apply Y.ng; exact X.ng) | (apply Y.badd; exact X.badd) | (apply Y.beql; exact X.beql) | (apply Y.bneq; exact X.bneq) | (apply Y.blss; exact X.blss) | (apply Y.bgtr; exact X.bgtr) | (apply Y.bquo; exact X.bquo) | (apply Y.brem; exact X.brem)); exact rfl) | refine X.l ?_ | refine X.w ?_ | refine X.a ?_ | (refine K.c_condD rfl (fun hc => ?_) (fun hc => ?_) <;> first | (exfalso; omega) | skip) | refine K.c_cond rfl (fun hc => ?_) (fun hc => ?_) | (refine K.s_guardD rfl rfl (fun hc => ?_) (fun hc => ?_) <;> first | (exfalso; omega) | skip) | refine K.s_guard rfl rfl (fun hc => ?_) (fun hc => ?_)))
      refine K.done (by first | exact Or.inl rfl | exact Or.inr rfl) rfl (by first | exact K.Base.le.refl _ | assumption) (H' := []) rfl (num_post rfl hz)
end Go.Proofs.Yteminhinpbcepaa.Rw
