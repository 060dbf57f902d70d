/-
  Values reckoned: what the numbers' operations answer. Conditions: each theorem's own.
-/
import Derived.Test.YtmkhejdamjibgaaDc
import Derived.Laws.MathBits

namespace Go.Proofs.Ytmkhejdamjibgaa.Rw
open Go Go.K Go.Proofs Go.Proofs.Ytmkhejdamjibgaa
set_option linter.unusedVariables false
set_option linter.unusedSimpArgs false
set_option maxRecDepth 10000

def in64 (z : Int) : Prop := -9223372036854775808 ≤ z ∧ z ≤ 9223372036854775807
instance (z : Int) : Decidable (in64 z) := by unfold in64; infer_instance
/-- The exact answer: a sum, a difference, a product, a quotient, a rest. -/
def exQ (k : Nat) (x y : Int) : Int := if k = 0 then x + y else if k = 1 then x - y else if k = 2 then x * y else if k = 3 then x.tdiv y else x.tmod y
theorem w64_spec (z : Int) : ∃ k : Int, IntKind.i64.wrap z = z + k * 18446744073709551616 ∧ in64 (IntKind.i64.wrap z) := by
  simp only [IntKind.wrap, IntKind.bits, IntKind.signed, Nat.reduceSub, Int.reducePow, Bool.true_and, decide_eq_true_eq, ge_iff_le, in64]
  split
  · exact ⟨-(z / 18446744073709551616) - 1, by omega, by omega, by omega⟩
  · exact ⟨-(z / 18446744073709551616), by omega, by omega, by omega⟩
theorem u64_spec (z : Int) : ∃ k : Int, IntKind.u64.wrap z = z + k * 18446744073709551616 ∧ 0 ≤ IntKind.u64.wrap z ∧ IntKind.u64.wrap z < 18446744073709551616 := by
  simp only [IntKind.wrap, IntKind.bits, IntKind.signed, Int.reducePow, Bool.false_and, Bool.false_eq_true, if_false]
  exact ⟨-(z / 18446744073709551616), by omega, by omega, by omega⟩
theorem tdiv_in {x y : Int} (hx : in64 x) (hy : in64 y) (hy0 : y ≠ 0) : in64 (x.tdiv y) ↔ ¬ (x = -9223372036854775808 ∧ y = -1) := by
  unfold in64 at *
  have hm : (x.tdiv y).natAbs = x.natAbs / y.natAbs := Int.natAbs_tdiv x y
  constructor
  · rintro h ⟨rfl, rfl⟩
    have : ((-9223372036854775808 : Int).tdiv (-1)) = 9223372036854775808 := by decide
    omega
  · intro h
    by_cases h1 : y.natAbs = 1
    · rw [h1, Nat.div_one] at hm
      have : y = 1 ∨ y = -1 := by omega
      rcases this with rfl | rfl
      · rw [Int.tdiv_one]; exact hx
      · rw [Int.tdiv_neg, Int.tdiv_one]; omega
    · have : x.natAbs / y.natAbs ≤ x.natAbs / 2 := Nat.div_le_div_left (by omega) (by omega)
      omega
theorem w64_in {z : Int} (h : in64 z) : IntKind.i64.wrap z = z := K.wr_i64 h.1 h.2
theorem tmod_in {x y : Int} (hx : in64 x) (hy : in64 y) (hy0 : y ≠ 0) : in64 (x.tmod y) := by
  have h1 := Int.natAbs_tmod x y
  have h2 := Nat.mod_le x.natAbs y.natAbs
  have h3 : x.natAbs % y.natAbs < y.natAbs := Nat.mod_lt _ (by omega)
  unfold in64 at *
  omega
/-- The product's trial. -/
theorem mul_back {x y : Int} (hx : in64 x) (hy : in64 y) (hx0 : x ≠ 0) (hy0 : y ≠ 0) (h1 : ¬ (x = -1 ∧ y = -9223372036854775808)) (h2 : ¬ (y = -1 ∧ x = -9223372036854775808)) : in64 (x * y) ↔ IntKind.i64.wrap ((IntKind.i64.wrap (x * y)).tdiv y) = x := by
  obtain ⟨k, hk, hi⟩ := w64_spec (x * y)
  constructor
  · intro h
    rw [w64_in h, Int.mul_tdiv_cancel _ hy0, w64_in hx]
  · intro h
    generalize IntKind.i64.wrap (x * y) = z at hk hi h
    by_cases hb : z = -9223372036854775808 ∧ y = -1
    · obtain ⟨rfl, rfl⟩ := hb
      have : ((-9223372036854775808 : Int).tdiv (-1)) = 9223372036854775808 := by decide
      rw [this] at h
      have : IntKind.i64.wrap 9223372036854775808 = -9223372036854775808 := by decide
      omega
    · rw [w64_in ((tdiv_in hi hy hy0).2 hb)] at h
      have e1 := Int.tdiv_mul_add_tmod z y
      have e2 := Int.natAbs_tmod z y
      have e3 : z.natAbs % y.natAbs < y.natAbs := Nat.mod_lt _ (by omega)
      rw [h] at e1
      generalize z.tmod y = m at e1 e2
      have : k = 0 := by
        unfold in64 at hy
        omega
      subst this
      have : x * y = z := by omega
      rw [this]; exact hi
/-- A number and whether it is in 64 bits. -/
def NumP (h : Base) (e : Int) (v : Value) (h' : Base) (H' : List Asrt) : Prop := h = h' ∧ H' = [] ∧ ∃ z, v = .tuple #[.int .i64 z, .bool (decide (in64 e))] ∧ (in64 e → z = e)
theorem num_post {h : Base} {e z : Int} {b : Bool} (hb : b = decide (in64 e)) (hz : in64 e → z = e) : NumP h e (.tuple #[.int .i64 z, .bool b]) h [] := ⟨rfl, rfl, z, by rw [hb], hz⟩

theorem AddF (h : Base) (x y : Int) (hx : in64 x) (hy : in64 y) : Tr Try.prog 75 [.int .i64 x, .int .i64 y] h [] (NumP h (exQ 0 x y)) := by
  have e : exQ 0 x y = x + y := rfl
  rw [e]
  obtain ⟨k, hk, hi⟩ := w64_spec (x + y)
  unfold in64 at hx hy hi
  refine K.enter Try.func75 rfl (Nat.le_of_ble_eq_true rfl) (fun F => ?_)
  simp only [List.nil_append]
  (repeat' (first | refine X.rq ?_ | (refine X.rc ?_ ?_ <;> intro hc <;> first | (exfalso; omega) | skip)))
  all_goals
    refine K.done (by first | exact Or.inl rfl | exact Or.inr rfl) rfl (by first | exact K.Base.le.refl _ | assumption) (H' := []) rfl (num_post ?_ (fun hin => ?_))
    · rw [Bool.eq_iff_iff, decide_eq_true_iff]
      unfold in64
      simp only [Bool.not_eq_true', Bool.not_eq_false', beq_eq_false_iff_ne, beq_iff_eq, ne_eq, decide_eq_decide, eq_self, true_iff, false_iff, iff_true, Bool.false_eq_true] at *
      omega
    · unfold in64 at hin
      omega
theorem SubF (h : Base) (x y : Int) (hx : in64 x) (hy : in64 y) : Tr Try.prog 76 [.int .i64 x, .int .i64 y] h [] (NumP h (exQ 1 x y)) := by
  have e : exQ 1 x y = x - y := rfl
  rw [e]
  obtain ⟨k, hk, hi⟩ := w64_spec (x - y)
  unfold in64 at hx hy hi
  refine K.enter Try.func76 rfl (Nat.le_of_ble_eq_true rfl) (fun F => ?_)
  simp only [List.nil_append]
  (repeat' (first | refine X.rq ?_ | (refine X.rc ?_ ?_ <;> intro hc <;> first | (exfalso; omega) | skip)))
  all_goals
    refine K.done (by first | exact Or.inl rfl | exact Or.inr rfl) rfl (by first | exact K.Base.le.refl _ | assumption) (H' := []) rfl (num_post ?_ (fun hin => ?_))
    · rw [Bool.eq_iff_iff, decide_eq_true_iff]
      unfold in64
      simp only [Bool.not_eq_true', Bool.not_eq_false', beq_eq_false_iff_ne, beq_iff_eq, ne_eq, decide_eq_decide, eq_self, true_iff, false_iff, iff_true, Bool.false_eq_true] at *
      omega
    · unfold in64 at hin
      omega
theorem NegF (h : Base) (x y : Int) (hx : x = 0) (hy : in64 y) : Tr Try.prog 52 [.int .i64 x, .int .i64 y] h [] (NumP h (exQ 1 x y)) := by
  have e : exQ 1 x y = 0 - y := by rw [hx]; rfl
  rw [e]
  obtain ⟨k, hk, hi⟩ := w64_spec (0 - y)
  unfold in64 at hy hi
  refine K.enter Try.func52 rfl (Nat.le_of_ble_eq_true rfl) (fun F => ?_)
  simp only [List.nil_append]
  (repeat' (first | refine X.rq ?_ | (refine X.rc ?_ ?_ <;> intro hc <;> first | (exfalso; omega) | skip)))
  refine K.done (by first | exact Or.inl rfl | exact Or.inr rfl) rfl (by first | exact K.Base.le.refl _ | assumption) (H' := []) rfl (num_post ?_ (fun hin => ?_))
  · rw [Bool.eq_iff_iff, decide_eq_true_iff, decide_eq_true_iff]
    unfold in64
    omega
  · unfold in64 at hin
    omega
theorem DivF (h : Base) (x y : Int) (hx : in64 x) (hy : in64 y) (hy0 : y ≠ 0) : Tr Try.prog 78 [.int .i64 x, .int .i64 y] h [] (NumP h (exQ 3 x y)) := by
  have e : exQ 3 x y = x.tdiv y := rfl
  rw [e]
  have hin := tdiv_in hx hy hy0
  obtain ⟨k, hk, hi⟩ := w64_spec (x.tdiv y)
  refine K.enter Try.func78 rfl (Nat.le_of_ble_eq_true rfl) (fun F => ?_)
  simp only [List.nil_append]
  (repeat' (first | refine X.rq ?_ | (refine X.rc ?_ ?_ <;> intro hc <;> first | (exfalso; omega) | skip)))
  · refine K.done (by first | exact Or.inl rfl | exact Or.inr rfl) rfl (by first | exact K.Base.le.refl _ | assumption) (H' := []) rfl (num_post (decide_eq_false (fun hd => absurd ⟨by assumption, by assumption⟩ (hin.1 hd))).symm (fun hd => absurd ⟨by assumption, by assumption⟩ (hin.1 hd)))
  · have hi2 : in64 (x.tdiv y) := hin.2 (fun hh => hc hh.2)
    refine K.done (by first | exact Or.inl rfl | exact Or.inr rfl) rfl (by first | exact K.Base.le.refl _ | assumption) (H' := []) rfl (num_post (decide_eq_true hi2).symm (fun _ => w64_in hi2))
  · have hi2 : in64 (x.tdiv y) := hin.2 (fun hh => hc hh.1)
    refine K.done (by first | exact Or.inl rfl | exact Or.inr rfl) rfl (by first | exact K.Base.le.refl _ | assumption) (H' := []) rfl (num_post (decide_eq_true hi2).symm (fun _ => w64_in hi2))
theorem ModF (h : Base) (x y : Int) (hx : in64 x) (hy : in64 y) (hy0 : y ≠ 0) : Tr Try.prog 79 [.int .i64 x, .int .i64 y] h [] (NumP h (exQ 4 x y)) := by
  have e : exQ 4 x y = x.tmod y := rfl
  rw [e]
  have hin := tmod_in hx hy hy0
  refine K.enter Try.func79 rfl (Nat.le_of_ble_eq_true rfl) (fun F => ?_)
  simp only [List.nil_append]
  (repeat' (first | refine X.rq ?_ | (refine X.rc ?_ ?_ <;> intro hc <;> first | (exfalso; omega) | skip)))
  · have e0 : x.tmod y = 0 := by rw [hc, Int.tmod_neg, Int.tmod_one]
    refine K.done (by first | exact Or.inl rfl | exact Or.inr rfl) rfl (by first | exact K.Base.le.refl _ | assumption) (H' := []) rfl (num_post (decide_eq_true hin).symm (fun _ => e0.symm))
  · refine K.done (by first | exact Or.inl rfl | exact Or.inr rfl) rfl (by first | exact K.Base.le.refl _ | assumption) (H' := []) rfl (num_post (decide_eq_true hin).symm (fun _ => rfl))
set_option maxHeartbeats 1000000 in
theorem MulF (h : Base) (x y : Int) (hx : in64 x) (hy : in64 y) : Tr Try.prog 77 [.int .i64 x, .int .i64 y] h [] (NumP h (exQ 2 x y)) := by
  have e : exQ 2 x y = x * y := rfl
  rw [e]
  have hz := mul_back hx hy
  refine K.enter Try.func77 rfl (Nat.le_of_ble_eq_true rfl) (fun F => ?_)
  simp only [List.nil_append]
  (repeat' (first | refine X.rq ?_ | (refine X.rc ?_ ?_ <;> intro hc <;> first | (exfalso; omega) | skip)))
  · have e0 : x * y = 0 := by rw [hc, Int.zero_mul]
    refine K.done (by first | exact Or.inl rfl | exact Or.inr rfl) rfl (by first | exact K.Base.le.refl _ | assumption) (H' := []) rfl (num_post (decide_eq_true (by rw [e0]; unfold in64; omega)).symm (fun _ => e0.symm))
  · have e0 : x * y = 0 := by rw [hc, Int.mul_zero]
    refine K.done (by first | exact Or.inl rfl | exact Or.inr rfl) rfl (by first | exact K.Base.le.refl _ | assumption) (H' := []) rfl (num_post (decide_eq_true (by rw [e0]; unfold in64; omega)).symm (fun _ => e0.symm))
  · rename_i hx0
    have hy0 := hc
    refine X.draw ([]) [] (.pu 0 (.pu 1 (.pu 2 (.pu 3 (.pu 4 (.pu 5 (.pu 6 (.pu 7 (.pu 8 (.pu 9 (.pu 10 (.pu 11 (.pu 12 (.pu 13 (.pu 14 (.pu 15 (.pu 16 (.pu 17 (.pu 18 (.pu 19 (.pu 20 (.pu 21 (.pu 22 (.pu 23 (.pu 24 .nil))))))))))))))))))))))))) ?_
    all_goals (refine K.d_pu rfl (fun _ _ => X.mv) rfl ?_)
    all_goals (refine K.d_pu rfl (fun _ _ => X.mv) rfl ?_)
    all_goals (refine K.d_pu rfl (fun _ _ => X.beql) rfl ?_)
    all_goals (refine K.d_pu rfl (fun _ _ => X.mv) rfl ?_)
    all_goals try (refine K.d_splitD (s := 19) rfl (fun hc => ?_) (fun hc => ?_) <;> first | (exfalso; omega) | skip)
    all_goals (first | refine K.d_skip rfl rfl rfl rfl ?_ | refine K.d_skipU rfl rfl rfl rfl rfl ?_ | refine K.d_puG rfl rfl rfl (fun _ _ => X.mv) rfl ?_)
    all_goals (first | refine K.d_skip rfl rfl rfl rfl ?_ | refine K.d_skipU rfl rfl rfl rfl rfl ?_ | refine K.d_puG rfl rfl rfl (fun _ _ => X.beql) rfl ?_)
    all_goals (refine K.d_pu rfl (fun _ _ => X.pk) rfl ?_)
    all_goals (refine K.d_pu rfl (fun _ _ => X.mv) rfl ?_)
    all_goals try (refine K.d_splitD (s := 23) rfl (fun hc => ?_) (fun hc => ?_) <;> first | (exfalso; omega) | skip)
    all_goals (first | refine K.d_skip rfl rfl rfl rfl ?_ | refine K.d_skipU rfl rfl rfl rfl rfl ?_ | refine K.d_puG rfl rfl rfl (fun _ _ => X.mv) rfl ?_)
    all_goals (first | refine K.d_skip rfl rfl rfl rfl ?_ | refine K.d_skipU rfl rfl rfl rfl rfl ?_ | refine K.d_puG rfl rfl rfl (fun _ _ => X.beql) rfl ?_)
    all_goals (first | refine K.d_skip rfl rfl rfl rfl ?_ | refine K.d_skipU rfl rfl rfl rfl rfl ?_ | refine K.d_puG rfl rfl rfl (fun _ _ => X.mv) rfl ?_)
    all_goals try (refine K.d_splitD (s := 26) rfl (fun hc => ?_) (fun hc => ?_) <;> first | (exfalso; omega) | skip)
    all_goals (first | refine K.d_skip rfl rfl rfl rfl ?_ | refine K.d_skipU rfl rfl rfl rfl rfl ?_ | refine K.d_puG rfl rfl rfl (fun _ _ => X.mv) rfl ?_)
    all_goals (first | refine K.d_skip rfl rfl rfl rfl ?_ | refine K.d_skipU rfl rfl rfl rfl rfl ?_ | refine K.d_puG rfl rfl rfl (fun _ _ => X.beql) rfl ?_)
    all_goals (first | refine K.d_skip rfl rfl rfl rfl ?_ | refine K.d_skipU rfl rfl rfl rfl rfl ?_ | refine K.d_puG rfl rfl rfl (fun _ _ => X.pk) rfl ?_)
    all_goals (refine K.d_pu rfl (fun _ _ => X.pk) rfl ?_)
    all_goals (refine K.d_pu rfl (fun _ _ => X.nt) rfl ?_)
    all_goals (refine K.d_pu rfl (fun _ _ => X.mv) rfl ?_)
    all_goals try (refine K.d_splitD (s := 32) rfl (fun hc => ?_) (fun hc => ?_) <;> first | (exfalso; omega) | skip)
    all_goals (first | refine K.d_skip rfl rfl rfl rfl ?_ | refine K.d_skipU rfl rfl rfl rfl rfl ?_ | refine K.d_puG rfl rfl rfl (fun _ _ => X.mv) rfl ?_)
    all_goals (first | refine K.d_skip rfl rfl rfl rfl ?_ | refine K.d_skipU rfl rfl rfl rfl rfl ?_ | refine K.d_puG rfl rfl rfl (fun _ _ => X.mv) rfl ?_)
    all_goals (first | refine K.d_skip rfl rfl rfl rfl ?_ | refine K.d_skipU rfl rfl rfl rfl rfl ?_ | refine K.d_puG rfl rfl rfl (fun _ _ => X.bquo) rfl ?_)
    all_goals (first | refine K.d_skip rfl rfl rfl rfl ?_ | refine K.d_skipU rfl rfl rfl rfl rfl ?_ | refine K.d_puG rfl rfl rfl (fun _ _ => X.mv) rfl ?_)
    all_goals (first | refine K.d_skip rfl rfl rfl rfl ?_ | refine K.d_skipU rfl rfl rfl rfl rfl ?_ | refine K.d_puG rfl rfl rfl (fun _ _ => X.beql) rfl ?_)
    all_goals (refine K.d_pu rfl (fun _ _ => X.pk) rfl ?_)
    all_goals (refine K.d_pu rfl (fun _ _ => X.sg) rfl ?_)
    all_goals (refine K.d_pu rfl (fun _ _ => X.sg) rfl ?_)
    all_goals refine K.d_nil ?_
    all_goals (repeat' (first | refine X.rq ?_ | (refine X.rc ?_ ?_ <;> intro hc <;> first | (exfalso; omega) | skip)))
    all_goals
      have hr := hz hx0 hy0
      refine K.done (by first | exact Or.inl rfl | exact Or.inr rfl) rfl (by first | exact K.Base.le.refl _ | assumption) (H' := []) rfl (num_post ?_ (fun hd => ?_))
      · first
          | (rw [decide_eq_decide, hr (by omega) (by omega)])
          | (refine (decide_eq_false (fun hd => ?_)).symm
             rcases (by omega : (x = -1 ∧ y = -9223372036854775808) ∨ (x = -9223372036854775808 ∧ y = -1)) with ⟨e1, e2⟩ | ⟨e1, e2⟩ <;> (rw [e1, e2] at hd; revert hd; decide))
      · exact w64_in hd
/-! The document's -/
theorem fd32 (a : Int) : a.fdiv (2 ^ min (Int.toNat 32) IntKind.u64.bits) = a / 4294967296 := by
  show a.fdiv 4294967296 = _
  exact Int.fdiv_eq_ediv_of_nonneg a (by decide)
theorem abs_cases (x : Int) : (x < 0 ∧ x = -(x.natAbs : Int)) ∨ (¬ x < 0 ∧ x = (x.natAbs : Int)) := by omega
theorem sgn_mul {x y : Int} {nb : Bool} (hn : (!(decide (x < 0) == decide (y < 0))) = nb) : x * y = if nb then -((x.natAbs * y.natAbs : Nat) : Int) else ((x.natAbs * y.natAbs : Nat) : Int) := by
  rw [Int.natCast_mul]
  rcases abs_cases x with ⟨h1, e1⟩ | ⟨h1, e1⟩ <;> rcases abs_cases y with ⟨h2, e2⟩ | ⟨h2, e2⟩ <;> (simp only [h1, h2, decide_true, decide_false, beq_self_eq_true, Bool.not_true, beq_iff_eq, Bool.true_eq_false, Bool.false_eq_true] at hn; first | subst hn | (revert hn; cases nb <;> decide)) <;> generalize x.natAbs = p at * <;> generalize y.natAbs = q at * <;> subst e1 <;> subst e2 <;> simp [Int.neg_mul, Int.mul_neg]
theorem sgn_div {x y : Int} {nb : Bool} (hn : (!(decide (x < 0) == decide (y < 0))) = nb) : x.tdiv y = if nb then -((x.natAbs / y.natAbs : Nat) : Int) else ((x.natAbs / y.natAbs : Nat) : Int) := by
  rw [Int.natCast_ediv, ← Int.tdiv_eq_ediv_of_nonneg (by omega)]
  rcases abs_cases x with ⟨h1, e1⟩ | ⟨h1, e1⟩ <;> rcases abs_cases y with ⟨h2, e2⟩ | ⟨h2, e2⟩ <;> (simp only [h1, h2, decide_true, decide_false, beq_self_eq_true, Bool.not_true, beq_iff_eq, Bool.true_eq_false, Bool.false_eq_true] at hn; first | subst hn | (revert hn; cases nb <;> decide)) <;> generalize x.natAbs = p at * <;> generalize y.natAbs = q at * <;> subst e1 <;> subst e2 <;> simp [Int.neg_tdiv, Int.tdiv_neg]
theorem sgn_mod (x y : Int) : x.tmod y = if x < 0 then -((x.natAbs % y.natAbs : Nat) : Int) else ((x.natAbs % y.natAbs : Nat) : Int) := by
  rw [Int.natCast_emod, ← Int.tmod_eq_emod_of_nonneg (by omega)]
  rcases abs_cases x with ⟨h1, e1⟩ | ⟨h1, e1⟩ <;> rcases abs_cases y with ⟨h2, e2⟩ | ⟨h2, e2⟩ <;> simp only [h1, if_true, if_false] <;> generalize x.natAbs = p at * <;> generalize y.natAbs = q at * <;> subst e1 <;> subst e2 <;> simp [Int.neg_tmod, Int.tmod_neg]
theorem sgn_lo (m : Nat) : (if decide (0 < (m : Int)) = true then -(m : Int) else m) = -(m : Int) := by
  split
  · rfl
  · rename_i hh; simp only [decide_eq_true_eq] at hh; omega
end Go.Proofs.Ytmkhejdamjibgaa.Rw
