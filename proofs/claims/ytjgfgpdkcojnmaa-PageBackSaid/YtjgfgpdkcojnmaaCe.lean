/-
  The walks of package code, the reader: counted numbers. Conditions: each theorem's own.
-/
import Derived.Test.YtjgfgpdkcojnmaaCd

namespace Go.Proofs.Ytjgfgpdkcojnmaa.Cc
open Go Go.K Go.Proofs Go.Proofs.Ytjgfgpdkcojnmaa
set_option linter.unusedVariables false
set_option linter.unusedSimpArgs false
set_option maxRecDepth 10000

/-- What look finds. -/
def found (ok : Bool) (rem : List UInt8) : Option (Nat × Nat) := if ok then front rem else none
def lookV (o : Option (Nat × Nat)) (v : Value) : Prop := match o with
  | some (x, m) => v = .tuple #[.int .u64 x, .int .i64 m, .bool true]
  | none => ∃ x m : Int, v = .tuple #[.int .u64 x, .int .i64 m, .bool false]

/-- What the counted methods answer, and what is left. -/
def uN (o : Option (Nat × Nat)) : Nat := match o with | some (x, _) => x | none => 0
def uRem (o : Option (Nat × Nat)) (rem : List UInt8) : List UInt8 := match o with | some (_, m) => rem.drop m | none => rem
theorem found_le {ok : Bool} {rem : List UInt8} {x m : Nat} (h : found ok rem = some (x, m)) : ok = true ∧ 1 ≤ m ∧ m ≤ rem.length ∧ m ≤ 10 ∧ x < 18446744073709551616 := by
  unfold found at h
  cases ok with
  | false => cases h
  | true =>
    rw [if_pos rfl] at h
    have := front_le h
    exact ⟨rfl, this.1, this.2.1, this.2.2, front_lt h⟩

theorem R_Raw (h : Base) (s : Option RS) (ok : Bool) (rem : List UInt8) (m : Int) (hr : Rd h s ok rem) (hl : rem.length ≤ big) (hm1 : -9223372036854775808 ≤ m) (hm2 : m ≤ 9223372036854775807) :
    Tr Try.prog 68 [rv s, .int .i64 m] h [rA s] (fun v h' H' => h = h' ∧ ∃ a cap s', v = bufV a (if ok = true ∧ 0 ≤ m ∧ m ≤ rem.length then rem.take m.toNat else []).length cap ∧ same s s' ∧
      Rd h s' (ok && decide (0 ≤ m ∧ m ≤ rem.length)) (if ok = true ∧ 0 ≤ m ∧ m ≤ rem.length then rem.drop m.toNat else rem) ∧
      H' = [bufA 5 1 a (if ok = true ∧ 0 ≤ m ∧ m ≤ rem.length then rem.take m.toNat else []).length cap ((if ok = true ∧ 0 ≤ m ∧ m ≤ rem.length then rem.take m.toNat else []).map u8), rA s']) := by
  have hl0 := hl
  unfold big at hl
  by_cases hc : ok = true ∧ 0 ≤ m ∧ m ≤ rem.length
  · simp only [if_pos hc, decide_eq_true hc.2, Bool.and_true]
    obtain ⟨rfl, h1, h2⟩ := hc
    obtain ⟨k, rfl⟩ := Int.eq_ofNat_of_zero_le h1
    rw [Int.toNat_natCast]
    refine K.enter Try.func68 rfl (Nat.le_of_ble_eq_true rfl) (fun F => ?_)
    (repeat' (first | (apply K.s_pure; (first | (apply Y.mv; exact X.mv) | (apply Y.sg; exact X.sg) | (apply Y.ex; exact X.ex)); exact rfl) | refine X.l ?_ | refine X.w ?_ | refine X.a ?_ | (refine K.c_condD rfl (fun hc => ?_) (fun hc => ?_) <;> first | (exfalso; omega) | skip) | refine K.c_cond rfl (fun hc => ?_) (fun hc => ?_)))
    refine K.l_call (Fx.cal rfl) rfl (R_take h s rem k hr hl0 (by omega)) (K.pp [0] rfl) rfl ?_
    rintro v h' H' - ⟨rfl, ⟨v1, rfl, hv1⟩, s', hs, hr', rfl⟩
    (repeat' (first | (apply K.s_pure; (first | (apply Y.mv; exact X.mv) | (apply Y.sg; exact X.sg) | (apply Y.ex; exact X.ex)); exact rfl) | refine X.l ?_ | refine X.w ?_ | refine X.a ?_ | (refine K.c_condD rfl (fun hc => ?_) (fun hc => ?_) <;> first | (exfalso; omega) | skip) | refine K.c_cond rfl (fun hc => ?_) (fun hc => ?_)))
    refine K.WL.nilBuf 5 1 ?_
    have hlen : (rem.take k).length ≤ 140737488355328 := by simp; omega
    refine K.l_append_at 0 rfl (Fx.und rfl) (Fx.und rfl) rfl (Fx.sz rfl) (Fx.zr rfl) rfl (Fx.byt rfl) rfl rfl hv1.src (by omega) (by omega) rfl (fun a' cap' => ?_)
    simp only [List.set_cons_zero, List.set_cons_succ, List.eraseIdx_cons_zero, List.eraseIdx_cons_succ, List.cons_append, List.nil_append]
    (repeat' (first | (apply K.s_pure; (first | (apply Y.mv; exact X.mv) | (apply Y.sg; exact X.sg) | (apply Y.ex; exact X.ex)); exact rfl) | refine X.l ?_ | refine X.w ?_ | refine X.a ?_ | (refine K.c_condD rfl (fun hc => ?_) (fun hc => ?_) <;> first | (exfalso; omega) | skip) | refine K.c_cond rfl (fun hc => ?_) (fun hc => ?_)))
    rw [Nat.zero_add]
    refine K.done (by first | exact Or.inl rfl | exact Or.inr rfl) rfl (by first | exact K.Base.le.refl _ | assumption) (H' := [bufA 5 1 a' (rem.take k).length cap' ((rem.take k).map u8), rA s']) rfl ⟨rfl, a', cap', s', rfl, hs, hr', rfl⟩
  · have e1 : (ok && decide (0 ≤ m ∧ m ≤ (rem.length : Int))) = false := by
      cases ok with
      | false => rfl
      | true => rw [Bool.true_and]; exact decide_eq_false fun e => hc ⟨rfl, e⟩
    simp only [if_neg hc, e1]
    refine K.enter Try.func68 rfl (Nat.le_of_ble_eq_true rfl) (fun F => ?_)
    (repeat' (first | (apply K.s_pure; (first | (apply Y.mv; exact X.mv) | (apply Y.sg; exact X.sg) | (apply Y.ex; exact X.ex)); exact rfl) | refine X.l ?_ | refine X.w ?_ | refine X.a ?_ | (refine K.c_condD rfl (fun hc => ?_) (fun hc => ?_) <;> first | (exfalso; omega) | skip) | refine K.c_cond rfl (fun hc => ?_) (fun hc => ?_)))
    refine K.l_call (Fx.cal rfl) rfl (R_take_no h s ok rem m hr hl0 hm1 hm2 (by
      cases ok with
      | false => exact .inl rfl
      | true =>
        have : ¬ (0 ≤ m ∧ m ≤ (rem.length : Int)) := fun e => hc ⟨rfl, e⟩
        right; omega)) (K.pp [0] rfl) rfl ?_
    rintro v h' H' - ⟨rfl, rfl, s', hs, hr', rfl⟩
    (repeat' (first | (apply K.s_pure; (first | (apply Y.mv; exact X.mv) | (apply Y.sg; exact X.sg) | (apply Y.ex; exact X.ex)); exact rfl) | refine X.l ?_ | refine X.w ?_ | refine X.a ?_ | (refine K.c_condD rfl (fun hc => ?_) (fun hc => ?_) <;> first | (exfalso; omega) | skip) | refine K.c_cond rfl (fun hc => ?_) (fun hc => ?_)))
    refine K.WL.nilBuf 5 1 ?_
    refine K.l_append_at 0 rfl (Fx.und rfl) (Fx.und rfl) rfl (Fx.sz rfl) (Fx.zr rfl) rfl (Fx.byt rfl) rfl rfl K.src_nil (by omega) (by omega) rfl (fun a' cap' => ?_)
    simp only [List.set_cons_zero, List.set_cons_succ, List.eraseIdx_cons_zero, List.eraseIdx_cons_succ, List.cons_append, List.nil_append]
    (repeat' (first | (apply K.s_pure; (first | (apply Y.mv; exact X.mv) | (apply Y.sg; exact X.sg) | (apply Y.ex; exact X.ex)); exact rfl) | refine X.l ?_ | refine X.w ?_ | refine X.a ?_ | (refine K.c_condD rfl (fun hc => ?_) (fun hc => ?_) <;> first | (exfalso; omega) | skip) | refine K.c_cond rfl (fun hc => ?_) (fun hc => ?_)))
    refine K.done (by first | exact Or.inl rfl | exact Or.inr rfl) rfl (by first | exact K.Base.le.refl _ | assumption) (H' := [bufA 5 1 a' 0 cap' [], rA s']) rfl ⟨rfl, a', cap', s', rfl, hs, hr', rfl⟩
end Go.Proofs.Ytjgfgpdkcojnmaa.Cc
