/-
  Rows: which values may be, which rows fit. Conditions: each theorem's own.
-/
import Derived.Test.YteminhinpbcepaaDb

namespace Go.Proofs.Yteminhinpbcepaa.Rw
open Go Go.K Go.Proofs Go.Proofs.Yteminhinpbcepaa
set_option linter.unusedVariables false
set_option linter.unusedSimpArgs false
set_option maxRecDepth 10000

/-- May a value be? -/
def okVP (v : Val) : Prop := (v.kind = 0 ∧ v.n = 0 ∧ v.s = ⟨#[]⟩) ∨ (v.kind = 1 ∧ v.s = ⟨#[]⟩) ∨ (v.kind = 2 ∧ v.n = 0 ∧ v.s.size ≤ 64) ∨ (v.kind = 3 ∧ v.s = ⟨#[]⟩ ∧ (v.n = 0 ∨ v.n = 1))
instance (v : Val) : Decidable (okVP v) := by unfold okVP; infer_instance
def okV (v : Val) : Bool := decide (okVP v)

theorem okV_iff (v : Val) : okV v = true ↔ okVP v := decide_eq_true_iff
theorem size0 : (⟨#[]⟩ : ByteArray).size = 0 := rfl

theorem ValueMay (h : Base) (v : Val) (hw : wfV v) : TrV Try.prog 28 [.agg (cV v).toArray] h [] (.bool (okV v)) [] := by
  have hk1 := hw.k1
  have hk2 := hw.k2
  have hs := hw.s
  refine K.enter Try.func28 rfl (Nat.le_of_ble_eq_true rfl) (fun F => ?_)
  (repeat' (first | (apply K.s_pure; (first | (apply Y.mv; exact X.mv) | (apply Y.sg; exact X.sg) | (apply Y.pk; exact X.pk) | (apply Y.fa; exact X.fa) | (apply Y.ld; exact X.ld) | (apply Y.bd; exact X.bd) | (apply Y.len; exact X.len) | (apply Y.beql; exact X.beql) | (apply Y.bleq; exact X.bleq)); exact rfl) | refine X.l ?_ | refine X.w ?_ | refine X.a ?_ | (refine K.c_condD rfl (fun hc => ?_) (fun hc => ?_) <;> first | (exfalso; omega) | skip) | refine K.c_cond rfl (fun hc => ?_) (fun hc => ?_) | (refine K.s_guardD rfl rfl (fun hc => ?_) (fun hc => ?_) <;> first | (exfalso; omega) | skip) | refine K.s_guard rfl rfl (fun hc => ?_) (fun hc => ?_)))
  refine K.l_box rfl rfl rfl (fun B => ?_)
  (repeat' (first | (apply K.s_pure; (first | (apply Y.mv; exact X.mv) | (apply Y.sg; exact X.sg) | (apply Y.pk; exact X.pk) | (apply Y.fa; exact X.fa) | (apply Y.ld; exact X.ld) | (apply Y.bd; exact X.bd) | (apply Y.len; exact X.len) | (apply Y.beql; exact X.beql) | (apply Y.bleq; exact X.bleq)); exact rfl) | refine X.l ?_ | refine X.w ?_ | refine X.a ?_ | (refine K.c_condD rfl (fun hc => ?_) (fun hc => ?_) <;> first | (exfalso; omega) | skip) | refine K.c_cond rfl (fun hc => ?_) (fun hc => ?_) | (refine K.s_guardD rfl rfl (fun hc => ?_) (fun hc => ?_) <;> first | (exfalso; omega) | skip) | refine K.s_guard rfl rfl (fun hc => ?_) (fun hc => ?_)))
  all_goals
    refine K.AT.drop ?_
    refine K.done (by first | exact Or.inl rfl | exact Or.inr rfl) rfl (by first | exact K.Base.le.refl _ | assumption) (H' := []) rfl ⟨?_, rfl, rfl⟩
    show Value.bool _ = Value.bool _
    congr 1
    rw [Bool.eq_iff_iff, okV_iff]
    unfold okVP
    simp only [Bool.and_eq_true, decide_eq_true_eq, Bool.false_eq_true, and_true]
    by_cases hp : v.s = ⟨#[]⟩
    · first
        | exact absurd hp (by assumption)
        | (simp only [hp, size0, eq_self, and_true, true_and, iff_true, true_iff, false_iff, iff_false]
           omega)
    · first
        | exact absurd (by assumption) hp
        | (simp only [hp, and_false, false_and, or_false, false_or, iff_false, false_iff, true_iff, iff_true]
           omega)

theorem RefValueMay (h : Base) (v : Val) (hw : wfV v) : TrV Try.prog 22 [.agg (cV v).toArray] h [] (.bool (okV v)) [] := by
  have hk1 := hw.k1
  have hk2 := hw.k2
  have hs := hw.s
  refine K.enter Try.func22 rfl (Nat.le_of_ble_eq_true rfl) (fun F => ?_)
  (repeat' (first | (apply K.s_pure; (first | (apply Y.mv; exact X.mv) | (apply Y.sg; exact X.sg) | (apply Y.pk; exact X.pk) | (apply Y.fa; exact X.fa) | (apply Y.ld; exact X.ld) | (apply Y.len; exact X.len) | (apply Y.beql; exact X.beql) | (apply Y.bleq; exact X.bleq) | (apply Y.bgeq; exact X.bgeq)); exact rfl) | refine X.l ?_ | refine X.w ?_ | refine X.a ?_ | (refine K.c_condD rfl (fun hc => ?_) (fun hc => ?_) <;> first | (exfalso; omega) | skip) | refine K.c_cond rfl (fun hc => ?_) (fun hc => ?_) | (refine K.s_guardD rfl rfl (fun hc => ?_) (fun hc => ?_) <;> first | (exfalso; omega) | skip) | refine K.s_guard rfl rfl (fun hc => ?_) (fun hc => ?_)))
  refine K.l_box rfl rfl rfl (fun B => ?_)
  (repeat' (first | (apply K.s_pure; (first | (apply Y.mv; exact X.mv) | (apply Y.sg; exact X.sg) | (apply Y.pk; exact X.pk) | (apply Y.fa; exact X.fa) | (apply Y.ld; exact X.ld) | (apply Y.len; exact X.len) | (apply Y.beql; exact X.beql) | (apply Y.bleq; exact X.bleq) | (apply Y.bgeq; exact X.bgeq)); exact rfl) | refine X.l ?_ | refine X.w ?_ | refine X.a ?_ | (refine K.c_condD rfl (fun hc => ?_) (fun hc => ?_) <;> first | (exfalso; omega) | skip) | refine K.c_cond rfl (fun hc => ?_) (fun hc => ?_) | (refine K.s_guardD rfl rfl (fun hc => ?_) (fun hc => ?_) <;> first | (exfalso; omega) | skip) | refine K.s_guard rfl rfl (fun hc => ?_) (fun hc => ?_)))
  all_goals
    refine K.AT.drop ?_
    refine K.done (by first | exact Or.inl rfl | exact Or.inr rfl) rfl (by first | exact K.Base.le.refl _ | assumption) (H' := []) rfl ⟨?_, rfl, rfl⟩
    show Value.bool _ = Value.bool _
    congr 1
    rw [Bool.eq_iff_iff, okV_iff]
    unfold okVP
    simp only [Bool.and_eq_true, decide_eq_true_eq, Bool.false_eq_true, and_true]
    by_cases hp : v.s = ⟨#[]⟩
    · first
        | exact absurd hp (by assumption)
        | (simp only [hp, size0, eq_self, and_true, true_and, iff_true, true_iff, false_iff, iff_false]
           omega)
    · first
        | exact absurd (by assumption) hp
        | (simp only [hp, and_false, false_and, or_false, false_or, iff_false, false_iff, true_iff, iff_true]
           omega)
end Go.Proofs.Yteminhinpbcepaa.Rw
