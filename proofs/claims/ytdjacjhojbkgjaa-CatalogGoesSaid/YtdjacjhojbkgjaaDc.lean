/-
  Rows: which values may be, which rows fit. Conditions: each theorem's own.
-/
import Derived.Test.YtdjacjhojbkgjaaDb

namespace Go.Proofs.Ytdjacjhojbkgjaa.Rw
open Go Go.K Go.Proofs Go.Proofs.Ytdjacjhojbkgjaa
set_option linter.unusedVariables false
set_option linter.unusedSimpArgs false
set_option maxRecDepth 10000

/-- May a value be? -/
def okVP (v : Val) : Prop := (v.kind = 0 ∧ v.n = 0 ∧ v.s = ⟨#[]⟩) ∨ (v.kind = 1 ∧ v.s = ⟨#[]⟩) ∨ (v.kind = 2 ∧ v.n = 0 ∧ v.s.size ≤ 64) ∨ (v.kind = 3 ∧ v.s = ⟨#[]⟩ ∧ (v.n = 0 ∨ v.n = 1))
instance (v : Val) : Decidable (okVP v) := by unfold okVP; infer_instance
def okV (v : Val) : Bool := decide (okVP v)

theorem okV_iff (v : Val) : okV v = true ↔ okVP v := decide_eq_true_iff
theorem size0 : (⟨#[]⟩ : ByteArray).size = 0 := rfl

theorem ValueMay (h : Base) (v : Val) (hw : wfV v) : TrV Try.prog 84 [.agg (cV v).toArray] h [] (.bool (okV v)) [] := by
  have hk1 := hw.k1
  have hk2 := hw.k2
  have hs := hw.s
  refine K.enter Try.func84 rfl (Nat.le_of_ble_eq_true rfl) (fun F => ?_)
  (repeat' (first | refine X.rq ?_ | (refine X.rc ?_ ?_ <;> intro hc <;> first | (exfalso; omega) | skip)))
  refine K.l_box rfl rfl rfl (fun B => ?_)
  (repeat' (first | refine X.rq ?_ | (refine X.rc ?_ ?_ <;> intro hc <;> first | (exfalso; omega) | skip)))
  all_goals
    refine K.AT.drop ?_
    refine K.done (by first | exact Or.inl rfl | exact Or.inr rfl) rfl (by first | exact K.Base.le.refl _ | assumption) (H' := []) rfl ⟨?_, rfl, rfl⟩
    show Value.bool _ = Value.bool _
    congr 1
    rw [Bool.eq_iff_iff, okV_iff]
    unfold okVP
    simp only [Bool.and_eq_true, decide_eq_true_eq, Bool.false_eq_true, and_true]
    by_cases hp : v.s = ⟨#[]⟩
    · first
        | exact absurd hp (by assumption)
        | (simp only [hp, size0, eq_self, and_true, true_and, iff_true, true_iff, false_iff, iff_false]
           omega)
    · first
        | exact absurd (by assumption) hp
        | (simp only [hp, and_false, false_and, or_false, false_or, iff_false, false_iff, true_iff, iff_true]
           omega)

end Go.Proofs.Ytdjacjhojbkgjaa.Rw
