/-
  The walks of package code, the writer's other methods. Conditions: each theorem's own.
-/
import Derived.Test.YtjgfgpdkcojnmaaCa

namespace Go.Proofs.Ytjgfgpdkcojnmaa.Ca
open Go Go.K Go.Proofs Go.Proofs.Ytjgfgpdkcojnmaa
set_option linter.unusedVariables false
set_option linter.unusedSimpArgs false
set_option maxRecDepth 10000

theorem NewWriter (h : Base) : Tr Try.prog 44 [] h [] (fun v h' H' => h = h' ∧ ∃ p, v = wv (some (p, some (none, 0, []))) ∧ H' = [wA (some (p, some (none, 0, [])))]) := by
  refine K.enter Try.func44 rfl (Nat.le_of_ble_eq_true rfl) (fun F => ?_)
  (repeat' (first | (apply K.s_pure; (first | (apply Y.sg; exact X.sg) | (apply Y.bd; exact X.bd)); exact rfl) | refine X.l ?_ | refine X.w ?_ | refine X.a ?_ | (refine K.c_condD rfl (fun hc => ?_) (fun hc => ?_) <;> first | (exfalso; omega) | skip) | refine K.c_cond rfl (fun hc => ?_) (fun hc => ?_)))
  refine K.l_box rfl rfl rfl (fun B => ?_)
  (repeat' (first | (apply K.s_pure; (first | (apply Y.sg; exact X.sg) | (apply Y.bd; exact X.bd)); exact rfl) | refine X.l ?_ | refine X.w ?_ | refine X.a ?_ | (refine K.c_condD rfl (fun hc => ?_) (fun hc => ?_) <;> first | (exfalso; omega) | skip) | refine K.c_cond rfl (fun hc => ?_) (fun hc => ?_)))
  refine K.AT.nilBuf 5 1 (K.AT.perm (List.Perm.swap ..) (K.AT.close (wH (some (B, some (none, 0, [])))) ?_))
  refine K.done (by first | exact Or.inl rfl | exact Or.inr rfl) rfl (by first | exact K.Base.le.refl _ | assumption) (H' := [wA (some (B, some (none, 0, [])))]) rfl ⟨rfl, B, rfl, rfl⟩

theorem W_Raw (h : Base) (s : WSt) (a : Option Nat) (cap : Nat) (b : List UInt8) (hl : (wb s).length + b.length ≤ big) :
    Tr Try.prog 49 [wv s, bufV a b.length cap] h [wA s, bufA 5 1 a b.length cap (b.map u8)] (fun v h' H' => v = unit ∧ h = h' ∧ ∃ s', wadd b s s' ∧ H' = [wA s', bufA 5 1 a b.length cap (b.map u8)]) := by
  unfold big at hl
  match s with
  | none =>
    refine K.enter Try.func49 rfl (Nat.le_of_ble_eq_true rfl) (fun F => ?_)
    simp only [wv]
    (repeat' (first | (apply K.s_pure; (first | (apply Y.mv; exact X.mv) | (apply Y.pk; exact X.pk) | (apply Y.nc; exact X.nc) | (apply Y.fa; exact X.fa) | (apply Y.ld; exact X.ld) | (apply Y.bneq; exact X.bneq)); exact rfl) | refine X.l ?_ | refine X.w ?_ | refine X.a ?_ | (refine K.c_condD rfl (fun hc => ?_) (fun hc => ?_) <;> first | (exfalso; omega) | skip) | refine K.c_cond rfl (fun hc => ?_) (fun hc => ?_) | (refine K.s_guardD rfl rfl (fun hc => ?_) (fun hc => ?_) <;> first | (exfalso; omega) | skip) | refine K.s_guard rfl rfl (fun hc => ?_) (fun hc => ?_)))
    refine K.done (by first | exact Or.inl rfl | exact Or.inr rfl) rfl (by first | exact K.Base.le.refl _ | assumption) (H' := [wA none, _]) rfl ⟨rfl, rfl, none, trivial, rfl⟩
  | some (p, none) =>
    refine K.enter Try.func49 rfl (Nat.le_of_ble_eq_true rfl) (fun F => ?_)
    refine K.WC.open ?_
    simp only [wH, wv, List.cons_append, List.nil_append]
    (repeat' (first | (apply K.s_pure; (first | (apply Y.mv; exact X.mv) | (apply Y.pk; exact X.pk) | (apply Y.nc; exact X.nc) | (apply Y.fa; exact X.fa) | (apply Y.ld; exact X.ld) | (apply Y.bneq; exact X.bneq)); exact rfl) | refine X.l ?_ | refine X.w ?_ | refine X.a ?_ | (refine K.c_condD rfl (fun hc => ?_) (fun hc => ?_) <;> first | (exfalso; omega) | skip) | refine K.c_cond rfl (fun hc => ?_) (fun hc => ?_) | (refine K.s_guardD rfl rfl (fun hc => ?_) (fun hc => ?_) <;> first | (exfalso; omega) | skip) | refine K.s_guard rfl rfl (fun hc => ?_) (fun hc => ?_)))
    refine K.AT.close (wH (some (p, none))) ?_
    refine K.done (by first | exact Or.inl rfl | exact Or.inr rfl) rfl (by first | exact K.Base.le.refl _ | assumption) (H' := [wA (some (p, none)), _]) rfl ⟨rfl, rfl, some (p, none), rfl, rfl⟩
  | some (p, some (a0, cap0, l)) =>
    simp only [wb] at hl
    refine K.enter Try.func49 rfl (Nat.le_of_ble_eq_true rfl) (fun F => ?_)
    refine K.WC.open ?_
    simp only [wH, wv, List.cons_append, List.nil_append]
    (repeat' (first | (apply K.s_pure; (first | (apply Y.mv; exact X.mv) | (apply Y.pk; exact X.pk) | (apply Y.nc; exact X.nc) | (apply Y.fa; exact X.fa) | (apply Y.ld; exact X.ld) | (apply Y.bneq; exact X.bneq)); exact rfl) | refine X.l ?_ | refine X.w ?_ | refine X.a ?_ | (refine K.c_condD rfl (fun hc => ?_) (fun hc => ?_) <;> first | (exfalso; omega) | skip) | refine K.c_cond rfl (fun hc => ?_) (fun hc => ?_) | (refine K.s_guardD rfl rfl (fun hc => ?_) (fun hc => ?_) <;> first | (exfalso; omega) | skip) | refine K.s_guard rfl rfl (fun hc => ?_) (fun hc => ?_)))
    refine K.l_append_at 1 rfl (Fx.und rfl) (Fx.und rfl) rfl (Fx.sz rfl) (Fx.zr rfl) rfl (Fx.byt rfl) rfl rfl (K.src_buf 1 rfl (by simp [K.u8_one]) (by simp)) (by omega) (by omega) rfl (fun a' cap' => ?_)
    simp only [List.set_cons_zero, List.set_cons_succ, List.eraseIdx_cons_zero, List.eraseIdx_cons_succ, List.cons_append, List.nil_append]
    (repeat' (first | (apply K.s_pure; (first | (apply Y.mv; exact X.mv) | (apply Y.pk; exact X.pk) | (apply Y.nc; exact X.nc) | (apply Y.fa; exact X.fa) | (apply Y.ld; exact X.ld) | (apply Y.bneq; exact X.bneq)); exact rfl) | refine X.l ?_ | refine X.w ?_ | refine X.a ?_ | (refine K.c_condD rfl (fun hc => ?_) (fun hc => ?_) <;> first | (exfalso; omega) | skip) | refine K.c_cond rfl (fun hc => ?_) (fun hc => ?_) | (refine K.s_guardD rfl rfl (fun hc => ?_) (fun hc => ?_) <;> first | (exfalso; omega) | skip) | refine K.s_guard rfl rfl (fun hc => ?_) (fun hc => ?_)))
    refine X.sto ?_
    (repeat' (first | (apply K.s_pure; (first | (apply Y.mv; exact X.mv) | (apply Y.pk; exact X.pk) | (apply Y.nc; exact X.nc) | (apply Y.fa; exact X.fa) | (apply Y.ld; exact X.ld) | (apply Y.bneq; exact X.bneq)); exact rfl) | refine X.l ?_ | refine X.w ?_ | refine X.a ?_ | (refine K.c_condD rfl (fun hc => ?_) (fun hc => ?_) <;> first | (exfalso; omega) | skip) | refine K.c_cond rfl (fun hc => ?_) (fun hc => ?_) | (refine K.s_guardD rfl rfl (fun hc => ?_) (fun hc => ?_) <;> first | (exfalso; omega) | skip) | refine K.s_guard rfl rfl (fun hc => ?_) (fun hc => ?_)))
    rw [← List.map_append, ← List.length_append]
    refine K.AT.close (wH (some (p, some (a', cap', l ++ b)))) ?_
    refine K.done (by first | exact Or.inl rfl | exact Or.inr rfl) rfl (by first | exact K.Base.le.refl _ | assumption) (H' := [wA (some (p, some (a', cap', l ++ b))), _]) rfl ⟨rfl, rfl, some (p, some (a', cap', l ++ b)), ⟨rfl, rfl⟩, rfl⟩

theorem W_Len (h : Base) (s : WSt) : Tr Try.prog 50 [wv s] h [wA s] (fun v h' H' => v = .int .i64 (wb s).length ∧ h = h' ∧ H' = [wA s]) := by
  match s with
  | none =>
    refine K.enter Try.func50 rfl (Nat.le_of_ble_eq_true rfl) (fun F => ?_)
    simp only [wv]
    (repeat' (first | (apply K.s_pure; (first | (apply Y.mv; exact X.mv) | (apply Y.sg; exact X.sg) | (apply Y.nc; exact X.nc) | (apply Y.fa; exact X.fa) | (apply Y.ld; exact X.ld) | (apply Y.len; exact X.len) | (apply Y.beql; exact X.beql)); exact rfl) | refine X.l ?_ | refine X.w ?_ | refine X.a ?_ | (refine K.c_condD rfl (fun hc => ?_) (fun hc => ?_) <;> first | (exfalso; omega) | skip) | refine K.c_cond rfl (fun hc => ?_) (fun hc => ?_)))
    refine K.done (by first | exact Or.inl rfl | exact Or.inr rfl) rfl (by first | exact K.Base.le.refl _ | assumption) (H' := [wA none]) rfl ⟨rfl, rfl, rfl⟩
  | some (p, none) =>
    refine K.enter Try.func50 rfl (Nat.le_of_ble_eq_true rfl) (fun F => ?_)
    refine K.WC.open ?_
    simp only [wH, wv, List.cons_append, List.nil_append]
    (repeat' (first | (apply K.s_pure; (first | (apply Y.mv; exact X.mv) | (apply Y.sg; exact X.sg) | (apply Y.nc; exact X.nc) | (apply Y.fa; exact X.fa) | (apply Y.ld; exact X.ld) | (apply Y.len; exact X.len) | (apply Y.beql; exact X.beql)); exact rfl) | refine X.l ?_ | refine X.w ?_ | refine X.a ?_ | (refine K.c_condD rfl (fun hc => ?_) (fun hc => ?_) <;> first | (exfalso; omega) | skip) | refine K.c_cond rfl (fun hc => ?_) (fun hc => ?_)))
    refine K.AT.close (wH (some (p, none))) ?_
    refine K.done (by first | exact Or.inl rfl | exact Or.inr rfl) rfl (by first | exact K.Base.le.refl _ | assumption) (H' := [wA (some (p, none))]) rfl ⟨rfl, rfl, rfl⟩
  | some (p, some (a0, cap0, l)) =>
    refine K.enter Try.func50 rfl (Nat.le_of_ble_eq_true rfl) (fun F => ?_)
    refine K.WC.open ?_
    simp only [wH, wv, List.cons_append, List.nil_append]
    (repeat' (first | (apply K.s_pure; (first | (apply Y.mv; exact X.mv) | (apply Y.sg; exact X.sg) | (apply Y.nc; exact X.nc) | (apply Y.fa; exact X.fa) | (apply Y.ld; exact X.ld) | (apply Y.len; exact X.len) | (apply Y.beql; exact X.beql)); exact rfl) | refine X.l ?_ | refine X.w ?_ | refine X.a ?_ | (refine K.c_condD rfl (fun hc => ?_) (fun hc => ?_) <;> first | (exfalso; omega) | skip) | refine K.c_cond rfl (fun hc => ?_) (fun hc => ?_)))
    refine K.AT.close (wH (some (p, some (a0, cap0, l)))) ?_
    refine K.done (by first | exact Or.inl rfl | exact Or.inr rfl) rfl (by first | exact K.Base.le.refl _ | assumption) (H' := [wA (some (p, some (a0, cap0, l)))]) rfl ⟨rfl, rfl, rfl⟩

theorem W_Bytes (h : Base) (s : WSt) (hl : (wb s).length ≤ big) : Tr Try.prog 52 [wv s] h [wA s] (fun v h' H' => h = h' ∧ ∃ a cap, v = bufV a (wb s).length cap ∧ H' = [bufA 5 1 a (wb s).length cap ((wb s).map u8), wA s]) := by
  unfold big at hl
  match s with
  | none =>
    refine K.enter Try.func52 rfl (Nat.le_of_ble_eq_true rfl) (fun F => ?_)
    simp only [wv]
    (repeat' (first | (apply K.s_pure; (first | (apply Y.mv; exact X.mv) | (apply Y.sg; exact X.sg) | (apply Y.nc; exact X.nc) | (apply Y.fa; exact X.fa) | (apply Y.ld; exact X.ld) | (apply Y.beql; exact X.beql)); exact rfl) | refine X.l ?_ | refine X.w ?_ | refine X.a ?_ | (refine K.c_condD rfl (fun hc => ?_) (fun hc => ?_) <;> first | (exfalso; omega) | skip) | refine K.c_cond rfl (fun hc => ?_) (fun hc => ?_)))
    refine K.AT.nilBuf 5 1 ?_
    refine K.done (by first | exact Or.inl rfl | exact Or.inr rfl) rfl (by first | exact K.Base.le.refl _ | assumption) (H' := [_, wA none]) rfl ⟨rfl, none, 0, rfl, rfl⟩
  | some (p, none) =>
    refine K.enter Try.func52 rfl (Nat.le_of_ble_eq_true rfl) (fun F => ?_)
    refine K.WC.open ?_
    simp only [wH, wv, List.cons_append, List.nil_append]
    (repeat' (first | (apply K.s_pure; (first | (apply Y.mv; exact X.mv) | (apply Y.sg; exact X.sg) | (apply Y.nc; exact X.nc) | (apply Y.fa; exact X.fa) | (apply Y.ld; exact X.ld) | (apply Y.beql; exact X.beql)); exact rfl) | refine X.l ?_ | refine X.w ?_ | refine X.a ?_ | (refine K.c_condD rfl (fun hc => ?_) (fun hc => ?_) <;> first | (exfalso; omega) | skip) | refine K.c_cond rfl (fun hc => ?_) (fun hc => ?_)))
    refine K.WL.nilBuf 5 1 ?_
    refine K.l_append_at 0 rfl (Fx.und rfl) (Fx.und rfl) rfl (Fx.sz rfl) (Fx.zr rfl) rfl (Fx.byt rfl) rfl rfl K.src_nil (by omega) (by omega) rfl (fun a' cap' => ?_)
    simp only [List.set_cons_zero, List.set_cons_succ, List.eraseIdx_cons_zero, List.eraseIdx_cons_succ, List.cons_append, List.nil_append]
    (repeat' (first | (apply K.s_pure; (first | (apply Y.mv; exact X.mv) | (apply Y.sg; exact X.sg) | (apply Y.nc; exact X.nc) | (apply Y.fa; exact X.fa) | (apply Y.ld; exact X.ld) | (apply Y.beql; exact X.beql)); exact rfl) | refine X.l ?_ | refine X.w ?_ | refine X.a ?_ | (refine K.c_condD rfl (fun hc => ?_) (fun hc => ?_) <;> first | (exfalso; omega) | skip) | refine K.c_cond rfl (fun hc => ?_) (fun hc => ?_)))
    refine K.AT.perm (List.Perm.swap ..) (K.AT.close (wH (some (p, none))) (K.AT.perm (List.Perm.swap ..) ?_))
    refine K.done (by first | exact Or.inl rfl | exact Or.inr rfl) rfl (by first | exact K.Base.le.refl _ | assumption) (H' := [_, wA (some (p, none))]) rfl ⟨rfl, a', cap', rfl, rfl⟩
  | some (p, some (a0, cap0, l)) =>
    simp only [wb] at hl
    refine K.enter Try.func52 rfl (Nat.le_of_ble_eq_true rfl) (fun F => ?_)
    refine K.WC.open ?_
    simp only [wH, wv, List.cons_append, List.nil_append]
    (repeat' (first | (apply K.s_pure; (first | (apply Y.mv; exact X.mv) | (apply Y.sg; exact X.sg) | (apply Y.nc; exact X.nc) | (apply Y.fa; exact X.fa) | (apply Y.ld; exact X.ld) | (apply Y.beql; exact X.beql)); exact rfl) | refine X.l ?_ | refine X.w ?_ | refine X.a ?_ | (refine K.c_condD rfl (fun hc => ?_) (fun hc => ?_) <;> first | (exfalso; omega) | skip) | refine K.c_cond rfl (fun hc => ?_) (fun hc => ?_)))
    refine K.WL.nilBuf 5 1 ?_
    refine K.l_append_at 0 rfl (Fx.und rfl) (Fx.und rfl) rfl (Fx.sz rfl) (Fx.zr rfl) rfl (Fx.byt rfl) rfl rfl (K.src_buf 1 rfl (by simp [K.u8_one]) (by simp)) (by omega) (by omega) rfl (fun a' cap' => ?_)
    simp only [List.set_cons_zero, List.set_cons_succ, List.eraseIdx_cons_zero, List.eraseIdx_cons_succ, List.cons_append, List.nil_append]
    (repeat' (first | (apply K.s_pure; (first | (apply Y.mv; exact X.mv) | (apply Y.sg; exact X.sg) | (apply Y.nc; exact X.nc) | (apply Y.fa; exact X.fa) | (apply Y.ld; exact X.ld) | (apply Y.beql; exact X.beql)); exact rfl) | refine X.l ?_ | refine X.w ?_ | refine X.a ?_ | (refine K.c_condD rfl (fun hc => ?_) (fun hc => ?_) <;> first | (exfalso; omega) | skip) | refine K.c_cond rfl (fun hc => ?_) (fun hc => ?_)))
    rw [Nat.zero_add]
    refine K.AT.perm (K.perm3 ..) (K.AT.close (wH (some (p, some (a0, cap0, l)))) (K.AT.perm (List.Perm.swap ..) ?_))
    refine K.done (by first | exact Or.inl rfl | exact Or.inr rfl) rfl (by first | exact K.Base.le.refl _ | assumption) (H' := [_, wA (some (p, some (a0, cap0, l)))]) rfl ⟨rfl, a', cap', rfl, rfl⟩
end Go.Proofs.Ytjgfgpdkcojnmaa.Ca
