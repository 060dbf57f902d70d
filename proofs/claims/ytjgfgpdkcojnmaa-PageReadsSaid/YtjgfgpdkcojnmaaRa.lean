/-
  The walks of the document's answer for layer 2, the writing side: fixed and counted numbers, folds, texts. Conditions: each theorem's own.
-/
import Derived.Test.YtjgfgpdkcojnmaaKX
import Derived.Test.YtjgfgpdkcojnmaaMX
import Derived.Test.YtjgfgpdkcojnmaaKA

namespace Go.Proofs.Ytjgfgpdkcojnmaa.Ra
open Go Go.K Go.Proofs Go.Proofs.Ytjgfgpdkcojnmaa
set_option linter.unusedVariables false
set_option linter.unusedSimpArgs false
set_option maxRecDepth 10000

/-- A fresh row of these bytes is handed back. -/
def Gave (h : Base) (l : List UInt8) (v : Value) (h' : Base) (H' : List Asrt) : Prop := h = h' ∧ ∃ a cap, v = bufV a l.length cap ∧ H' = [bufA 5 1 a l.length cap (l.map u8)]

theorem Fixed (h : Base) (x m : Nat) (hx : x < 18446744073709551616) (hm : m ≤ 8) : Tr Try.prog 53 [.int .u64 x, .int .i64 m] h [] (Gave h (lebs x m)) := by
  refine K.enter Try.func53 rfl (Nat.le_of_ble_eq_true rfl) (fun F => ?_)
  refine K.WC.nilBuf 5 1 ?_
  (repeat' (first | (apply K.s_pure; (first | (apply Y.mv; exact X.mv) | (apply Y.sg; exact X.sg) | (apply Y.cv; exact X.cv) | (apply Y.badd; exact X.badd) | (apply Y.blss; exact X.blss) | (apply Y.bquo; exact X.bquo) | (apply Y.brem; exact X.brem)); exact rfl) | refine X.l ?_ | refine X.w ?_ | refine X.a ?_ | (refine K.c_condD rfl (fun hc => ?_) (fun hc => ?_) <;> first | (exfalso; omega) | skip) | refine K.c_cond rfl (fun hc => ?_) (fun hc => ?_)))
  refine K.c_loop (σ := Nat × Nat × Option Nat × Nat × List UInt8) (fun s => [(0, .int .u64 s.2.1), (1, .int .i64 m), (5, bufV s.2.2.1 s.1 s.2.2.2.1), (6, .int .i64 s.1)]) (fun _ => h)
    (fun s => bufA 5 1 s.2.2.1 s.1 s.2.2.2.1 (s.2.2.2.2.map u8) :: F) (fun s => s.1 ≤ m ∧ s.2.1 < 18446744073709551616 ∧ s.2.2.2.2 ++ lebs s.2.1 (m - s.1) = lebs x m) (fun s => m - s.1) (0, x, none, 0, []) ⟨Nat.zero_le _, hx, rfl⟩ (by repeat (first | exact K.Sub.nil _ | refine K.Sub.cons rfl ?_)) rfl rfl ?_
  rintro ⟨j, y, a, cap, pre⟩ ⟨hj, hy, hpre⟩ KL hKL
  dsimp only at hj hy hpre ⊢
  (repeat' (first | (apply K.s_pure; (first | (apply Y.mv; exact X.mv) | (apply Y.sg; exact X.sg) | (apply Y.cv; exact X.cv) | (apply Y.badd; exact X.badd) | (apply Y.blss; exact X.blss) | (apply Y.bquo; exact X.bquo) | (apply Y.brem; exact X.brem)); exact rfl) | refine X.l ?_ | refine X.w ?_ | refine X.a ?_ | (refine K.c_condD rfl (fun hc => ?_) (fun hc => ?_) <;> first | (exfalso; omega) | skip) | refine K.c_cond rfl (fun hc => ?_) (fun hc => ?_)))
  · refine X.bs (fun B => ?_)
    refine K.l_append_at 1 rfl (Fx.und rfl) (Fx.und rfl) rfl (Fx.sz rfl) (Fx.zr rfl) rfl (Fx.byt rfl) rfl rfl (K.src_one (K.cel_own 0 rfl rfl) rfl) (by omega) (by omega) rfl (fun a' cap' => ?_)
    simp only [List.set_cons_zero, List.set_cons_succ, List.eraseIdx_cons_zero, List.eraseIdx_cons_succ, List.cons_append, List.nil_append]
    (repeat' (first | (apply K.s_pure; (first | (apply Y.mv; exact X.mv) | (apply Y.sg; exact X.sg) | (apply Y.cv; exact X.cv) | (apply Y.badd; exact X.badd) | (apply Y.blss; exact X.blss) | (apply Y.bquo; exact X.bquo) | (apply Y.brem; exact X.brem)); exact rfl) | refine X.l ?_ | refine X.w ?_ | refine X.a ?_ | (refine K.c_condD rfl (fun hc => ?_) (fun hc => ?_) <;> first | (exfalso; omega) | skip) | refine K.c_cond rfl (fun hc => ?_) (fun hc => ?_)))
    refine K.AT.drop (K.a_round hKL (j + 1, y / 256, a', cap', pre ++ [UInt8.ofNat (y % 256)]) ⟨by omega, by dsimp only; omega, ?_⟩ (by repeat (first | exact K.Sub.nil _ | refine K.Sub.cons rfl ?_)) rfl ?_ (by dsimp only; omega))
    · dsimp only
      rw [← hpre, show m - j = (m - (j + 1)) + 1 from by omega, lebs, List.append_assoc]; rfl
    · dsimp only
      rw [List.map_append, List.map_singleton, u8_ofNat]; rfl
  · obtain rfl : j = m := by omega
    rw [Nat.sub_self, lebs, List.append_nil] at hpre
    have hlen : pre.length = j := by rw [hpre, lebs_length]
    refine K.done (by first | exact Or.inl rfl | exact Or.inr rfl) rfl (by first | exact K.Base.le.refl _ | assumption) (H' := [bufA 5 1 a j cap (pre.map u8)]) rfl ⟨rfl, a, cap, ?_, ?_⟩
    · rw [← hpre, hlen]; rfl
    · rw [← hpre, hlen]

end Go.Proofs.Ytjgfgpdkcojnmaa.Ra
