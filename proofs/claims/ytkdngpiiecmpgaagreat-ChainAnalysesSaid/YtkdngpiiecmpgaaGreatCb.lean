/-
  The walks of package code, the writer's other methods. Conditions: each theorem's own.
-/
import Derived.Test.YtkdngpiiecmpgaaGreatCa

namespace Go.Proofs.YtkdngpiiecmpgaaGreat.Ca
open Go Go.K Go.Proofs Go.Proofs.YtkdngpiiecmpgaaGreat
set_option linter.unusedVariables false
set_option linter.unusedSimpArgs false
set_option maxRecDepth 10000

theorem NewWriter (h : Base) : Tr Tryz.prog 117 [] h [] (fun v h' H' => h = h' ∧ ∃ p, v = wv (some (p, some (none, 0, []))) ∧ H' = [wA (some (p, some (none, 0, [])))]) := by
  refine K.enter Tryz.func117 rfl (Nat.le_of_ble_eq_true rfl) (fun F => ?_)
  (repeat' (first | refine X.rq ?_ | (refine X.rc ?_ ?_ <;> intro hc <;> first | (exfalso; omega) | skip)))
  refine K.l_box rfl rfl rfl (fun B => ?_)
  (repeat' (first | refine X.rq ?_ | (refine X.rc ?_ ?_ <;> intro hc <;> first | (exfalso; omega) | skip)))
  refine K.AT.nilBuf 5 1 (K.AT.perm (List.Perm.swap ..) (K.AT.close (wH (some (B, some (none, 0, [])))) ?_))
  refine K.done (by first | exact Or.inl rfl | exact Or.inr rfl) rfl (by first | exact K.Base.le.refl _ | assumption) (H' := [wA (some (B, some (none, 0, [])))]) rfl ⟨rfl, B, rfl, rfl⟩

theorem W_Uint (h : Base) (s : WSt) (x : Nat) (hx : x < 18446744073709551616) (hl : (wb s).length + 16 ≤ big) : Tr Tryz.prog 120 [wv s, .int .u64 x] h [wA s] (Wrote h s (cu x)) := by
  refine K.enter Tryz.func120 rfl (Nat.le_of_ble_eq_true rfl) (fun F => ?_)
  (repeat' (first | refine X.rq ?_ | (refine X.rc ?_ ?_ <;> intro hc <;> first | (exfalso; omega) | skip)))
  refine K.c_loop (σ := WSt × Nat) (fun s => [(0, wv s.1), (1, .int .u64 s.2)]) (fun _ => h) (fun s => wA s.1 :: F)
    (fun r => r.2 < 18446744073709551616 ∧ ∃ pre, wadd pre s r.1 ∧ pre ++ cu r.2 = cu x) (fun s => s.2) (s, x) ⟨hx, [], wadd_nil s, rfl⟩ (by repeat (first | exact K.Sub.nil _ | refine K.Sub.cons rfl ?_)) rfl rfl ?_
  rintro ⟨s1, y⟩ ⟨hy, pre, hpre, hcu⟩ KL hKL
  dsimp only at hy hpre hcu ⊢
  have hl1 : (wb s1).length ≤ big := by
    have h1 := wadd_len hpre
    have h2 := congrArg List.length hcu
    have h3 := cu_len x
    rw [List.length_append] at h2
    omega
  (repeat' (first | refine X.rq ?_ | (refine X.rc ?_ ?_ <;> intro hc <;> first | (exfalso; omega) | skip)))
  · rw [K.or128 y]
    refine K.l_call (Fx.cal rfl) rfl (W_U8 h s1 (y % 128 + 128) (by omega) hl1) (K.pp [0] rfl) rfl ?_
    rintro v h' H' - ⟨rfl, rfl, s2, hs2, rfl⟩
    (repeat' (first | refine X.rq ?_ | (refine X.rc ?_ ?_ <;> intro hc <;> first | (exfalso; omega) | skip)))
    rw [K.shr7 y]
    refine K.a_round hKL (s2, y / 128) ⟨by omega, pre ++ lebs (y % 128 + 128) 1, wadd_trans hpre hs2, ?_⟩ ?_ rfl rfl (by dsimp only; omega)
    · rw [← hcu, cu_ge (x := y) (by omega) hy, List.append_assoc]
      simp [lebs, Nat.mod_eq_of_lt (show y % 128 + 128 < 256 by omega)]
    · rw [← wadd_val hs2]
      exact (by repeat (first | exact K.Sub.nil _ | refine K.Sub.cons rfl ?_))
  · refine K.l_call (Fx.cal rfl) rfl (W_U8 h s1 y (by omega) hl1) (K.pp [0] rfl) rfl ?_
    rintro v h' H' - ⟨rfl, rfl, s2, hs2, rfl⟩
    (repeat' (first | refine X.rq ?_ | (refine X.rc ?_ ?_ <;> intro hc <;> first | (exfalso; omega) | skip)))
    refine K.done (by first | exact Or.inl rfl | exact Or.inr rfl) rfl (by first | exact K.Base.le.refl _ | assumption) (H' := [wA s2]) rfl ⟨rfl, rfl, s2, ?_, rfl⟩
    have := wadd_trans hpre hs2
    rw [← hcu, cu_lt (x := y) (by omega)]
    simpa [lebs, Nat.mod_eq_of_lt (show y < 256 by omega)] using this

theorem W_Raw (h : Base) (s : WSt) (a : Option Nat) (cap : Nat) (b : List UInt8) (hl : (wb s).length + b.length ≤ big) :
    Tr Tryz.prog 137 [wv s, bufV a b.length cap] h [wA s, bufA 5 1 a b.length cap (b.map u8)] (fun v h' H' => v = unit ∧ h = h' ∧ ∃ s', wadd b s s' ∧ H' = [wA s', bufA 5 1 a b.length cap (b.map u8)]) := by
  unfold big at hl
  match s with
  | none =>
    refine K.enter Tryz.func137 rfl (Nat.le_of_ble_eq_true rfl) (fun F => ?_)
    simp only [wv]
    (repeat' (first | refine X.rq ?_ | (refine X.rc ?_ ?_ <;> intro hc <;> first | (exfalso; omega) | skip)))
    refine K.done (by first | exact Or.inl rfl | exact Or.inr rfl) rfl (by first | exact K.Base.le.refl _ | assumption) (H' := [wA none, _]) rfl ⟨rfl, rfl, none, trivial, rfl⟩
  | some (p, none) =>
    refine K.enter Tryz.func137 rfl (Nat.le_of_ble_eq_true rfl) (fun F => ?_)
    refine K.WC.open ?_
    simp only [wH, wv, List.cons_append, List.nil_append]
    (repeat' (first | refine X.rq ?_ | (refine X.rc ?_ ?_ <;> intro hc <;> first | (exfalso; omega) | skip)))
    refine K.AT.close (wH (some (p, none))) ?_
    refine K.done (by first | exact Or.inl rfl | exact Or.inr rfl) rfl (by first | exact K.Base.le.refl _ | assumption) (H' := [wA (some (p, none)), _]) rfl ⟨rfl, rfl, some (p, none), rfl, rfl⟩
  | some (p, some (a0, cap0, l)) =>
    simp only [wb] at hl
    refine K.enter Tryz.func137 rfl (Nat.le_of_ble_eq_true rfl) (fun F => ?_)
    refine K.WC.open ?_
    simp only [wH, wv, List.cons_append, List.nil_append]
    (repeat' (first | refine X.rq ?_ | (refine X.rc ?_ ?_ <;> intro hc <;> first | (exfalso; omega) | skip)))
    refine K.l_append_at 1 rfl (Fx.und rfl) (Fx.und rfl) rfl (Fx.sz rfl) (Fx.zr rfl) rfl (Fx.byt rfl) rfl rfl (K.src_buf 1 rfl (by simp [K.u8_one]) (by simp)) (by omega) (by omega) rfl (fun a' cap' => ?_)
    simp only [List.set_cons_zero, List.set_cons_succ, List.eraseIdx_cons_zero, List.eraseIdx_cons_succ, List.cons_append, List.nil_append]
    (repeat' (first | refine X.rq ?_ | (refine X.rc ?_ ?_ <;> intro hc <;> first | (exfalso; omega) | skip)))
    refine X.sto ?_
    (repeat' (first | refine X.rq ?_ | (refine X.rc ?_ ?_ <;> intro hc <;> first | (exfalso; omega) | skip)))
    rw [← List.map_append, ← List.length_append]
    refine K.AT.close (wH (some (p, some (a', cap', l ++ b)))) ?_
    refine K.done (by first | exact Or.inl rfl | exact Or.inr rfl) rfl (by first | exact K.Base.le.refl _ | assumption) (H' := [wA (some (p, some (a', cap', l ++ b))), _]) rfl ⟨rfl, rfl, some (p, some (a', cap', l ++ b)), ⟨rfl, rfl⟩, rfl⟩

theorem W_Text (h : Base) (s : WSt) (t : ByteArray) (hl : (wb s).length + t.size + 16 ≤ big) : Tr Tryz.prog 121 [wv s, .string t] h [wA s] (Wrote h s (cu t.size ++ t.data.toList)) := by
  have hb : t.size ≤ big := by omega
  unfold big at hb
  refine K.enter Tryz.func121 rfl (Nat.le_of_ble_eq_true rfl) (fun F => ?_)
  (repeat' (first | refine X.rq ?_ | (refine X.rc ?_ ?_ <;> intro hc <;> first | (exfalso; omega) | skip)))
  refine K.l_call (Fx.cal rfl) rfl (W_Uint h s t.size (by omega) (by omega)) (K.pp [0] rfl) rfl ?_
  rintro v h' H' - ⟨rfl, rfl, s', hs, rfl⟩
  (repeat' (first | refine X.rq ?_ | (refine X.rc ?_ ?_ <;> intro hc <;> first | (exfalso; omega) | skip)))
  refine K.l_toBytes (Fx.und rfl) (Fx.und rfl) (Fx.und rfl) rfl (by unfold maxLen; omega) rfl (fun B cap => ?_)
  have h3 := wadd_len hs
  have h4 := cu_len t.size
  have h5 : t.data.toList.length = t.size := by simp
  refine K.l_call (vals := [wv s, bufV (some B) t.size cap]) (Fx.cal rfl) rfl (by
    have := W_Raw h s' (some B) cap t.data.toList (by omega)
    rw [h5, wadd_val hs] at this
    exact this) (K.pp [1, 0] rfl) rfl ?_
  rintro v h' H' - ⟨rfl, rfl, s2, hs2, rfl⟩
  (repeat' (first | refine X.rq ?_ | (refine X.rc ?_ ?_ <;> intro hc <;> first | (exfalso; omega) | skip)))
  refine K.AT.perm (List.Perm.swap ..) (K.AT.drop ?_)
  refine K.done (by first | exact Or.inl rfl | exact Or.inr rfl) rfl (by first | exact K.Base.le.refl _ | assumption) (H' := [wA s2]) rfl ⟨rfl, rfl, s2, wadd_trans hs hs2, rfl⟩

theorem W_Bytes (h : Base) (s : WSt) (hl : (wb s).length ≤ big) : Tr Tryz.prog 123 [wv s] h [wA s] (fun v h' H' => h = h' ∧ ∃ a cap, v = bufV a (wb s).length cap ∧ H' = [bufA 5 1 a (wb s).length cap ((wb s).map u8), wA s]) := by
  unfold big at hl
  match s with
  | none =>
    refine K.enter Tryz.func123 rfl (Nat.le_of_ble_eq_true rfl) (fun F => ?_)
    simp only [wv]
    (repeat' (first | refine X.rq ?_ | (refine X.rc ?_ ?_ <;> intro hc <;> first | (exfalso; omega) | skip)))
    refine K.AT.nilBuf 5 1 ?_
    refine K.done (by first | exact Or.inl rfl | exact Or.inr rfl) rfl (by first | exact K.Base.le.refl _ | assumption) (H' := [_, wA none]) rfl ⟨rfl, none, 0, rfl, rfl⟩
  | some (p, none) =>
    refine K.enter Tryz.func123 rfl (Nat.le_of_ble_eq_true rfl) (fun F => ?_)
    refine K.WC.open ?_
    simp only [wH, wv, List.cons_append, List.nil_append]
    (repeat' (first | refine X.rq ?_ | (refine X.rc ?_ ?_ <;> intro hc <;> first | (exfalso; omega) | skip)))
    refine K.WL.nilBuf 5 1 ?_
    refine K.l_append_at 0 rfl (Fx.und rfl) (Fx.und rfl) rfl (Fx.sz rfl) (Fx.zr rfl) rfl (Fx.byt rfl) rfl rfl K.src_nil (by omega) (by omega) rfl (fun a' cap' => ?_)
    simp only [List.set_cons_zero, List.set_cons_succ, List.eraseIdx_cons_zero, List.eraseIdx_cons_succ, List.cons_append, List.nil_append]
    (repeat' (first | refine X.rq ?_ | (refine X.rc ?_ ?_ <;> intro hc <;> first | (exfalso; omega) | skip)))
    refine K.AT.perm (List.Perm.swap ..) (K.AT.close (wH (some (p, none))) (K.AT.perm (List.Perm.swap ..) ?_))
    refine K.done (by first | exact Or.inl rfl | exact Or.inr rfl) rfl (by first | exact K.Base.le.refl _ | assumption) (H' := [_, wA (some (p, none))]) rfl ⟨rfl, a', cap', rfl, rfl⟩
  | some (p, some (a0, cap0, l)) =>
    simp only [wb] at hl
    refine K.enter Tryz.func123 rfl (Nat.le_of_ble_eq_true rfl) (fun F => ?_)
    refine K.WC.open ?_
    simp only [wH, wv, List.cons_append, List.nil_append]
    (repeat' (first | refine X.rq ?_ | (refine X.rc ?_ ?_ <;> intro hc <;> first | (exfalso; omega) | skip)))
    refine K.WL.nilBuf 5 1 ?_
    refine K.l_append_at 0 rfl (Fx.und rfl) (Fx.und rfl) rfl (Fx.sz rfl) (Fx.zr rfl) rfl (Fx.byt rfl) rfl rfl (K.src_buf 1 rfl (by simp [K.u8_one]) (by simp)) (by omega) (by omega) rfl (fun a' cap' => ?_)
    simp only [List.set_cons_zero, List.set_cons_succ, List.eraseIdx_cons_zero, List.eraseIdx_cons_succ, List.cons_append, List.nil_append]
    (repeat' (first | refine X.rq ?_ | (refine X.rc ?_ ?_ <;> intro hc <;> first | (exfalso; omega) | skip)))
    rw [Nat.zero_add]
    refine K.AT.perm (K.perm3 ..) (K.AT.close (wH (some (p, some (a0, cap0, l)))) (K.AT.perm (List.Perm.swap ..) ?_))
    refine K.done (by first | exact Or.inl rfl | exact Or.inr rfl) rfl (by first | exact K.Base.le.refl _ | assumption) (H' := [_, wA (some (p, some (a0, cap0, l)))]) rfl ⟨rfl, a', cap', rfl, rfl⟩
end Go.Proofs.YtkdngpiiecmpgaaGreat.Ca
