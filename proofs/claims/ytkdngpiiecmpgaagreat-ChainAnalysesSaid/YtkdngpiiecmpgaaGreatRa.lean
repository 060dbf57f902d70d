/-
  The walks of the document's answer for layer 2, the writing side: fixed and counted numbers, folds, texts. Conditions: each theorem's own.
-/
import Derived.Test.YtkdngpiiecmpgaaGreatKX
import Derived.Test.YtkdngpiiecmpgaaGreatMX
import Derived.Test.YtkdngpiiecmpgaaGreatKA

namespace Go.Proofs.YtkdngpiiecmpgaaGreat.Ra
open Go Go.K Go.Proofs Go.Proofs.YtkdngpiiecmpgaaGreat
set_option linter.unusedVariables false
set_option linter.unusedSimpArgs false
set_option maxRecDepth 10000

/-- A fresh row of these bytes is handed back. -/
def Gave (h : Base) (l : List UInt8) (v : Value) (h' : Base) (H' : List Asrt) : Prop := h = h' ∧ ∃ a cap, v = bufV a l.length cap ∧ H' = [bufA 5 1 a l.length cap (l.map u8)]

theorem RefUint (h : Base) (x : Nat) (hx : x < 18446744073709551616) : Tr Tryz.prog 115 [.int .u64 x] h [] (Gave h (cu x)) := by
  refine K.enter Tryz.func115 rfl (Nat.le_of_ble_eq_true rfl) (fun F => ?_)
  refine K.WC.nilBuf 5 1 ?_
  (repeat' (first | refine X.rq ?_ | (refine X.rc ?_ ?_ <;> intro hc <;> first | (exfalso; omega) | skip)))
  refine K.c_loop (σ := Nat × Option Nat × Nat × List UInt8) (fun s => [(0, .int .u64 s.1), (3, bufV s.2.1 s.2.2.2.length s.2.2.1)]) (fun _ => h)
    (fun s => bufA 5 1 s.2.1 s.2.2.2.length s.2.2.1 (s.2.2.2.map u8) :: F) (fun s => s.1 < 18446744073709551616 ∧ s.2.2.2 ++ cu s.1 = cu x) (fun s => s.1) (x, none, 0, []) ⟨hx, rfl⟩ (by repeat (first | exact K.Sub.nil _ | refine K.Sub.cons rfl ?_)) rfl rfl ?_
  rintro ⟨y, a, cap, pre⟩ ⟨hy, hpre⟩ KL hKL
  dsimp only at hy hpre ⊢
  have hlen : pre.length ≤ 10 := by
    have h1 := congrArg List.length hpre
    have h2 := cu_len x
    rw [List.length_append] at h1
    omega
  (repeat' (first | refine X.rq ?_ | (refine X.rc ?_ ?_ <;> intro hc <;> first | (exfalso; omega) | skip)))
  · refine X.bs (fun B => ?_)
    refine K.l_append_at 1 rfl (Fx.und rfl) (Fx.und rfl) rfl (Fx.sz rfl) (Fx.zr rfl) rfl (Fx.byt rfl) rfl rfl (K.src_one (K.cel_own 0 rfl rfl) rfl) (by omega) (by omega) rfl (fun a' cap' => ?_)
    simp only [List.set_cons_zero, List.set_cons_succ, List.eraseIdx_cons_zero, List.eraseIdx_cons_succ, List.cons_append, List.nil_append]
    (repeat' (first | refine X.rq ?_ | (refine X.rc ?_ ?_ <;> intro hc <;> first | (exfalso; omega) | skip)))
    have e : pre.length + 1 = (pre ++ [UInt8.ofNat (y % 128 + 128)]).length := by simp
    rw [e]
    refine K.AT.drop (K.a_round hKL (y / 128, a', cap', pre ++ [UInt8.ofNat (y % 128 + 128)]) ⟨by omega, ?_⟩ (by repeat (first | exact K.Sub.nil _ | refine K.Sub.cons rfl ?_)) rfl ?_ (by dsimp only; omega))
    · dsimp only
      rw [← hpre, cu_ge (x := y) (by omega) hy, List.append_assoc]; rfl
    · dsimp only
      rw [List.map_append, List.map_singleton, K.u8_of (by omega), show ((y % 128 + 128 : Nat) : Int) = 128 + (y : Int) % 128 from by omega]
  · rw [cu_lt (by omega)] at hpre
    refine X.bs (fun B => ?_)
    refine K.l_append_at 1 rfl (Fx.und rfl) (Fx.und rfl) rfl (Fx.sz rfl) (Fx.zr rfl) rfl (Fx.byt rfl) rfl rfl (K.src_one (K.cel_own 0 rfl rfl) rfl) (by omega) (by omega) rfl (fun a' cap' => ?_)
    simp only [List.set_cons_zero, List.set_cons_succ, List.eraseIdx_cons_zero, List.eraseIdx_cons_succ, List.cons_append, List.nil_append]
    (repeat' (first | refine X.rq ?_ | (refine X.rc ?_ ?_ <;> intro hc <;> first | (exfalso; omega) | skip)))
    refine K.AT.drop ?_
    have e : pre.length + 1 = (pre ++ [UInt8.ofNat y]).length := by simp
    rw [e]
    refine K.done (by first | exact Or.inl rfl | exact Or.inr rfl) rfl (by first | exact K.Base.le.refl _ | assumption) (H' := [bufA 5 1 a' (pre ++ [UInt8.ofNat y]).length cap' (pre.map u8 ++ [.int .u8 y])]) rfl ⟨rfl, a', cap', ?_, ?_⟩
    · rw [← hpre]; rfl
    · rw [← hpre, List.map_append, List.map_singleton, K.u8_of (by omega)]

theorem RefText (h : Base) (t : ByteArray) (hb : t.size ≤ 1099511627776) : Tr Tryz.prog 78 [.string t] h [] (Gave h (cu t.size ++ t.data.toList)) := by
  refine K.enter Tryz.func78 rfl (Nat.le_of_ble_eq_true rfl) (fun F => ?_)
  have hcl := cu_len t.size
  have hsz : t.data.toList.length = t.size := by simp
  (repeat' (first | refine X.rq ?_ | (refine X.rc ?_ ?_ <;> intro hc <;> first | (exfalso; omega) | skip)))
  refine K.l_call (Fx.cal rfl) rfl (RefUint h t.size (by omega)) (K.pp [] rfl) rfl ?_
  rintro v h' H' - ⟨rfl, a, cap, rfl, rfl⟩
  (repeat' (first | refine X.rq ?_ | (refine X.rc ?_ ?_ <;> intro hc <;> first | (exfalso; omega) | skip)))
  refine K.c_loop (σ := Nat × Option Nat × Nat) (fun s => [(0, .string t), (3, bufV s.2.1 ((cu t.size).length + s.1) s.2.2), (4, .int .i64 s.1)]) (fun _ => h)
    (fun s => bufA 5 1 s.2.1 ((cu t.size).length + s.1) s.2.2 ((cu t.size ++ t.data.toList.take s.1).map u8) :: F) (fun s => s.1 ≤ t.size) (fun s => t.size - s.1) (0, a, cap) (Nat.zero_le _) (by repeat (first | exact K.Sub.nil _ | refine K.Sub.cons rfl ?_)) rfl (by rw [List.take_zero, List.append_nil]; rfl) ?_
  rintro ⟨j, a, cap⟩ hj KL hKL
  dsimp only at hj ⊢
  by_cases hjl : j < t.size
  · have hc0 : t.data.toList[((j : Nat) : Int).toNat]? = some (t.data.toList[j]'(by omega)) := by rw [Int.toNat_natCast]; exact List.getElem?_eq_getElem (by omega)
    have htk : t.data.toList.take (j + 1) = t.data.toList.take j ++ [t.data.toList[j]'(by omega)] := List.take_succ_eq_append_getElem (by omega)
    generalize t.data.toList[j]'(by omega) = c at hc0 htk
    (repeat' (first | refine X.rq ?_ | (refine X.rc ?_ ?_ <;> intro hc <;> first | (exfalso; omega) | skip)))
    refine X.bs (fun B => ?_)
    refine K.l_append_at 1 rfl (Fx.und rfl) (Fx.und rfl) rfl (Fx.sz rfl) (Fx.zr rfl) rfl (Fx.byt rfl) rfl rfl (K.src_one (K.cel_own 0 rfl rfl) rfl) (by omega) (by omega) rfl (fun a' cap' => ?_)
    simp only [List.set_cons_zero, List.set_cons_succ, List.eraseIdx_cons_zero, List.eraseIdx_cons_succ, List.cons_append, List.nil_append]
    (repeat' (first | refine X.rq ?_ | (refine X.rc ?_ ?_ <;> intro hc <;> first | (exfalso; omega) | skip)))
    refine K.AT.drop (K.a_round hKL (j + 1, a', cap') (by omega) (by repeat (first | exact K.Sub.nil _ | refine K.Sub.cons rfl ?_)) rfl ?_ (by dsimp only; omega))
    dsimp only
    rw [htk, ← List.append_assoc, List.map_append (l₁ := cu t.size ++ _)]; rfl
  · (repeat' (first | refine X.rq ?_ | (refine X.rc ?_ ?_ <;> intro hc <;> first | (exfalso; omega) | skip)))
    obtain rfl : j = t.size := by omega
    rw [List.take_of_length_le (by omega)]
    refine K.done (by first | exact Or.inl rfl | exact Or.inr rfl) rfl (by first | exact K.Base.le.refl _ | assumption) (H' := [bufA 5 1 a ((cu t.size).length + t.size) cap ((cu t.size ++ t.data.toList).map u8)]) rfl ⟨rfl, a, cap, ?_, ?_⟩
    · rw [List.length_append, hsz]; rfl
    · rw [List.length_append, hsz]
end Go.Proofs.YtkdngpiiecmpgaaGreat.Ra
