/-
  A table behind acts; does somebody wait? Conditions: each theorem's own.
-/
import Derived.Test.YtcpdfajaggbjlaaDoorUc
import Derived.Test.YtcpdfajaggbjlaaDoorUd

namespace Go.Proofs.YtcpdfajaggbjlaaDoor.Lk
open Go Go.K Go.Proofs Go.Proofs.YtcpdfajaggbjlaaDoor
set_option linter.unusedVariables false
set_option linter.unusedSimpArgs false
set_option maxRecDepth 10000

set_option maxHeartbeats 2000000 in
theorem Waiting (h : Base) (v : Value) (l : List PLock) (txn : Nat) (hv : SL h 7 v (l.map cK)) (hl : l.length ≤ 1000000) :
    TrV Tryd.prog 24 [v, .int .u32 txn] h [] (.bool (l.any (waitP txn))) [] := by
  have hlen : (l.map cK).length = l.length := List.length_map ..
  obtain ⟨ao, ca, rfl⟩ := hv.len
  rw [hlen] at hv ⊢
  refine K.enter Tryd.func24 rfl (Nat.le_of_ble_eq_true rfl) (fun F => ?_)
  simp only [List.nil_append, List.cons_append]
  (repeat' (first | refine X.rq ?_ | (refine X.rc ?_ ?_ <;> intro hc <;> first | (exfalso; omega) | skip)))
  refine K.c_loop (σ := Nat) (fun j => [(0, .slice ao l.length ca), (1, .int .u32 txn), (5, .int .i64 j)]) (fun _ => h) (fun _ => F) (fun j => j ≤ l.length ∧ (l.take j).any (waitP txn) = false) (fun j => l.length - j) 0 ⟨Nat.zero_le _, rfl⟩ (by repeat (first | exact K.Sub.nil _ | refine K.Sub.cons rfl ?_)) rfl rfl ?_
  rintro j ⟨hj, hno⟩ KL hKL
  by_cases hjl : j < l.length
  · have hx1 : l[j]? = some l[j] := List.getElem?_eq_getElem hjl
    have hmem : l[j] ∈ l := List.getElem_mem hjl
    generalize l[j] = x at hx1 hmem
    have hc0 : (l.map cK)[j]? = some (cK x) := by rw [List.getElem?_map, hx1]; rfl
    obtain ⟨bb, oo, rfl, hcx⟩ := hv.at hc0
    have hat := any_take (p := waitP txn) hx1
    rw [hno, Bool.false_or] at hat
    have hwt : waitP txn x = (decide (x.txn = txn) && !x.held) := rfl
    (repeat' (first | refine X.rq ?_ | (refine X.rc ?_ ?_ <;> intro hc <;> first | (exfalso; omega) | skip)))
    refine K.s_pure (K.p_load (v := .int .u32 x.txn) (Fx.agg rfl) rfl (Cels.up hcx).1) rfl ?_
    by_cases ht : x.txn = txn
    · (repeat' (first | refine X.rq ?_ | (refine X.rc ?_ ?_ <;> intro hc <;> first | (exfalso; omega) | skip)))
      cases hxh : x.held with
      | true =>
        refine K.s_pure (K.p_load (v := .bool true) (Fx.agg rfl) rfl (by show Cel _ _ _ _ (Value.bool _); rw [← hxh]; exact (Cels.up hcx).2.2.2.2.2.2.1)) rfl ?_
        (repeat' (first | refine X.rq ?_ | (refine X.rc ?_ ?_ <;> intro hc <;> first | (exfalso; omega) | skip)))
        refine K.a_round hKL (j+1) ⟨by omega, by rw [hat, hwt, hxh]; simp⟩ (by repeat (first | exact K.Sub.nil _ | refine K.Sub.cons rfl ?_)) rfl rfl (by omega)
      | false =>
        have hany : l.any (waitP txn) = true := List.any_eq_true.2 ⟨x, hmem, by rw [hwt, hxh, ht]; simp⟩
        rw [hany]
        refine K.s_pure (K.p_load (v := .bool false) (Fx.agg rfl) rfl (by show Cel _ _ _ _ (Value.bool _); rw [← hxh]; exact (Cels.up hcx).2.2.2.2.2.2.1)) rfl ?_
        (repeat' (first | refine X.rq ?_ | (refine X.rc ?_ ?_ <;> intro hc <;> first | (exfalso; omega) | skip)))
        refine K.done (by first | exact Or.inl rfl | exact Or.inr rfl) rfl (by first | exact K.Base.le.refl _ | assumption) (H' := []) rfl ⟨rfl, rfl, rfl⟩
    · (repeat' (first | refine X.rq ?_ | (refine X.rc ?_ ?_ <;> intro hc <;> first | (exfalso; omega) | skip)))
      refine K.a_round hKL (j+1) ⟨by omega, by rw [hat, hwt, decide_eq_false ht]; rfl⟩ (by repeat (first | exact K.Sub.nil _ | refine K.Sub.cons rfl ?_)) rfl rfl (by omega)
  · obtain rfl : j = l.length := by omega
    rw [List.take_length] at hno
    rw [hno]
    (repeat' (first | refine X.rq ?_ | (refine X.rc ?_ ?_ <;> intro hc <;> first | (exfalso; omega) | skip)))
    refine K.done (by first | exact Or.inl rfl | exact Or.inr rfl) rfl (by first | exact K.Base.le.refl _ | assumption) (H' := []) rfl ⟨rfl, rfl, rfl⟩
structure PyS where
  i : Nat
  a : Option Nat
  k : Nat
  l : List PLock
set_option maxHeartbeats 4000000 in
theorem Played (h : Base) (v : Value) (l0 : List PAct) (hv : SL h 7 v (l0.map cA)) (hw : ∀ x ∈ l0, wfA x) (hl : l0.length ≤ 120) (hG : Glob h) :
    Tr Tryd.prog 23 [v] h [] (fun u h' H' => h' = h ∧ ∃ BT a k l, u = .pointer (some ⟨BT, 0, none⟩) ∧ Inv l ∧ l.length ≤ l0.length ∧ H' = [rowsA a k l, tabB BT a k l]) := by
  have hlen : (l0.map cA).length = l0.length := List.length_map ..
  obtain ⟨ao, ca, rfl⟩ := hv.len
  rw [hlen] at hv ⊢
  refine K.enter Tryd.func23 rfl (Nat.le_of_ble_eq_true rfl) (fun F => ?_)
  simp only [List.nil_append, List.cons_append]
  (repeat' (first | refine X.rq ?_ | (refine X.rc ?_ ?_ <;> intro hc <;> first | (exfalso; omega) | skip)))
  refine K.l_call (Fx.cal rfl) rfl (New h) (K.pp [] rfl) rfl ?_
  rintro u h' H' - ⟨e, BT, rfl, rfl⟩
  obtain rfl := e.symm
  simp only [List.nil_append, List.cons_append]
  (repeat' (first | refine X.rq ?_ | (refine X.rc ?_ ?_ <;> intro hc <;> first | (exfalso; omega) | skip)))
  refine K.c_loop (σ := PyS) (fun s => [(0, .slice ao l0.length ca), (3, .pointer (some ⟨BT, 0, none⟩)), (4, .int .i64 s.i)]) (fun _ => h) (fun s => rowsA s.a s.k s.l :: tabB BT s.a s.k s.l :: F)
    (fun s => s.i ≤ l0.length ∧ Inv s.l ∧ s.l.length ≤ s.i) (fun s => l0.length - s.i) ⟨0, none, 0, []⟩ ⟨Nat.zero_le _, Inv.nil, Nat.le_refl _⟩ (by repeat (first | exact K.Sub.nil _ | refine K.Sub.cons rfl ?_)) rfl rfl ?_
  rintro ⟨i, a, k, l⟩ ⟨hi, hinv, hll⟩ KL hKL
  dsimp only at hi hinv hll ⊢
  by_cases hil : i < l0.length
  · have hx1 : l0[i]? = some l0[i] := List.getElem?_eq_getElem hil
    have hwx := hw _ (List.getElem_mem hil)
    generalize l0[i] = x at hx1 hwx
    have hc0 : (l0.map cA)[i]? = some (cA x) := by rw [List.getElem?_map, hx1]; rfl
    obtain ⟨bb, oo, rfl, hcx⟩ := hv.at hc0
    by_cases h0 : x.op = 0
    · have hask := Ask h BT a k l x.txn x.thing x.mode hinv.wf hG hwx.thing hwx.txn (by omega)
      have hal := ask_len l x.txn x.thing x.mode
      have hai := ask_inv hinv (mode := x.mode) hwx.thing hwx.txn
      generalize askQ l x.txn x.thing x.mode = r at hask hal hai
      (repeat' (first | refine X.rq ?_ | (refine X.rc ?_ ?_ <;> intro hc <;> first | (exfalso; omega) | skip)))
      refine K.s_pure (K.p_load (v := .int .i64 x.op) (Fx.agg rfl) rfl (Cels.up hcx).1) rfl ?_
      (repeat' (first | refine X.rq ?_ | (refine X.rc ?_ ?_ <;> intro hc <;> first | (exfalso; omega) | skip)))
      all_goals first | (exfalso; simp_all; done) | skip
      refine X.draw ([]) [] (.pu 0 (.pu 1 (.pu 2 (.pu 3 (.pu 4 (.pu 6 (.pu 7 (.pu 8 (.pu 9 (.pu 11 (.pu 12 (.pu 13 (.pu 14 (.st 5 (.st 10 (.st 15 (.on 16 .nil))))))))))))))))) ?_ (hQ := by repeat (first | with_reducible refine K.NoPanic.then ?_ | with_reducible refine K.NoPanic.inBlock ?_ | with_reducible exact K.post_noPanic _ _ | exact K.post_noPanic _ _))
      refine K.d_pu rfl (fun _ _ => X.mv) rfl ?_
      refine K.d_pu rfl (fun _ _ => X.mv) rfl ?_
      refine K.d_pu rfl (fun _ _ => X.mv) rfl ?_
      refine K.d_pu rfl (fun _ _ => X.ia) rfl ?_
      refine K.d_pu rfl (fun _ _ => X.fa) rfl ?_
      refine K.d_pu rfl (fun _ _ => X.mv) rfl ?_
      refine K.d_pu rfl (fun _ _ => X.mv) rfl ?_
      refine K.d_pu rfl (fun _ _ => X.ia) rfl ?_
      refine K.d_pu rfl (fun _ _ => X.fa) rfl ?_
      refine K.d_pu rfl (fun _ _ => X.mv) rfl ?_
      refine K.d_pu rfl (fun _ _ => X.mv) rfl ?_
      refine K.d_pu rfl (fun _ _ => X.ia) rfl ?_
      refine K.d_pu rfl (fun _ _ => X.fa) rfl ?_
      refine K.d_st rfl (K.p_load (v := .int .u32 x.txn) (Fx.agg rfl) rfl (Cels.up hcx).2.1) rfl ?_
      refine K.d_st rfl (K.p_loadN (vs := cT x.thing) (Fx.agg rfl) (Fx.sz rfl) rfl (act_thing (Cels.up hcx))) rfl ?_
      refine K.d_st rfl (K.p_load (v := .int .i64 x.mode) (Fx.agg rfl) rfl (Cels.up hcx).2.2.2.2.2.2.1) rfl ?_
      refine K.d_on rfl (fun KK hKK => ?_)
      refine K.l_call (Fx.cal rfl) rfl hask (K.pp [0, 0] rfl) rfl ?_
      rintro u h' H' - ⟨e, a2, k2, rfl, rfl⟩
      obtain rfl := e.symm
      simp only [List.nil_append, List.cons_append]
      simp only [List.set_cons_zero, List.set_cons_succ, List.eraseIdx_cons_zero, List.eraseIdx_cons_succ, List.cons_append, List.nil_append]
      refine K.l_nil ?_
      refine X.onE hKK ?_
      refine K.d_nil ?_
      (repeat' (first | refine X.rq ?_ | (refine X.rc ?_ ?_ <;> intro hc <;> first | (exfalso; omega) | skip)))
      refine K.a_round hKL ⟨i + 1, a2, k2, r.1⟩ ⟨by dsimp only; omega, hai, by dsimp only; omega⟩ (by repeat (first | exact K.Sub.nil _ | refine K.Sub.cons rfl ?_)) rfl rfl (by dsimp only; omega)
    · by_cases h1 : x.op = 1
      · have hrel := Release h BT a k l x.txn hinv.wf hG (by omega)
        have hrl := rel_len l x.txn
        have hri := release_inv hinv x.txn
        (repeat' (first | refine X.rq ?_ | (refine X.rc ?_ ?_ <;> intro hc <;> first | (exfalso; omega) | skip)))
        refine K.s_pure (K.p_load (v := .int .i64 x.op) (Fx.agg rfl) rfl (Cels.up hcx).1) rfl ?_
        (repeat' (first | refine X.rq ?_ | (refine X.rc ?_ ?_ <;> intro hc <;> first | (exfalso; omega) | skip)))
        all_goals first | (exfalso; simp_all; done) | skip
        refine K.s_pure (K.p_load (v := .int .u32 x.txn) (Fx.agg rfl) rfl (Cels.up hcx).2.1) rfl ?_
        (repeat' (first | refine X.rq ?_ | (refine X.rc ?_ ?_ <;> intro hc <;> first | (exfalso; omega) | skip)))
        refine K.l_call (Fx.cal rfl) rfl hrel (K.pp [0, 0] rfl) rfl ?_
        rintro u h' H' - ⟨e, a2, k2, rfl, rfl⟩
        obtain rfl := e.symm
        simp only [List.nil_append, List.cons_append]
        simp only [List.set_cons_zero, List.set_cons_succ, List.eraseIdx_cons_zero, List.eraseIdx_cons_succ, List.cons_append, List.nil_append]
        (repeat' (first | refine X.rq ?_ | (refine X.rc ?_ ?_ <;> intro hc <;> first | (exfalso; omega) | skip)))
        refine K.AT.sel [2] rfl ?_
        refine K.a_round hKL ⟨i + 1, a, k, (releaseQ l x.txn).1⟩ ⟨by dsimp only; omega, hri, by dsimp only; omega⟩ (by repeat (first | exact K.Sub.nil _ | refine K.Sub.cons rfl ?_)) rfl rfl (by dsimp only; omega)
      · (repeat' (first | refine X.rq ?_ | (refine X.rc ?_ ?_ <;> intro hc <;> first | (exfalso; omega) | skip)))
        refine K.s_pure (K.p_load (v := .int .i64 x.op) (Fx.agg rfl) rfl (Cels.up hcx).1) rfl ?_
        (repeat' (first | refine X.rq ?_ | (refine X.rc ?_ ?_ <;> intro hc <;> first | (exfalso; omega) | skip)))
        all_goals first | (exfalso; simp_all; done) | skip
        refine K.a_round hKL ⟨i + 1, a, k, l⟩ ⟨by dsimp only; omega, hinv, by dsimp only; omega⟩ (by repeat (first | exact K.Sub.nil _ | refine K.Sub.cons rfl ?_)) rfl rfl (by dsimp only; omega)
  · obtain rfl : i = l0.length := by omega
    (repeat' (first | refine X.rq ?_ | (refine X.rc ?_ ?_ <;> intro hc <;> first | (exfalso; omega) | skip)))
    refine K.done (by first | exact Or.inl rfl | exact Or.inr rfl) rfl (by first | exact K.Base.le.refl _ | assumption) (H' := [_, _]) rfl ⟨rfl, BT, a, k, l, rfl, hinv, hll, rfl⟩
end Go.Proofs.YtcpdfajaggbjlaaDoor.Lk
