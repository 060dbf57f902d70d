/-
  The answers that the document fixes are given. Conditions: each theorem's own.
-/
import Derived.Test.YtcpdfajaggbjlaaDoorTw

namespace Go.Proofs.YtcpdfajaggbjlaaDoor.Lk
open Go Go.K Go.Proofs Go.Proofs.YtcpdfajaggbjlaaDoor
set_option linter.unusedVariables false
set_option linter.unusedSimpArgs false
set_option maxRecDepth 10000

set_option maxHeartbeats 4000000 in
theorem Alive (h : Base) (hG : Glob h) : Tr Tryd.prog 9 [] h [] (fun u h' H' => u = .bool true ∧ H' = []) := by
  refine K.enter Tryd.func9 rfl (Nat.le_of_ble_eq_true rfl) (fun F => ?_)
  simp only [List.nil_append]
  (repeat' (first | refine X.rq ?_ | (refine X.rc ?_ ?_ <;> intro hc <;> first | (exfalso; omega) | skip)))
  refine K.l_call (Fx.cal rfl) rfl (New h) (K.pp [] rfl) rfl ?_
  rintro u h' H' - ⟨e, BT, rfl, rfl⟩
  obtain rfl := e.symm
  simp only [List.nil_append, List.cons_append]
  (repeat' (first | refine X.rq ?_ | (refine X.rc ?_ ?_ <;> intro hc <;> first | (exfalso; omega) | skip)))
  refine K.l_alloc (Fx.zr rfl) rfl rfl (fun B2 => ?_)
  refine X.stw ?_
  simp only [List.set_cons_zero, List.set_cons_succ, List.eraseIdx_cons_zero, List.eraseIdx_cons_succ, List.cons_append, List.nil_append]
  rw [show overL [Value.bool false, Value.int .u32 0, Value.string noT, Value.string noT] 1 (Value.int .u32 5).cells.toList = cT aliveT from rfl]
  have hA1 := Ask h BT none 0 [] 1 aliveT 3 (fun x hx => by cases hx) hG al_wf (by omega) (by decide)
  rw [al_ask1] at hA1
  (repeat' (first | refine X.rq ?_ | (refine X.rc ?_ ?_ <;> intro hc <;> first | (exfalso; omega) | skip)))
  refine K.l_call (Fx.cal rfl) rfl hA1 (K.pp [1, 1] rfl) rfl ?_
  rintro u h' H' - ⟨e, a1, k1, rfl, rfl⟩
  obtain rfl := e.symm
  simp only [List.nil_append, List.cons_append]
  clear hA1
  have hA2 := Ask h BT a1 k1 al1 2 aliveT 2 al_w1 hG al_wf (by omega) (by decide)
  rw [al_ask2] at hA2
  simp only [List.set_cons_zero, List.set_cons_succ, List.eraseIdx_cons_zero, List.eraseIdx_cons_succ, List.cons_append, List.nil_append]
  (repeat' (first | refine X.rq ?_ | (refine X.rc ?_ ?_ <;> intro hc <;> first | (exfalso; omega) | skip)))
  refine K.l_call (Fx.cal rfl) rfl hA2 (K.pp [0, 0] rfl) rfl ?_
  rintro u h' H' - ⟨e, a2, k2, rfl, rfl⟩
  obtain rfl := e.symm
  simp only [List.nil_append, List.cons_append]
  clear hA2
  have hA3 := Ask h BT a2 k2 al2 3 aliveT 1 al_w2 hG al_wf (by omega) (by decide)
  rw [al_ask3] at hA3
  simp only [List.set_cons_zero, List.set_cons_succ, List.eraseIdx_cons_zero, List.eraseIdx_cons_succ, List.cons_append, List.nil_append]
  (repeat' (first | refine X.rq ?_ | (refine X.rc ?_ ?_ <;> intro hc <;> first | (exfalso; omega) | skip)))
  refine K.l_call (Fx.cal rfl) rfl hA3 (K.pp [0, 0] rfl) rfl ?_
  rintro u h' H' - ⟨e, a3, k3, rfl, rfl⟩
  obtain rfl := e.symm
  simp only [List.nil_append, List.cons_append]
  clear hA3
  have hA4 := Ask h BT a3 k3 al3 2 aliveT 2 al_w3 hG al_wf (by omega) (by decide)
  rw [al_ask4] at hA4
  simp only [List.set_cons_zero, List.set_cons_succ, List.eraseIdx_cons_zero, List.eraseIdx_cons_succ, List.cons_append, List.nil_append]
  (repeat' (first | refine X.rq ?_ | (refine X.rc ?_ ?_ <;> intro hc <;> first | (exfalso; omega) | skip)))
  refine K.l_call (Fx.cal rfl) rfl hA4 (K.pp [0, 0] rfl) rfl ?_
  rintro u h' H' - ⟨e, a4, k4, rfl, rfl⟩
  obtain rfl := e.symm
  simp only [List.nil_append, List.cons_append]
  clear hA4
  have hW := Waits h BT a4 k4 al3 al_w3 hG (by decide)
  rw [al_waits] at hW
  simp only [List.set_cons_zero, List.set_cons_succ, List.eraseIdx_cons_zero, List.eraseIdx_cons_succ, List.cons_append, List.nil_append]
  (repeat' (first | refine X.rq ?_ | (refine X.rc ?_ ?_ <;> intro hc <;> first | (exfalso; omega) | skip)))
  refine K.l_call (Fx.cal rfl) rfl hW (K.pp [0, 0] rfl) rfl ?_
  rintro u h' H' - ⟨e, a5, k5, rfl, rfl⟩
  obtain rfl := e.symm
  simp only [List.nil_append, List.cons_append]
  rw [show [((2, 1) : PW)].length = 1 from rfl]
  clear hW
  have hH := HasA h BT a4 k4 al3 1 aliveT 1 al_w3 hG al_wf (by decide)
  rw [al_has] at hH
  have hAl := AllA h BT a4 k4 al3 (by decide)
  have hV := Victim h BT a4 k4 al3 al_w3 hG (by decide)
  simp only [List.set_cons_zero, List.set_cons_succ, List.eraseIdx_cons_zero, List.eraseIdx_cons_succ, List.cons_append, List.nil_append]
  (repeat' (first | refine X.rq ?_ | (refine X.rc ?_ ?_ <;> intro hc <;> first | (exfalso; omega) | skip)))
  refine K.WL.someBuf 2 rfl (by decide) (fun b hb' => ?_)
  subst hb'
  (repeat' (first | refine X.rq ?_ | (refine X.rc ?_ ?_ <;> intro hc <;> first | (exfalso; omega) | skip)))
  refine K.s_pure (K.p_loadN (vs := cW (2, 1)) (Fx.agg rfl) (Fx.sz rfl) rfl (cel_W (j := 0) 2 rfl rfl rfl)) rfl ?_
  (repeat' (first | refine X.rq ?_ | (refine X.rc ?_ ?_ <;> intro hc <;> first | (exfalso; omega) | skip)))
  refine K.s_pure (eqP (2, 1) (2, 1) rfl rfl) rfl ?_
  rw [decide_eq_true (rfl : ((2, 1) : PW) = (2, 1))]
  (repeat' (first | refine X.rq ?_ | (refine X.rc ?_ ?_ <;> intro hc <;> first | (exfalso; omega) | skip)))
  refine K.l_callV (Fx.cal rfl) rfl hH (K.pp [0, 0] rfl) rfl rfl ?_
  simp only [List.nil_append, List.cons_append]
  clear hH
  simp only [List.set_cons_zero, List.set_cons_succ, List.eraseIdx_cons_zero, List.eraseIdx_cons_succ, List.cons_append, List.nil_append]
  (repeat' (first | refine X.rq ?_ | (refine X.rc ?_ ?_ <;> intro hc <;> first | (exfalso; omega) | skip)))
  refine K.l_call (Fx.cal rfl) rfl hAl (K.pp [0, 0] rfl) rfl ?_
  rintro u h' H' - ⟨e, a6, k6, rfl, rfl⟩
  obtain rfl := e.symm
  simp only [List.nil_append, List.cons_append]
  clear hAl
  simp only [List.set_cons_zero, List.set_cons_succ, List.eraseIdx_cons_zero, List.eraseIdx_cons_succ, List.cons_append, List.nil_append]
  (repeat' (first | refine X.rq ?_ | (refine X.rc ?_ ?_ <;> intro hc <;> first | (exfalso; omega) | skip)))
  refine K.l_call (Fx.cal rfl) rfl hV (K.pp [0, 0] rfl) rfl ?_
  rintro u h' H' hle ⟨v, rfl, hv, -, rfl⟩
  obtain rfl := al_vict hv
  simp only [List.nil_append, List.cons_append]
  clear hV
  simp only [List.set_cons_zero, List.set_cons_succ, List.eraseIdx_cons_zero, List.eraseIdx_cons_succ, List.cons_append, List.nil_append]
  (repeat' (first | refine X.rq ?_ | (refine X.rc ?_ ?_ <;> intro hc <;> first | (exfalso; omega) | skip)))
  refine K.AT.sel [0, 0, 0, 0, 0] rfl ?_
  refine K.done (by first | exact Or.inl rfl | exact Or.inr rfl) rfl (by first | exact K.Base.le.refl _ | assumption) (H' := []) rfl ⟨by show Value.bool _ = _; simp, rfl⟩
end Go.Proofs.YtcpdfajaggbjlaaDoor.Lk
