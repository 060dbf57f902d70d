/-
  What is done is undone: the statement, walked. Conditions: each theorem's own.
-/
import Derived.Test.YtjgfgpdkcojnmaaFt
import Derived.Test.YtjgfgpdkcojnmaaFq

namespace Go.Proofs.Ytjgfgpdkcojnmaa.Pg
open Go Go.K Go.Proofs Go.Proofs.Ytjgfgpdkcojnmaa
set_option linter.unusedVariables false
set_option linter.unusedSimpArgs false
set_option maxRecDepth 10000

theorem wf_zP : wfP zP := ⟨by decide, by decide, by decide, by decide⟩
theorem do_err {p : Pag} {o : POp} (h : (doQ p o).2 ≠ 0) : (doQ p o).1 = zP := by
  unfold doQ doR putQ at *
  split
  · rfl
  · split
    · rfl
    · rename_i h1 h2
      rw [if_neg h1, if_neg h2] at h
      split
      · rename_i h3
        rw [if_pos h3] at h
        split
        · rfl
        · rename_i h4
          rw [if_neg h4] at h
          split
          · rfl
          · rename_i h5
            rw [if_neg h5] at h
            split
            · rename_i h6
              rw [if_pos h6] at h
              exact absurd rfl h
            · rfl
      · rename_i h3
        rw [if_neg h3] at h
        split
        · rfl
        · rename_i h4
          rw [if_neg h4] at h
          split
          · rfl
          · rename_i x hx
            rw [hx] at h
            simp only at h
            split
            · rfl
            · rename_i h5
              rw [if_neg h5] at h
              split
              · rfl
              · rename_i h6
                rw [if_neg h6] at h
                split
                · rename_i h7
                  rw [if_pos h7] at h
                  exact absurd rfl h
                · rename_i h7
                  rw [if_neg h7] at h
                  exact absurd rfl h
theorem do_wf {p : Pag} {o : POp} (hw : wfP p) : wfP (doQ p o).1 := by
  by_cases h : (doQ p o).2 = 0
  · have he : doQ p o = ((doQ p o).1, 0) := Prod.ext rfl h
    obtain ⟨k1, k2, k3, k4, _⟩ := do_keeps he
    have h60 := ((mayQ_iff p).1 (do_ok he).1).2.1
    exact ⟨by rw [k1]; exact hw.kind, by rw [k2]; exact hw.lsn, by rw [k3]; exact hw.next, by omega⟩
  · rw [do_err h]; exact wf_zP
set_option maxHeartbeats 4000000 in
theorem PageThere (h : Base) (cs : List Value) (p : Pag) (ds : List Value) (o : POp) (hx : PagC h cs p) (ho : OpC h ds o) :
    Tr Try.prog 9 [.agg cs.toArray, .agg ds.toArray] h [] (fun u h' H' => u = .bool true ∧ H' = []) := by
  have hx0 := hx
  have ho0 := ho
  obtain ⟨hw, cv, rfl, es, hv, hel, hr⟩ := hx
  obtain ⟨ao, ca, rfl⟩ := hv.len
  obtain ⟨hwo, ao4, ca4, rfl, hbo⟩ := ho
  refine K.enter Try.func9 rfl (Nat.le_of_ble_eq_true rfl) (fun F => ?_)
  simp only [List.nil_append]
  (repeat' (first | (apply K.s_pure; (first | (apply Y.mv; exact X.mv) | (apply Y.sg; exact X.sg) | (apply Y.pk; exact X.pk) | (apply Y.ex; exact X.ex) | (apply Y.fa; exact X.fa) | (apply Y.ld; exact X.ld) | (apply Y.len; exact X.len) | (apply Y.nt; exact X.nt) | (apply Y.beql; exact X.beql) | (apply Y.bneq; exact X.bneq) | (apply Y.bgtr; exact X.bgtr)); exact rfl) | refine X.l ?_ | refine X.w ?_ | refine X.a ?_ | (refine K.c_condD rfl (fun hc => ?_) (fun hc => ?_) <;> first | (exfalso; omega) | skip) | refine K.c_cond rfl (fun hc => ?_) (fun hc => ?_) | (refine K.s_guardD rfl rfl (fun hc => ?_) (fun hc => ?_) <;> first | (exfalso; omega) | skip) | refine K.s_guard rfl rfl (fun hc => ?_) (fun hc => ?_)))
  refine K.l_box rfl rfl rfl (fun B2 => ?_)
  refine K.l_box rfl rfl rfl (fun B3 => ?_)
  (repeat' (first | (apply K.s_pure; (first | (apply Y.mv; exact X.mv) | (apply Y.sg; exact X.sg) | (apply Y.pk; exact X.pk) | (apply Y.ex; exact X.ex) | (apply Y.fa; exact X.fa) | (apply Y.ld; exact X.ld) | (apply Y.len; exact X.len) | (apply Y.nt; exact X.nt) | (apply Y.beql; exact X.beql) | (apply Y.bneq; exact X.bneq) | (apply Y.bgtr; exact X.bgtr)); exact rfl) | refine X.l ?_ | refine X.w ?_ | refine X.a ?_ | (refine K.c_condD rfl (fun hc => ?_) (fun hc => ?_) <;> first | (exfalso; omega) | skip) | refine K.c_cond rfl (fun hc => ?_) (fun hc => ?_) | (refine K.s_guardD rfl rfl (fun hc => ?_) (fun hc => ?_) <;> first | (exfalso; omega) | skip) | refine K.s_guard rfl rfl (fun hc => ?_) (fun hc => ?_)))
  refine K.l_callV (Fx.cal rfl) rfl (Long h _ p hx0) (K.pp [] rfl) rfl rfl ?_
  simp only [List.nil_append]
  cases hlo : longQ p.cells with
  | true =>
    (repeat' (first | (apply K.s_pure; (first | (apply Y.mv; exact X.mv) | (apply Y.sg; exact X.sg) | (apply Y.pk; exact X.pk) | (apply Y.ex; exact X.ex) | (apply Y.fa; exact X.fa) | (apply Y.ld; exact X.ld) | (apply Y.len; exact X.len) | (apply Y.nt; exact X.nt) | (apply Y.beql; exact X.beql) | (apply Y.bneq; exact X.bneq) | (apply Y.bgtr; exact X.bgtr)); exact rfl) | refine X.l ?_ | refine X.w ?_ | refine X.a ?_ | (refine K.c_condD rfl (fun hc => ?_) (fun hc => ?_) <;> first | (exfalso; omega) | skip) | refine K.c_cond rfl (fun hc => ?_) (fun hc => ?_) | (refine K.s_guardD rfl rfl (fun hc => ?_) (fun hc => ?_) <;> first | (exfalso; omega) | skip) | refine K.s_guard rfl rfl (fun hc => ?_) (fun hc => ?_)))
    refine K.l_callV (Fx.cal rfl) rfl (Alive h) (K.pp [] rfl) rfl rfl ?_
    simp only [List.nil_append]
    (repeat' (first | (apply K.s_pure; (first | (apply Y.mv; exact X.mv) | (apply Y.sg; exact X.sg) | (apply Y.pk; exact X.pk) | (apply Y.ex; exact X.ex) | (apply Y.fa; exact X.fa) | (apply Y.ld; exact X.ld) | (apply Y.len; exact X.len) | (apply Y.nt; exact X.nt) | (apply Y.beql; exact X.beql) | (apply Y.bneq; exact X.bneq) | (apply Y.bgtr; exact X.bgtr)); exact rfl) | refine X.l ?_ | refine X.w ?_ | refine X.a ?_ | (refine K.c_condD rfl (fun hc => ?_) (fun hc => ?_) <;> first | (exfalso; omega) | skip) | refine K.c_cond rfl (fun hc => ?_) (fun hc => ?_) | (refine K.s_guardD rfl rfl (fun hc => ?_) (fun hc => ?_) <;> first | (exfalso; omega) | skip) | refine K.s_guard rfl rfl (fun hc => ?_) (fun hc => ?_)))
    refine K.AT.sel [0, 0] rfl ?_
    refine K.done (by first | exact Or.inl rfl | exact Or.inr rfl) rfl (by first | exact K.Base.le.refl _ | assumption) (H' := []) rfl ⟨rfl, rfl⟩
  | false =>
    (repeat' (first | (apply K.s_pure; (first | (apply Y.mv; exact X.mv) | (apply Y.sg; exact X.sg) | (apply Y.pk; exact X.pk) | (apply Y.ex; exact X.ex) | (apply Y.fa; exact X.fa) | (apply Y.ld; exact X.ld) | (apply Y.len; exact X.len) | (apply Y.nt; exact X.nt) | (apply Y.beql; exact X.beql) | (apply Y.bneq; exact X.bneq) | (apply Y.bgtr; exact X.bgtr)); exact rfl) | refine X.l ?_ | refine X.w ?_ | refine X.a ?_ | (refine K.c_condD rfl (fun hc => ?_) (fun hc => ?_) <;> first | (exfalso; omega) | skip) | refine K.c_cond rfl (fun hc => ?_) (fun hc => ?_) | (refine K.s_guardD rfl rfl (fun hc => ?_) (fun hc => ?_) <;> first | (exfalso; omega) | skip) | refine K.s_guard rfl rfl (fun hc => ?_) (fun hc => ?_)))
    · refine K.l_callV (Fx.cal rfl) rfl (Alive h) (K.pp [] rfl) rfl rfl ?_
      simp only [List.nil_append]
      (repeat' (first | (apply K.s_pure; (first | (apply Y.mv; exact X.mv) | (apply Y.sg; exact X.sg) | (apply Y.pk; exact X.pk) | (apply Y.ex; exact X.ex) | (apply Y.fa; exact X.fa) | (apply Y.ld; exact X.ld) | (apply Y.len; exact X.len) | (apply Y.nt; exact X.nt) | (apply Y.beql; exact X.beql) | (apply Y.bneq; exact X.bneq) | (apply Y.bgtr; exact X.bgtr)); exact rfl) | refine X.l ?_ | refine X.w ?_ | refine X.a ?_ | (refine K.c_condD rfl (fun hc => ?_) (fun hc => ?_) <;> first | (exfalso; omega) | skip) | refine K.c_cond rfl (fun hc => ?_) (fun hc => ?_) | (refine K.s_guardD rfl rfl (fun hc => ?_) (fun hc => ?_) <;> first | (exfalso; omega) | skip) | refine K.s_guard rfl rfl (fun hc => ?_) (fun hc => ?_)))
      refine K.AT.sel [0, 0] rfl ?_
      refine K.done (by first | exact Or.inl rfl | exact Or.inr rfl) rfl (by first | exact K.Base.le.refl _ | assumption) (H' := []) rfl ⟨rfl, rfl⟩
    · refine K.l_call (Fx.cal rfl) rfl (Do h _ _ p o hx0 ho0) (K.pp [] rfl) rfl ?_
      rintro u h' H' - ⟨e, b2, cap2, l2, hl2, hk2, rfl, rfl⟩
      obtain rfl := e.symm
      refine K.WL.freezeA (fun h1 le1 hs1 => ?_)
      have hp1 := says_page (p := (doQ p o).1) hs1 hk2 (do_wf hw) hl2
      rw [show (doQ p o).1.cells.length = l2.length by rw [hl2, List.length_map]] at hp1
      generalize hqe : doQ p o = qe at hl2 hp1 ⊢
      obtain ⟨q, e⟩ := qe
      dsimp only at hl2 hp1 ⊢
      have hx1 := hx0.le le1
      have ho1 := ho0.le le1
      (repeat' (first | (apply K.s_pure; (first | (apply Y.mv; exact X.mv) | (apply Y.sg; exact X.sg) | (apply Y.pk; exact X.pk) | (apply Y.ex; exact X.ex) | (apply Y.fa; exact X.fa) | (apply Y.ld; exact X.ld) | (apply Y.len; exact X.len) | (apply Y.nt; exact X.nt) | (apply Y.beql; exact X.beql) | (apply Y.bneq; exact X.bneq) | (apply Y.bgtr; exact X.bgtr)); exact rfl) | refine X.l ?_ | refine X.w ?_ | refine X.a ?_ | (refine K.c_condD rfl (fun hc => ?_) (fun hc => ?_) <;> first | (exfalso; omega) | skip) | refine K.c_cond rfl (fun hc => ?_) (fun hc => ?_) | (refine K.s_guardD rfl rfl (fun hc => ?_) (fun hc => ?_) <;> first | (exfalso; omega) | skip) | refine K.s_guard rfl rfl (fun hc => ?_) (fun hc => ?_)))
      refine K.l_alloc (Fx.zr rfl) rfl rfl (fun B5 => ?_)
      refine X.stw ?_
      simp only [List.set_cons_zero, List.set_cons_succ, List.eraseIdx_cons_zero, List.eraseIdx_cons_succ, List.cons_append, List.nil_append]
      (repeat' (first | (apply K.s_pure; (first | (apply Y.mv; exact X.mv) | (apply Y.sg; exact X.sg) | (apply Y.pk; exact X.pk) | (apply Y.ex; exact X.ex) | (apply Y.fa; exact X.fa) | (apply Y.ld; exact X.ld) | (apply Y.len; exact X.len) | (apply Y.nt; exact X.nt) | (apply Y.beql; exact X.beql) | (apply Y.bneq; exact X.bneq) | (apply Y.bgtr; exact X.bgtr)); exact rfl) | refine X.l ?_ | refine X.w ?_ | refine X.a ?_ | (refine K.c_condD rfl (fun hc => ?_) (fun hc => ?_) <;> first | (exfalso; omega) | skip) | refine K.c_cond rfl (fun hc => ?_) (fun hc => ?_) | (refine K.s_guardD rfl rfl (fun hc => ?_) (fun hc => ?_) <;> first | (exfalso; omega) | skip) | refine K.s_guard rfl rfl (fun hc => ?_) (fun hc => ?_)))
      refine K.l_call (Fx.cal rfl) rfl (Undo h1 p.kind _ o ho1) (K.pp [] rfl) rfl ?_
      rintro u h' H' - ⟨e', a3, cap3, rfl, rfl⟩
      obtain rfl := e'.symm
      simp only [List.cons_append, List.nil_append]
      refine K.WL.freezeBuf (fun h3 le3 hbv3 => ?_)
      have hwx := undo_wf (k := p.kind) hwo
      obtain ⟨ao3, ca3, e3⟩ : ∃ ao3 ca3, bufV a3 (undoQ p.kind o).1.data.length cap3 = .slice ao3 (undoQ p.kind o).1.data.length ca3 := ⟨_, _, rfl⟩
      rw [e3] at hbv3 ⊢
      have hc3 : OpC h3 (cO (undoQ p.kind o).1 (.slice ao3 (undoQ p.kind o).1.data.length ca3)) (undoQ p.kind o).1 := ⟨hwx, _, _, rfl, hbv3⟩
      have hund := fun (e0 : e = 0) (hk : o.kind = 1 ∨ o.kind = 2) => do_undo (q := q) (by rw [hqe, e0]) hk
      have hwq : wfP q := by have := do_wf (o := o) hw; rw [hqe] at this; exact this
      generalize undoQ p.kind o = xe at hc3 hund ⊢
      obtain ⟨x, f⟩ := xe
      dsimp only at hc3 hund ⊢
      (repeat' (first | (apply K.s_pure; (first | (apply Y.mv; exact X.mv) | (apply Y.sg; exact X.sg) | (apply Y.pk; exact X.pk) | (apply Y.ex; exact X.ex) | (apply Y.fa; exact X.fa) | (apply Y.ld; exact X.ld) | (apply Y.len; exact X.len) | (apply Y.nt; exact X.nt) | (apply Y.beql; exact X.beql) | (apply Y.bneq; exact X.bneq) | (apply Y.bgtr; exact X.bgtr)); exact rfl) | refine X.l ?_ | refine X.w ?_ | refine X.a ?_ | (refine K.c_condD rfl (fun hc => ?_) (fun hc => ?_) <;> first | (exfalso; omega) | skip) | refine K.c_cond rfl (fun hc => ?_) (fun hc => ?_) | (refine K.s_guardD rfl rfl (fun hc => ?_) (fun hc => ?_) <;> first | (exfalso; omega) | skip) | refine K.s_guard rfl rfl (fun hc => ?_) (fun hc => ?_)))
      refine K.l_alloc (Fx.zr rfl) rfl rfl (fun B7 => ?_)
      refine X.stw ?_
      simp only [List.set_cons_zero, List.set_cons_succ, List.eraseIdx_cons_zero, List.eraseIdx_cons_succ, List.cons_append, List.nil_append]
      by_cases he : e = 0 ∧ (o.kind = 1 ∨ o.kind = 2)
      · obtain ⟨rfl, hk12⟩ := he
        obtain ⟨f0, hdo, hne⟩ := hund rfl hk12
        subst f0
        have hdo2 := Do h3 _ _ q x (hp1.le le3) hc3
        rw [hdo] at hdo2
        (repeat' (first | (apply K.s_pure; (first | (apply Y.mv; exact X.mv) | (apply Y.sg; exact X.sg) | (apply Y.pk; exact X.pk) | (apply Y.ex; exact X.ex) | (apply Y.fa; exact X.fa) | (apply Y.ld; exact X.ld) | (apply Y.len; exact X.len) | (apply Y.nt; exact X.nt) | (apply Y.beql; exact X.beql) | (apply Y.bneq; exact X.bneq) | (apply Y.bgtr; exact X.bgtr)); exact rfl) | refine X.l ?_ | refine X.w ?_ | refine X.a ?_ | (refine K.c_condD rfl (fun hc => ?_) (fun hc => ?_) <;> first | (exfalso; omega) | skip) | refine K.c_cond rfl (fun hc => ?_) (fun hc => ?_) | (refine K.s_guardD rfl rfl (fun hc => ?_) (fun hc => ?_) <;> first | (exfalso; omega) | skip) | refine K.s_guard rfl rfl (fun hc => ?_) (fun hc => ?_)))
        all_goals
          refine K.l_call (Fx.cal rfl) rfl hdo2 (K.pp [] rfl) rfl ?_
          rintro u h' H' - ⟨e', b4, cap4, l4, hl4, hk4, rfl, rfl⟩
          obtain rfl := e'.symm
          refine K.WL.freezeA (fun h4 le4 hs4 => ?_)
          have hp4 := says_page (p := p) hs4 hk4 hw hl4
          dsimp only at hl4
          rw [show p.cells.length = l4.length by rw [hl4, List.length_map]] at hp4
          (repeat' (first | (apply K.s_pure; (first | (apply Y.mv; exact X.mv) | (apply Y.sg; exact X.sg) | (apply Y.pk; exact X.pk) | (apply Y.ex; exact X.ex) | (apply Y.fa; exact X.fa) | (apply Y.ld; exact X.ld) | (apply Y.len; exact X.len) | (apply Y.nt; exact X.nt) | (apply Y.beql; exact X.beql) | (apply Y.bneq; exact X.bneq) | (apply Y.bgtr; exact X.bgtr)); exact rfl) | refine X.l ?_ | refine X.w ?_ | refine X.a ?_ | (refine K.c_condD rfl (fun hc => ?_) (fun hc => ?_) <;> first | (exfalso; omega) | skip) | refine K.c_cond rfl (fun hc => ?_) (fun hc => ?_) | (refine K.s_guardD rfl rfl (fun hc => ?_) (fun hc => ?_) <;> first | (exfalso; omega) | skip) | refine K.s_guard rfl rfl (fun hc => ?_) (fun hc => ?_)))
          refine K.l_alloc (Fx.zr rfl) rfl rfl (fun B9 => ?_)
          refine X.stw ?_
          simp only [List.set_cons_zero, List.set_cons_succ, List.eraseIdx_cons_zero, List.eraseIdx_cons_succ, List.cons_append, List.nil_append]
          (repeat' (first | (apply K.s_pure; (first | (apply Y.mv; exact X.mv) | (apply Y.sg; exact X.sg) | (apply Y.pk; exact X.pk) | (apply Y.ex; exact X.ex) | (apply Y.fa; exact X.fa) | (apply Y.ld; exact X.ld) | (apply Y.len; exact X.len) | (apply Y.nt; exact X.nt) | (apply Y.beql; exact X.beql) | (apply Y.bneq; exact X.bneq) | (apply Y.bgtr; exact X.bgtr)); exact rfl) | refine X.l ?_ | refine X.w ?_ | refine X.a ?_ | (refine K.c_condD rfl (fun hc => ?_) (fun hc => ?_) <;> first | (exfalso; omega) | skip) | refine K.c_cond rfl (fun hc => ?_) (fun hc => ?_) | (refine K.s_guardD rfl rfl (fun hc => ?_) (fun hc => ?_) <;> first | (exfalso; omega) | skip) | refine K.s_guard rfl rfl (fun hc => ?_) (fun hc => ?_)))
          refine K.l_callV (Fx.cal rfl) rfl (SameP h4 _ _ p p hp4 ((hx1.le le3).le le4)) (K.pp [] rfl) rfl rfl ?_
          rw [decide_eq_true (rfl : p = p)]
          simp only [List.nil_append]
          (repeat' (first | (apply K.s_pure; (first | (apply Y.mv; exact X.mv) | (apply Y.sg; exact X.sg) | (apply Y.pk; exact X.pk) | (apply Y.ex; exact X.ex) | (apply Y.fa; exact X.fa) | (apply Y.ld; exact X.ld) | (apply Y.len; exact X.len) | (apply Y.nt; exact X.nt) | (apply Y.beql; exact X.beql) | (apply Y.bneq; exact X.bneq) | (apply Y.bgtr; exact X.bgtr)); exact rfl) | refine X.l ?_ | refine X.w ?_ | refine X.a ?_ | (refine K.c_condD rfl (fun hc => ?_) (fun hc => ?_) <;> first | (exfalso; omega) | skip) | refine K.c_cond rfl (fun hc => ?_) (fun hc => ?_) | (refine K.s_guardD rfl rfl (fun hc => ?_) (fun hc => ?_) <;> first | (exfalso; omega) | skip) | refine K.s_guard rfl rfl (fun hc => ?_) (fun hc => ?_)))
          refine K.l_callV (Fx.cal rfl) rfl (SameP h4 _ _ q p ((hp1.le le3).le le4) ((hx1.le le3).le le4)) (K.pp [] rfl) rfl rfl ?_
          rw [decide_eq_false hne]
          simp only [List.nil_append]
          (repeat' (first | (apply K.s_pure; (first | (apply Y.mv; exact X.mv) | (apply Y.sg; exact X.sg) | (apply Y.pk; exact X.pk) | (apply Y.ex; exact X.ex) | (apply Y.fa; exact X.fa) | (apply Y.ld; exact X.ld) | (apply Y.len; exact X.len) | (apply Y.nt; exact X.nt) | (apply Y.beql; exact X.beql) | (apply Y.bneq; exact X.bneq) | (apply Y.bgtr; exact X.bgtr)); exact rfl) | refine X.l ?_ | refine X.w ?_ | refine X.a ?_ | (refine K.c_condD rfl (fun hc => ?_) (fun hc => ?_) <;> first | (exfalso; omega) | skip) | refine K.c_cond rfl (fun hc => ?_) (fun hc => ?_) | (refine K.s_guardD rfl rfl (fun hc => ?_) (fun hc => ?_) <;> first | (exfalso; omega) | skip) | refine K.s_guard rfl rfl (fun hc => ?_) (fun hc => ?_)))
          refine K.l_callV (Fx.cal rfl) rfl (Alive h4) (K.pp [] rfl) rfl rfl ?_
          simp only [List.nil_append]
          (repeat' (first | (apply K.s_pure; (first | (apply Y.mv; exact X.mv) | (apply Y.sg; exact X.sg) | (apply Y.pk; exact X.pk) | (apply Y.ex; exact X.ex) | (apply Y.fa; exact X.fa) | (apply Y.ld; exact X.ld) | (apply Y.len; exact X.len) | (apply Y.nt; exact X.nt) | (apply Y.beql; exact X.beql) | (apply Y.bneq; exact X.bneq) | (apply Y.bgtr; exact X.bgtr)); exact rfl) | refine X.l ?_ | refine X.w ?_ | refine X.a ?_ | (refine K.c_condD rfl (fun hc => ?_) (fun hc => ?_) <;> first | (exfalso; omega) | skip) | refine K.c_cond rfl (fun hc => ?_) (fun hc => ?_) | (refine K.s_guardD rfl rfl (fun hc => ?_) (fun hc => ?_) <;> first | (exfalso; omega) | skip) | refine K.s_guard rfl rfl (fun hc => ?_) (fun hc => ?_)))
          refine K.AT.sel [0, 0, 0, 0, 0] rfl ?_
          refine K.done (by first | exact Or.inl rfl | exact Or.inr rfl) rfl ((le1.trans le3).trans le4) (H' := []) rfl ⟨rfl, rfl⟩
      · (repeat' (first | (apply K.s_pure; (first | (apply Y.mv; exact X.mv) | (apply Y.sg; exact X.sg) | (apply Y.pk; exact X.pk) | (apply Y.ex; exact X.ex) | (apply Y.fa; exact X.fa) | (apply Y.ld; exact X.ld) | (apply Y.len; exact X.len) | (apply Y.nt; exact X.nt) | (apply Y.beql; exact X.beql) | (apply Y.bneq; exact X.bneq) | (apply Y.bgtr; exact X.bgtr)); exact rfl) | refine X.l ?_ | refine X.w ?_ | refine X.a ?_ | (refine K.c_condD rfl (fun hc => ?_) (fun hc => ?_) <;> first | (exfalso; omega) | skip) | refine K.c_cond rfl (fun hc => ?_) (fun hc => ?_) | (refine K.s_guardD rfl rfl (fun hc => ?_) (fun hc => ?_) <;> first | (exfalso; omega) | skip) | refine K.s_guard rfl rfl (fun hc => ?_) (fun hc => ?_)))
        all_goals
          refine K.l_callV (Fx.cal rfl) rfl (Alive h3) (K.pp [] rfl) rfl rfl ?_
          simp only [List.nil_append]
          (repeat' (first | (apply K.s_pure; (first | (apply Y.mv; exact X.mv) | (apply Y.sg; exact X.sg) | (apply Y.pk; exact X.pk) | (apply Y.ex; exact X.ex) | (apply Y.fa; exact X.fa) | (apply Y.ld; exact X.ld) | (apply Y.len; exact X.len) | (apply Y.nt; exact X.nt) | (apply Y.beql; exact X.beql) | (apply Y.bneq; exact X.bneq) | (apply Y.bgtr; exact X.bgtr)); exact rfl) | refine X.l ?_ | refine X.w ?_ | refine X.a ?_ | (refine K.c_condD rfl (fun hc => ?_) (fun hc => ?_) <;> first | (exfalso; omega) | skip) | refine K.c_cond rfl (fun hc => ?_) (fun hc => ?_) | (refine K.s_guardD rfl rfl (fun hc => ?_) (fun hc => ?_) <;> first | (exfalso; omega) | skip) | refine K.s_guard rfl rfl (fun hc => ?_) (fun hc => ?_)))
          refine K.AT.sel [0, 0, 0, 0] rfl ?_
          refine K.done (by first | exact Or.inl rfl | exact Or.inr rfl) rfl (le1.trans le3) (H' := []) rfl ⟨rfl, rfl⟩
end Go.Proofs.Ytjgfgpdkcojnmaa.Pg
