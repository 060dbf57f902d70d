/-
  Whether a page may be, its size, its room; what undoes an operation: the statements, walked. Conditions: each theorem's own.
-/
import Derived.Test.YtjgfgpdkcojnmaaFp

namespace Go.Proofs.Ytjgfgpdkcojnmaa.Pg
open Go Go.K Go.Proofs Go.Proofs.Ytjgfgpdkcojnmaa
set_option linter.unusedVariables false
set_option linter.unusedSimpArgs false
set_option maxRecDepth 10000

theorem page_of_row {h : Base} {v : Value} {es : List (List Value)} {p : Pag} (hw : wfP p) (hv : SL h 3 v es) (hr : RowC h es p.cells) : PagC h (cP p v) p := ⟨hw, v, rfl, es, hv, hr.1, hr.2.2⟩
theorem small_long {p : Pag} (hl : longQ p.cells = false) : small p.cells := by
  obtain ⟨h1, h2⟩ := long_no hl
  exact ⟨by omega, fun x hx => by have := h2 x hx; omega⟩
set_option maxHeartbeats 2000000 in
theorem PageMay (h : Base) (cs : List Value) (p : Pag) (hx : PagC h cs p) :
    Tr Try.prog 3 [.agg cs.toArray] h [] (fun u h' H' => u = .bool true ∧ H' = []) := by
  have hx0 := hx
  obtain ⟨hw, cv, rfl, es, hv, hel, hr⟩ := hx
  obtain ⟨ao, ca, rfl⟩ := hv.len
  refine K.enter Try.func3 rfl (Nat.le_of_ble_eq_true rfl) (fun F => ?_)
  simp only [List.nil_append]
  (repeat' (first | (apply K.s_pure; (first | (apply Y.mv; exact X.mv) | (apply Y.sg; exact X.sg) | (apply Y.pk; exact X.pk) | (apply Y.ld; exact X.ld) | (apply Y.beql; exact X.beql)); exact rfl) | refine X.l ?_ | refine X.w ?_ | refine X.a ?_ | (refine K.c_condD rfl (fun hc => ?_) (fun hc => ?_) <;> first | (exfalso; omega) | skip) | refine K.c_cond rfl (fun hc => ?_) (fun hc => ?_) | (refine K.s_guardD rfl rfl (fun hc => ?_) (fun hc => ?_) <;> first | (exfalso; omega) | skip) | refine K.s_guard rfl rfl (fun hc => ?_) (fun hc => ?_)))
  refine K.l_box rfl rfl rfl (fun B1 => ?_)
  (repeat' (first | (apply K.s_pure; (first | (apply Y.mv; exact X.mv) | (apply Y.sg; exact X.sg) | (apply Y.pk; exact X.pk) | (apply Y.ld; exact X.ld) | (apply Y.beql; exact X.beql)); exact rfl) | refine X.l ?_ | refine X.w ?_ | refine X.a ?_ | (refine K.c_condD rfl (fun hc => ?_) (fun hc => ?_) <;> first | (exfalso; omega) | skip) | refine K.c_cond rfl (fun hc => ?_) (fun hc => ?_) | (refine K.s_guardD rfl rfl (fun hc => ?_) (fun hc => ?_) <;> first | (exfalso; omega) | skip) | refine K.s_guard rfl rfl (fun hc => ?_) (fun hc => ?_)))
  refine K.l_callV (Fx.cal rfl) rfl (Long h _ p hx0) (K.pp [] rfl) rfl rfl ?_
  simp only [List.nil_append]
  cases hlo : longQ p.cells with
  | true =>
    (repeat' (first | (apply K.s_pure; (first | (apply Y.mv; exact X.mv) | (apply Y.sg; exact X.sg) | (apply Y.pk; exact X.pk) | (apply Y.ld; exact X.ld) | (apply Y.beql; exact X.beql)); exact rfl) | refine X.l ?_ | refine X.w ?_ | refine X.a ?_ | (refine K.c_condD rfl (fun hc => ?_) (fun hc => ?_) <;> first | (exfalso; omega) | skip) | refine K.c_cond rfl (fun hc => ?_) (fun hc => ?_) | (refine K.s_guardD rfl rfl (fun hc => ?_) (fun hc => ?_) <;> first | (exfalso; omega) | skip) | refine K.s_guard rfl rfl (fun hc => ?_) (fun hc => ?_)))
    refine K.l_callV (Fx.cal rfl) rfl (Alive h) (K.pp [] rfl) rfl rfl ?_
    simp only [List.nil_append]
    (repeat' (first | (apply K.s_pure; (first | (apply Y.mv; exact X.mv) | (apply Y.sg; exact X.sg) | (apply Y.pk; exact X.pk) | (apply Y.ld; exact X.ld) | (apply Y.beql; exact X.beql)); exact rfl) | refine X.l ?_ | refine X.w ?_ | refine X.a ?_ | (refine K.c_condD rfl (fun hc => ?_) (fun hc => ?_) <;> first | (exfalso; omega) | skip) | refine K.c_cond rfl (fun hc => ?_) (fun hc => ?_) | (refine K.s_guardD rfl rfl (fun hc => ?_) (fun hc => ?_) <;> first | (exfalso; omega) | skip) | refine K.s_guard rfl rfl (fun hc => ?_) (fun hc => ?_)))
    refine K.AT.drop ?_
    refine K.done (by first | exact Or.inl rfl | exact Or.inr rfl) rfl (by first | exact K.Base.le.refl _ | assumption) (H' := []) rfl ⟨rfl, rfl⟩
  | false =>
    have hs := small_long hlo
    (repeat' (first | (apply K.s_pure; (first | (apply Y.mv; exact X.mv) | (apply Y.sg; exact X.sg) | (apply Y.pk; exact X.pk) | (apply Y.ld; exact X.ld) | (apply Y.beql; exact X.beql)); exact rfl) | refine X.l ?_ | refine X.w ?_ | refine X.a ?_ | (refine K.c_condD rfl (fun hc => ?_) (fun hc => ?_) <;> first | (exfalso; omega) | skip) | refine K.c_cond rfl (fun hc => ?_) (fun hc => ?_) | (refine K.s_guardD rfl rfl (fun hc => ?_) (fun hc => ?_) <;> first | (exfalso; omega) | skip) | refine K.s_guard rfl rfl (fun hc => ?_) (fun hc => ?_)))
    refine K.l_call (Fx.cal rfl) rfl (CopyPage h _ p hx0 hs) (K.pp [] rfl) rfl ?_
    rintro u h1 H' le1 ⟨a2, cap2, es2, rfl, hrow, rfl⟩
    simp only [List.cons_append, List.nil_append]
    rw [← hrow.1]
    refine K.WL.freezeRow (fun e he => hrow.2.1 e he) (fun h2 le2 hsl2 hcap2 => ?_)
    have hp2 := page_of_row hw hsl2 (hrow.le le2)
    obtain ⟨ao2, ca2, e2⟩ : ∃ ao2 ca2, bufV a2 es2.length cap2 = .slice ao2 es2.length ca2 := ⟨_, _, rfl⟩
    rw [e2] at hp2 ⊢
    have hp1 := (hx0.le le1).le le2
    (repeat' (first | (apply K.s_pure; (first | (apply Y.mv; exact X.mv) | (apply Y.sg; exact X.sg) | (apply Y.pk; exact X.pk) | (apply Y.ld; exact X.ld) | (apply Y.beql; exact X.beql)); exact rfl) | refine X.l ?_ | refine X.w ?_ | refine X.a ?_ | (refine K.c_condD rfl (fun hc => ?_) (fun hc => ?_) <;> first | (exfalso; omega) | skip) | refine K.c_cond rfl (fun hc => ?_) (fun hc => ?_) | (refine K.s_guardD rfl rfl (fun hc => ?_) (fun hc => ?_) <;> first | (exfalso; omega) | skip) | refine K.s_guard rfl rfl (fun hc => ?_) (fun hc => ?_)))
    refine K.l_alloc (Fx.zr rfl) rfl rfl (fun B3 => ?_)
    refine X.stw ?_
    simp only [List.set_cons_zero, List.set_cons_succ, List.eraseIdx_cons_zero, List.eraseIdx_cons_succ, List.cons_append, List.nil_append]
    (repeat' (first | (apply K.s_pure; (first | (apply Y.mv; exact X.mv) | (apply Y.sg; exact X.sg) | (apply Y.pk; exact X.pk) | (apply Y.ld; exact X.ld) | (apply Y.beql; exact X.beql)); exact rfl) | refine X.l ?_ | refine X.w ?_ | refine X.a ?_ | (refine K.c_condD rfl (fun hc => ?_) (fun hc => ?_) <;> first | (exfalso; omega) | skip) | refine K.c_cond rfl (fun hc => ?_) (fun hc => ?_) | (refine K.s_guardD rfl rfl (fun hc => ?_) (fun hc => ?_) <;> first | (exfalso; omega) | skip) | refine K.s_guard rfl rfl (fun hc => ?_) (fun hc => ?_)))
    refine X.draw ([blk B3 26 (cP p (.slice ao2 es2.length ca2)), blk B1 26 (cP p (.slice ao es.length ca))]) [] (.st 0 (.st 2 (.on 1 (.on 3 (.pu 4 (.pu 5 (.st 6 (.st 8 (.on 7 (.on 9 (.pu 10 (.pu 11 (.pu 12 (.st 13 (.st 15 (.on 14 (.on 16 (.pu 17 (.pu 18 (.pu 19 (.st 20 (.st 21 (.on 22 (.pu 23 (.pu 24 (.on 25 (.pu 26 (.pu 27 .nil)))))))))))))))))))))))))))) ?_
    refine K.d_st rfl X.ld rfl ?_
    refine K.d_st rfl X.ld rfl ?_
    refine K.d_on rfl (fun KK hKK => ?_)
    refine K.l_callV (Fx.cal rfl) rfl (PMay h2 _ p hp1) (K.pp [] rfl) rfl rfl ?_
    simp only [List.nil_append]
    refine K.l_nil ?_
    refine X.onE hKK ?_
    refine K.d_on rfl (fun KK hKK => ?_)
    refine K.l_callV (Fx.cal rfl) rfl (RMay h2 _ p hp2) (K.pp [] rfl) rfl rfl ?_
    simp only [List.nil_append]
    refine K.l_nil ?_
    refine X.onE hKK ?_
    refine K.d_pu rfl (fun _ _ => X.beql) rfl ?_
    rw [beq_self_eq_true]
    refine K.d_pu rfl (fun _ _ => X.mv) rfl ?_
    first | refine K.d_skipS rfl rfl rfl rfl ?_ | refine K.d_skipUS rfl rfl rfl rfl rfl ?_ | refine K.d_stG rfl rfl rfl X.ld rfl ?_
    first | refine K.d_skipS rfl rfl rfl rfl ?_ | refine K.d_skipUS rfl rfl rfl rfl rfl ?_ | refine K.d_stG rfl rfl rfl X.ld rfl ?_
    refine K.d_on rfl (fun KK hKK => ?_)
    refine K.s_take rfl rfl ?_
    refine K.l_callV (Fx.cal rfl) rfl (PSize h2 _ p hp1 hs) (K.pp [] rfl) rfl rfl ?_
    simp only [List.nil_append]
    refine K.l_nil ?_
    refine X.onE hKK ?_
    refine K.d_on rfl (fun KK hKK => ?_)
    refine K.s_take rfl rfl ?_
    refine K.l_callV (Fx.cal rfl) rfl (RSize h2 _ p hp2 hs) (K.pp [] rfl) rfl rfl ?_
    simp only [List.nil_append]
    refine K.l_nil ?_
    refine X.onE hKK ?_
    first | refine K.d_skip rfl rfl rfl rfl ?_ | refine K.d_skipU rfl rfl rfl rfl rfl ?_ | refine K.d_puG rfl rfl rfl (fun _ _ => X.beql) rfl ?_
    rw [decide_eq_true rfl]
    refine K.d_pu rfl (fun _ _ => X.pk) rfl ?_
    refine K.d_pu rfl (fun _ _ => X.mv) rfl ?_
    first | refine K.d_skipS rfl rfl rfl rfl ?_ | refine K.d_skipUS rfl rfl rfl rfl rfl ?_ | refine K.d_stG rfl rfl rfl X.ld rfl ?_
    first | refine K.d_skipS rfl rfl rfl rfl ?_ | refine K.d_skipUS rfl rfl rfl rfl rfl ?_ | refine K.d_stG rfl rfl rfl X.ld rfl ?_
    refine K.d_on rfl (fun KK hKK => ?_)
    refine K.s_take rfl rfl ?_
    refine K.l_callV (Fx.cal rfl) rfl (Room h2 _ p hp1) (K.pp [] rfl) rfl rfl ?_
    simp only [List.nil_append]
    refine K.l_nil ?_
    refine X.onE hKK ?_
    refine K.d_on rfl (fun KK hKK => ?_)
    refine K.s_take rfl rfl ?_
    refine K.l_callV (Fx.cal rfl) rfl (RRoom h2 _ p hp2) (K.pp [] rfl) rfl rfl ?_
    simp only [List.nil_append]
    refine K.l_nil ?_
    refine X.onE hKK ?_
    first | refine K.d_skip rfl rfl rfl rfl ?_ | refine K.d_skipU rfl rfl rfl rfl rfl ?_ | refine K.d_puG rfl rfl rfl (fun _ _ => X.beql) rfl ?_
    rw [decide_eq_true rfl]
    refine K.d_pu rfl (fun _ _ => X.pk) rfl ?_
    refine K.d_pu rfl (fun _ _ => X.mv) rfl ?_
    first | refine K.d_skipS rfl rfl rfl rfl ?_ | refine K.d_skipUS rfl rfl rfl rfl rfl ?_ | refine K.d_stG rfl rfl rfl X.ld rfl ?_
    first | refine K.d_skipS rfl rfl rfl rfl ?_ | refine K.d_skipUS rfl rfl rfl rfl rfl ?_ | refine K.d_stG rfl rfl rfl X.ld rfl ?_
    refine K.d_on rfl (fun KK hKK => ?_)
    refine K.s_take rfl rfl ?_
    refine K.l_callV (Fx.cal rfl) rfl (SameP h2 _ _ p p hp1 hp2) (K.pp [] rfl) rfl rfl ?_
    rw [decide_eq_true (rfl : p = p)]
    simp only [List.nil_append]
    refine K.l_nil ?_
    refine X.onE hKK ?_
    refine K.d_pu rfl (fun _ _ => X.pk) rfl ?_
    refine K.d_pu rfl (fun _ _ => X.mv) rfl ?_
    refine K.d_on rfl (fun KK hKK => ?_)
    refine K.s_take rfl rfl ?_
    refine K.l_callV (Fx.cal rfl) rfl (Alive h2) (K.pp [] rfl) rfl rfl ?_
    simp only [List.nil_append]
    refine K.l_nil ?_
    refine X.onE hKK ?_
    refine K.d_pu rfl (fun _ _ => X.pk) rfl ?_
    refine K.d_pu rfl (fun _ _ => X.sg) rfl ?_
    refine K.d_nil ?_
    (repeat' (first | (apply K.s_pure; (first | (apply Y.mv; exact X.mv) | (apply Y.sg; exact X.sg) | (apply Y.pk; exact X.pk) | (apply Y.ld; exact X.ld) | (apply Y.beql; exact X.beql)); exact rfl) | refine X.l ?_ | refine X.w ?_ | refine X.a ?_ | (refine K.c_condD rfl (fun hc => ?_) (fun hc => ?_) <;> first | (exfalso; omega) | skip) | refine K.c_cond rfl (fun hc => ?_) (fun hc => ?_) | (refine K.s_guardD rfl rfl (fun hc => ?_) (fun hc => ?_) <;> first | (exfalso; omega) | skip) | refine K.s_guard rfl rfl (fun hc => ?_) (fun hc => ?_)))
    refine K.AT.sel [0, 0] rfl ?_
    refine K.done (by first | exact Or.inl rfl | exact Or.inr rfl) rfl (le1.trans le2) (H' := []) rfl ⟨rfl, rfl⟩
theorem inc8 (c : UInt8) : IntKind.u8.wrap ((c.toNat : Int) + 1) = ((c + 1).toNat : Int) := by
  rw [show ((c.toNat : Int) + 1) = ((c.toNat + 1 : Nat) : Int) by omega, K.wn8]
  simp [UInt8.toNat_add]
theorem undo_wf {k : Int} {o : POp} (hw : wfO o) : wfO (undoQ k o).1 := by
  unfold undoQ
  split
  · refine ⟨?_, ?_, (by decide : (0 : Nat) < 4294967296), ?_⟩
    · show in64 (if o.kind = 2 then 3 else 4)
      split <;> decide
    · show in64 (if k = 1 then o.slot else 0)
      split
      · exact hw.slot
      · decide
    · show (if k = 2 then o.data else []).length ≤ _
      split
      · exact hw.len
      · exact Nat.zero_le _
  · exact ⟨by decide, by decide, (by decide : (0 : Nat) < 4294967296), Nat.zero_le _⟩
set_option maxHeartbeats 4000000 in
theorem PageUndoes (h : Base) (k : Int) (cs : List Value) (o : POp) (hk64 : in64 k) (hx : OpC h cs o) :
    Tr Try.prog 8 [.int .i64 k, .agg cs.toArray] h [] (fun u h' H' => u = .bool true ∧ H' = []) := by
  have hx0 := hx
  obtain ⟨hw, ao, ca, rfl, hb⟩ := hx
  refine K.enter Try.func8 rfl (Nat.le_of_ble_eq_true rfl) (fun F => ?_)
  simp only [List.nil_append]
  (repeat' (first | (apply K.s_pure; (first | (apply Y.mv; exact X.mv) | (apply Y.sg; exact X.sg) | (apply Y.pk; exact X.pk) | (apply Y.ex; exact X.ex) | (apply Y.fa; exact X.fa) | (apply Y.ld; exact X.ld) | (apply Y.ia; exact X.ia) | (apply Y.len; exact X.len) | (apply Y.badd; exact X.badd) | (apply Y.beql; exact X.beql) | (apply Y.blss; exact X.blss) | (apply Y.bgtr; exact X.bgtr)); exact rfl) | refine X.l ?_ | refine X.w ?_ | refine X.a ?_ | (refine K.c_condD rfl (fun hc => ?_) (fun hc => ?_) <;> first | (exfalso; omega) | skip) | refine K.c_cond rfl (fun hc => ?_) (fun hc => ?_) | (refine K.s_guardD rfl rfl (fun hc => ?_) (fun hc => ?_) <;> first | (exfalso; omega) | skip) | refine K.s_guard rfl rfl (fun hc => ?_) (fun hc => ?_)))
  refine K.l_box rfl rfl rfl (fun B3 => ?_)
  (repeat' (first | (apply K.s_pure; (first | (apply Y.mv; exact X.mv) | (apply Y.sg; exact X.sg) | (apply Y.pk; exact X.pk) | (apply Y.ex; exact X.ex) | (apply Y.fa; exact X.fa) | (apply Y.ld; exact X.ld) | (apply Y.ia; exact X.ia) | (apply Y.len; exact X.len) | (apply Y.badd; exact X.badd) | (apply Y.beql; exact X.beql) | (apply Y.blss; exact X.blss) | (apply Y.bgtr; exact X.bgtr)); exact rfl) | refine X.l ?_ | refine X.w ?_ | refine X.a ?_ | (refine K.c_condD rfl (fun hc => ?_) (fun hc => ?_) <;> first | (exfalso; omega) | skip) | refine K.c_cond rfl (fun hc => ?_) (fun hc => ?_) | (refine K.s_guardD rfl rfl (fun hc => ?_) (fun hc => ?_) <;> first | (exfalso; omega) | skip) | refine K.s_guard rfl rfl (fun hc => ?_) (fun hc => ?_)))
  · refine K.l_callV (Fx.cal rfl) rfl (Alive h) (K.pp [] rfl) rfl rfl ?_
    simp only [List.nil_append]
    (repeat' (first | (apply K.s_pure; (first | (apply Y.mv; exact X.mv) | (apply Y.sg; exact X.sg) | (apply Y.pk; exact X.pk) | (apply Y.ex; exact X.ex) | (apply Y.fa; exact X.fa) | (apply Y.ld; exact X.ld) | (apply Y.ia; exact X.ia) | (apply Y.len; exact X.len) | (apply Y.badd; exact X.badd) | (apply Y.beql; exact X.beql) | (apply Y.blss; exact X.blss) | (apply Y.bgtr; exact X.bgtr)); exact rfl) | refine X.l ?_ | refine X.w ?_ | refine X.a ?_ | (refine K.c_condD rfl (fun hc => ?_) (fun hc => ?_) <;> first | (exfalso; omega) | skip) | refine K.c_cond rfl (fun hc => ?_) (fun hc => ?_) | (refine K.s_guardD rfl rfl (fun hc => ?_) (fun hc => ?_) <;> first | (exfalso; omega) | skip) | refine K.s_guard rfl rfl (fun hc => ?_) (fun hc => ?_)))
    refine K.AT.drop ?_
    refine K.done (by first | exact Or.inl rfl | exact Or.inr rfl) rfl (by first | exact K.Base.le.refl _ | assumption) (H' := []) rfl ⟨rfl, rfl⟩
  · have hl : o.data.length ≤ 2000 := by omega
    refine K.l_call (Fx.cal rfl) rfl (CopyOp h _ o hx0 (by omega)) (K.pp [] rfl) rfl ?_
    rintro u h' H' - ⟨e, a1, cap1, rfl, rfl⟩
    obtain rfl := e.symm
    simp only [List.cons_append, List.nil_append]
    refine K.WL.freezeBuf (fun h1 le1 hbv1 => ?_)
    obtain ⟨ao1, ca1, e1⟩ : ∃ ao1 ca1, bufV a1 o.data.length cap1 = .slice ao1 o.data.length ca1 := ⟨_, _, rfl⟩
    rw [e1] at hbv1 ⊢
    have hc1 : OpC h1 (cO o (.slice ao1 o.data.length ca1)) o := ⟨hw, _, _, rfl, hbv1⟩
    have hx1 := hx0.le le1
    (repeat' (first | (apply K.s_pure; (first | (apply Y.mv; exact X.mv) | (apply Y.sg; exact X.sg) | (apply Y.pk; exact X.pk) | (apply Y.ex; exact X.ex) | (apply Y.fa; exact X.fa) | (apply Y.ld; exact X.ld) | (apply Y.ia; exact X.ia) | (apply Y.len; exact X.len) | (apply Y.badd; exact X.badd) | (apply Y.beql; exact X.beql) | (apply Y.blss; exact X.blss) | (apply Y.bgtr; exact X.bgtr)); exact rfl) | refine X.l ?_ | refine X.w ?_ | refine X.a ?_ | (refine K.c_condD rfl (fun hc => ?_) (fun hc => ?_) <;> first | (exfalso; omega) | skip) | refine K.c_cond rfl (fun hc => ?_) (fun hc => ?_) | (refine K.s_guardD rfl rfl (fun hc => ?_) (fun hc => ?_) <;> first | (exfalso; omega) | skip) | refine K.s_guard rfl rfl (fun hc => ?_) (fun hc => ?_)))
    refine K.l_alloc (Fx.zr rfl) rfl rfl (fun B5 => ?_)
    refine X.stw ?_
    simp only [List.set_cons_zero, List.set_cons_succ, List.eraseIdx_cons_zero, List.eraseIdx_cons_succ, List.cons_append, List.nil_append]
    (repeat' (first | (apply K.s_pure; (first | (apply Y.mv; exact X.mv) | (apply Y.sg; exact X.sg) | (apply Y.pk; exact X.pk) | (apply Y.ex; exact X.ex) | (apply Y.fa; exact X.fa) | (apply Y.ld; exact X.ld) | (apply Y.ia; exact X.ia) | (apply Y.len; exact X.len) | (apply Y.badd; exact X.badd) | (apply Y.beql; exact X.beql) | (apply Y.blss; exact X.blss) | (apply Y.bgtr; exact X.bgtr)); exact rfl) | refine X.l ?_ | refine X.w ?_ | refine X.a ?_ | (refine K.c_condD rfl (fun hc => ?_) (fun hc => ?_) <;> first | (exfalso; omega) | skip) | refine K.c_cond rfl (fun hc => ?_) (fun hc => ?_) | (refine K.s_guardD rfl rfl (fun hc => ?_) (fun hc => ?_) <;> first | (exfalso; omega) | skip) | refine K.s_guard rfl rfl (fun hc => ?_) (fun hc => ?_)))
    refine K.l_call (Fx.cal rfl) rfl (Undo h1 k _ o hx1) (K.pp [] rfl) rfl ?_
    rintro u h' H' - ⟨e, a2, cap2, rfl, rfl⟩
    obtain rfl := e.symm
    simp only [List.cons_append, List.nil_append]
    have hwx := undo_wf (k := k) hw
    have hundo := RUndo h1 k _ o hc1
    generalize undoQ k o = xe at hwx hundo ⊢
    obtain ⟨x, e⟩ := xe
    dsimp only at hwx hundo ⊢
    (repeat' (first | (apply K.s_pure; (first | (apply Y.mv; exact X.mv) | (apply Y.sg; exact X.sg) | (apply Y.pk; exact X.pk) | (apply Y.ex; exact X.ex) | (apply Y.fa; exact X.fa) | (apply Y.ld; exact X.ld) | (apply Y.ia; exact X.ia) | (apply Y.len; exact X.len) | (apply Y.badd; exact X.badd) | (apply Y.beql; exact X.beql) | (apply Y.blss; exact X.blss) | (apply Y.bgtr; exact X.bgtr)); exact rfl) | refine X.l ?_ | refine X.w ?_ | refine X.a ?_ | (refine K.c_condD rfl (fun hc => ?_) (fun hc => ?_) <;> first | (exfalso; omega) | skip) | refine K.c_cond rfl (fun hc => ?_) (fun hc => ?_) | (refine K.s_guardD rfl rfl (fun hc => ?_) (fun hc => ?_) <;> first | (exfalso; omega) | skip) | refine K.s_guard rfl rfl (fun hc => ?_) (fun hc => ?_)))
    refine K.l_alloc (Fx.zr rfl) rfl rfl (fun B6 => ?_)
    refine X.stw ?_
    simp only [List.set_cons_zero, List.set_cons_succ, List.eraseIdx_cons_zero, List.eraseIdx_cons_succ, List.cons_append, List.nil_append]
    (repeat' (first | (apply K.s_pure; (first | (apply Y.mv; exact X.mv) | (apply Y.sg; exact X.sg) | (apply Y.pk; exact X.pk) | (apply Y.ex; exact X.ex) | (apply Y.fa; exact X.fa) | (apply Y.ld; exact X.ld) | (apply Y.ia; exact X.ia) | (apply Y.len; exact X.len) | (apply Y.badd; exact X.badd) | (apply Y.beql; exact X.beql) | (apply Y.blss; exact X.blss) | (apply Y.bgtr; exact X.bgtr)); exact rfl) | refine X.l ?_ | refine X.w ?_ | refine X.a ?_ | (refine K.c_condD rfl (fun hc => ?_) (fun hc => ?_) <;> first | (exfalso; omega) | skip) | refine K.c_cond rfl (fun hc => ?_) (fun hc => ?_) | (refine K.s_guardD rfl rfl (fun hc => ?_) (fun hc => ?_) <;> first | (exfalso; omega) | skip) | refine K.s_guard rfl rfl (fun hc => ?_) (fun hc => ?_)))
    refine K.l_call (Fx.cal rfl) rfl hundo (K.pp [] rfl) rfl ?_
    rintro u h' H' - ⟨e', a3, cap3, rfl, rfl⟩
    obtain rfl := e'.symm
    simp only [List.cons_append, List.nil_append]
    refine K.WL.freezeBuf (fun h2 le2 hbv2 => ?_)
    obtain ⟨ao3, ca3, e3⟩ : ∃ ao3 ca3, bufV a3 x.data.length cap3 = .slice ao3 x.data.length ca3 := ⟨_, _, rfl⟩
    rw [e3] at hbv2 ⊢
    have hc3 : OpC h2 (cO x (.slice ao3 x.data.length ca3)) x := ⟨hwx, _, _, rfl, hbv2⟩
    have hc1 := hc1.le le2
    have hx2 := hx1.le le2
    (repeat' (first | (apply K.s_pure; (first | (apply Y.mv; exact X.mv) | (apply Y.sg; exact X.sg) | (apply Y.pk; exact X.pk) | (apply Y.ex; exact X.ex) | (apply Y.fa; exact X.fa) | (apply Y.ld; exact X.ld) | (apply Y.ia; exact X.ia) | (apply Y.len; exact X.len) | (apply Y.badd; exact X.badd) | (apply Y.beql; exact X.beql) | (apply Y.blss; exact X.blss) | (apply Y.bgtr; exact X.bgtr)); exact rfl) | refine X.l ?_ | refine X.w ?_ | refine X.a ?_ | (refine K.c_condD rfl (fun hc => ?_) (fun hc => ?_) <;> first | (exfalso; omega) | skip) | refine K.c_cond rfl (fun hc => ?_) (fun hc => ?_) | (refine K.s_guardD rfl rfl (fun hc => ?_) (fun hc => ?_) <;> first | (exfalso; omega) | skip) | refine K.s_guard rfl rfl (fun hc => ?_) (fun hc => ?_)))
    refine K.l_alloc (Fx.zr rfl) rfl rfl (fun B8 => ?_)
    refine X.stw ?_
    simp only [List.set_cons_zero, List.set_cons_succ, List.eraseIdx_cons_zero, List.eraseIdx_cons_succ, List.cons_append, List.nil_append]
    (repeat' (first | (apply K.s_pure; (first | (apply Y.mv; exact X.mv) | (apply Y.sg; exact X.sg) | (apply Y.pk; exact X.pk) | (apply Y.ex; exact X.ex) | (apply Y.fa; exact X.fa) | (apply Y.ld; exact X.ld) | (apply Y.ia; exact X.ia) | (apply Y.len; exact X.len) | (apply Y.badd; exact X.badd) | (apply Y.beql; exact X.beql) | (apply Y.blss; exact X.blss) | (apply Y.bgtr; exact X.bgtr)); exact rfl) | refine X.l ?_ | refine X.w ?_ | refine X.a ?_ | (refine K.c_condD rfl (fun hc => ?_) (fun hc => ?_) <;> first | (exfalso; omega) | skip) | refine K.c_cond rfl (fun hc => ?_) (fun hc => ?_) | (refine K.s_guardD rfl rfl (fun hc => ?_) (fun hc => ?_) <;> first | (exfalso; omega) | skip) | refine K.s_guard rfl rfl (fun hc => ?_) (fun hc => ?_)))
    have hsame := K.TrV.borrow (h := h2) (A := [bufA 5 1 a2 x.data.length cap2 (x.data.map u8)]) (R := []) fun h' hle hs => SameO h' (cO x (bufV a2 x.data.length cap2)) _ x x ⟨hwx, _, _, rfl, K.says_bv hs⟩ (hc3.le hle)
    rw [decide_eq_true (rfl : x = x)] at hsame
    have hsame2 := SameO h2 _ _ o o hx2 hc1
    rw [decide_eq_true (rfl : o = o)] at hsame2
    refine X.draw ([blk B8 39 (cO x (.slice ao3 x.data.length ca3)), blk B6 39 (cO x (bufV a2 x.data.length cap2)), blk B5 39 (cO o (.slice ao1 o.data.length ca1)), blk B3 39 (cO o (.slice ao o.data.length ca))]) [] (.pu 0 (.pu 1 (.pu 2 (.pu 3 (.st 4 (.st 5 (.on 6 (.pu 7 (.pu 8 (.pu 9 (.pu 12 (.st 10 (.st 13 (.on 11 (.on 14 (.pu 15 (.pu 16 (.pu 17 .nil)))))))))))))))))) ?_
    refine K.d_pu rfl (fun _ _ => X.mv) rfl ?_
    refine K.d_pu rfl (fun _ _ => X.mv) rfl ?_
    refine K.d_pu rfl (fun _ _ => X.beql) rfl ?_
    rw [decide_eq_true (rfl : e = e)]
    refine K.d_pu rfl (fun _ _ => X.mv) rfl ?_
    first | refine K.d_skipS rfl rfl rfl rfl ?_ | refine K.d_skipUS rfl rfl rfl rfl rfl ?_ | refine K.d_stG rfl rfl rfl X.ld rfl ?_
    first | refine K.d_skipS rfl rfl rfl rfl ?_ | refine K.d_skipUS rfl rfl rfl rfl rfl ?_ | refine K.d_stG rfl rfl rfl X.ld rfl ?_
    refine K.d_on rfl (fun KK hKK => ?_)
    refine K.s_take rfl rfl ?_
    refine K.l_callV (Fx.cal rfl) rfl hsame (K.pp [2] rfl) rfl rfl ?_
    simp only [List.cons_append, List.nil_append]
    refine K.l_nil ?_
    refine X.onE hKK ?_
    refine K.d_pu rfl (fun _ _ => X.pk) rfl ?_
    refine K.d_pu rfl (fun _ _ => X.mv) rfl ?_
    first | refine K.d_skip rfl rfl rfl rfl ?_ | refine K.d_skipU rfl rfl rfl rfl rfl ?_ | refine K.d_puG rfl rfl rfl (fun _ _ => X.mv) rfl ?_
    first | refine K.d_skip rfl rfl rfl rfl ?_ | refine K.d_skipU rfl rfl rfl rfl rfl ?_ | refine K.d_puG rfl rfl rfl (fun _ _ => X.mv) rfl ?_
    first | refine K.d_skipS rfl rfl rfl rfl ?_ | refine K.d_skipUS rfl rfl rfl rfl rfl ?_ | refine K.d_stG rfl rfl rfl X.ld rfl ?_
    first | refine K.d_skipS rfl rfl rfl rfl ?_ | refine K.d_skipUS rfl rfl rfl rfl rfl ?_ | refine K.d_stG rfl rfl rfl X.ld rfl ?_
    refine K.d_on rfl (fun KK hKK => ?_)
    refine K.s_take rfl rfl ?_
    refine K.l_callV (Fx.cal rfl) rfl (ORight h2 k _ o hx2) (K.pp [] rfl) rfl rfl ?_
    simp only [List.nil_append]
    refine K.l_nil ?_
    refine X.onE hKK ?_
    refine K.d_on rfl (fun KK hKK => ?_)
    refine K.s_take rfl rfl ?_
    refine K.l_callV (Fx.cal rfl) rfl (RRight h2 k _ o hc1) (K.pp [] rfl) rfl rfl ?_
    simp only [List.nil_append]
    refine K.l_nil ?_
    refine X.onE hKK ?_
    first | refine K.d_skip rfl rfl rfl rfl ?_ | refine K.d_skipU rfl rfl rfl rfl rfl ?_ | refine K.d_puG rfl rfl rfl (fun _ _ => X.beql) rfl ?_
    rw [beq_self_eq_true]
    refine K.d_pu rfl (fun _ _ => X.pk) rfl ?_
    refine K.d_pu rfl (fun _ _ => X.sg) rfl ?_
    refine K.d_nil ?_
    (repeat' (first | (apply K.s_pure; (first | (apply Y.mv; exact X.mv) | (apply Y.sg; exact X.sg) | (apply Y.pk; exact X.pk) | (apply Y.ex; exact X.ex) | (apply Y.fa; exact X.fa) | (apply Y.ld; exact X.ld) | (apply Y.ia; exact X.ia) | (apply Y.len; exact X.len) | (apply Y.badd; exact X.badd) | (apply Y.beql; exact X.beql) | (apply Y.blss; exact X.blss) | (apply Y.bgtr; exact X.bgtr)); exact rfl) | refine X.l ?_ | refine X.w ?_ | refine X.a ?_ | (refine K.c_condD rfl (fun hc => ?_) (fun hc => ?_) <;> first | (exfalso; omega) | skip) | refine K.c_cond rfl (fun hc => ?_) (fun hc => ?_) | (refine K.s_guardD rfl rfl (fun hc => ?_) (fun hc => ?_) <;> first | (exfalso; omega) | skip) | refine K.s_guard rfl rfl (fun hc => ?_) (fun hc => ?_)))
    refine K.c_loop (σ := Nat × List UInt8) (fun r => [(3, .pointer (some ⟨B3, 0, none⟩)), (4, .bool false), (5, .pointer (some ⟨B5, 0, none⟩)), (6, .pointer (some ⟨B6, 0, none⟩)), (10, .bool true), (11, .int .i64 r.1)]) (fun _ => h2)
      (fun r => bufA 5 1 a2 x.data.length cap2 (r.2.map u8) :: blk B8 39 (cO x (.slice ao3 x.data.length ca3)) :: blk B6 39 (cO x (bufV a2 x.data.length cap2)) :: blk B5 39 (cO o (.slice ao1 o.data.length ca1)) :: blk B3 39 (cO o (.slice ao o.data.length ca)) :: F)
      (fun r => r.1 ≤ x.data.length ∧ r.2.length = x.data.length) (fun r => x.data.length - r.1) (0, x.data) ⟨Nat.zero_le _, rfl⟩ (by repeat (first | exact K.Sub.nil _ | refine K.Sub.cons rfl ?_)) rfl rfl ?_
    rintro ⟨j, bs⟩ ⟨hj, hbs⟩ KL hKL
    dsimp only at hj hbs ⊢
    by_cases hjl : j < x.data.length
    · refine K.oc_buf (fun _ e _ _ => by omega) ?_
      rintro bb sp fz rfl g2 g3 g4 g5 g6
      have hlx := hwx.len
      have hbj : bs[j]? = some (bs[j]'(by omega)) := List.getElem?_eq_getElem (by omega)
      generalize bs[j]'(by omega) = c at hbj
      (repeat' (first | (apply K.s_pure; (first | (apply Y.mv; exact X.mv) | (apply Y.sg; exact X.sg) | (apply Y.pk; exact X.pk) | (apply Y.ex; exact X.ex) | (apply Y.fa; exact X.fa) | (apply Y.ld; exact X.ld) | (apply Y.ia; exact X.ia) | (apply Y.len; exact X.len) | (apply Y.badd; exact X.badd) | (apply Y.beql; exact X.beql) | (apply Y.blss; exact X.blss) | (apply Y.bgtr; exact X.bgtr)); exact rfl) | refine X.l ?_ | refine X.w ?_ | refine X.a ?_ | (refine K.c_condD rfl (fun hc => ?_) (fun hc => ?_) <;> first | (exfalso; omega) | skip) | refine K.c_cond rfl (fun hc => ?_) (fun hc => ?_) | (refine K.s_guardD rfl rfl (fun hc => ?_) (fun hc => ?_) <;> first | (exfalso; omega) | skip) | refine K.s_guard rfl rfl (fun hc => ?_) (fun hc => ?_)))
      refine X.draw ([blkF bb 5 (bs.map u8 ++ sp) fz, blk B6 39 (cO x (bufV (some bb) x.data.length cap2))]) [10] (.pu 0 (.pu 2 (.pu 3 (.pu 5 (.st 1 (.st 4 (.pu 6 (.st 7 (.pu 8 (.pu 9 (.cl 10 .nil))))))))))) ?_
      refine K.d_pu rfl (fun _ _ => X.fa) rfl ?_
      refine K.d_pu rfl (fun _ _ => X.mv) rfl ?_
      refine K.d_pu rfl (fun _ _ => X.fa) rfl ?_
      refine K.d_pu rfl (fun _ _ => X.mv) rfl ?_
      refine K.d_st rfl X.ld rfl ?_
      refine K.d_st rfl X.ld rfl ?_
      refine K.d_pu rfl (fun _ _ => X.ia) rfl ?_
      refine K.d_st rfl (K.p_load (Fx.agg rfl) rfl (K.cel_own (v := u8 c) 0 rfl (by rw [List.getElem?_append_left (by simpa using (by omega : j < bs.length)), List.getElem?_map, hbj]; rfl))) rfl ?_
      simp only [u8]
      refine K.d_pu rfl (fun _ _ => X.badd) rfl ?_
      rw [inc8]
      refine K.d_pu rfl (fun _ _ => X.ia) rfl ?_
      refine K.d_cl rfl (fun KK hKK => ?_)
      refine K.l_storeB (c := c + 1) (Fx.sz rfl) rfl rfl rfl (by omega) (fun o ho => g6 o (by omega)) ?_
      refine K.l_nil ?_
      refine K.d_clE hKK ?_
      refine K.d_nil ?_
      (repeat' (first | (apply K.s_pure; (first | (apply Y.mv; exact X.mv) | (apply Y.sg; exact X.sg) | (apply Y.pk; exact X.pk) | (apply Y.ex; exact X.ex) | (apply Y.fa; exact X.fa) | (apply Y.ld; exact X.ld) | (apply Y.ia; exact X.ia) | (apply Y.len; exact X.len) | (apply Y.badd; exact X.badd) | (apply Y.beql; exact X.beql) | (apply Y.blss; exact X.blss) | (apply Y.bgtr; exact X.bgtr)); exact rfl) | refine X.l ?_ | refine X.w ?_ | refine X.a ?_ | (refine K.c_condD rfl (fun hc => ?_) (fun hc => ?_) <;> first | (exfalso; omega) | skip) | refine K.c_cond rfl (fun hc => ?_) (fun hc => ?_) | (refine K.s_guardD rfl rfl (fun hc => ?_) (fun hc => ?_) <;> first | (exfalso; omega) | skip) | refine K.s_guard rfl rfl (fun hc => ?_) (fun hc => ?_)))
      refine K.AT.shut (s := 1) (m := x.data.length) (cap := cap2) (by simp [hbs]) (by simpa using g3) g4 g5 g6 ?_
      refine K.a_round hKL (j + 1, bs.set j (c + 1)) ⟨by dsimp only; omega, by simp [hbs]⟩ (by repeat (first | exact K.Sub.nil _ | refine K.Sub.cons rfl ?_)) rfl rfl (by dsimp only; omega)
    · (repeat' (first | (apply K.s_pure; (first | (apply Y.mv; exact X.mv) | (apply Y.sg; exact X.sg) | (apply Y.pk; exact X.pk) | (apply Y.ex; exact X.ex) | (apply Y.fa; exact X.fa) | (apply Y.ld; exact X.ld) | (apply Y.ia; exact X.ia) | (apply Y.len; exact X.len) | (apply Y.badd; exact X.badd) | (apply Y.beql; exact X.beql) | (apply Y.blss; exact X.blss) | (apply Y.bgtr; exact X.bgtr)); exact rfl) | refine X.l ?_ | refine X.w ?_ | refine X.a ?_ | (refine K.c_condD rfl (fun hc => ?_) (fun hc => ?_) <;> first | (exfalso; omega) | skip) | refine K.c_cond rfl (fun hc => ?_) (fun hc => ?_) | (refine K.s_guardD rfl rfl (fun hc => ?_) (fun hc => ?_) <;> first | (exfalso; omega) | skip) | refine K.s_guard rfl rfl (fun hc => ?_) (fun hc => ?_)))
      refine K.l_callV (Fx.cal rfl) rfl hsame2 (K.pp [] rfl) rfl rfl ?_
      simp only [List.nil_append]
      (repeat' (first | (apply K.s_pure; (first | (apply Y.mv; exact X.mv) | (apply Y.sg; exact X.sg) | (apply Y.pk; exact X.pk) | (apply Y.ex; exact X.ex) | (apply Y.fa; exact X.fa) | (apply Y.ld; exact X.ld) | (apply Y.ia; exact X.ia) | (apply Y.len; exact X.len) | (apply Y.badd; exact X.badd) | (apply Y.beql; exact X.beql) | (apply Y.blss; exact X.blss) | (apply Y.bgtr; exact X.bgtr)); exact rfl) | refine X.l ?_ | refine X.w ?_ | refine X.a ?_ | (refine K.c_condD rfl (fun hc => ?_) (fun hc => ?_) <;> first | (exfalso; omega) | skip) | refine K.c_cond rfl (fun hc => ?_) (fun hc => ?_) | (refine K.s_guardD rfl rfl (fun hc => ?_) (fun hc => ?_) <;> first | (exfalso; omega) | skip) | refine K.s_guard rfl rfl (fun hc => ?_) (fun hc => ?_)))
      refine K.l_callV (Fx.cal rfl) rfl (Alive h2) (K.pp [] rfl) rfl rfl ?_
      simp only [List.nil_append]
      (repeat' (first | (apply K.s_pure; (first | (apply Y.mv; exact X.mv) | (apply Y.sg; exact X.sg) | (apply Y.pk; exact X.pk) | (apply Y.ex; exact X.ex) | (apply Y.fa; exact X.fa) | (apply Y.ld; exact X.ld) | (apply Y.ia; exact X.ia) | (apply Y.len; exact X.len) | (apply Y.badd; exact X.badd) | (apply Y.beql; exact X.beql) | (apply Y.blss; exact X.blss) | (apply Y.bgtr; exact X.bgtr)); exact rfl) | refine X.l ?_ | refine X.w ?_ | refine X.a ?_ | (refine K.c_condD rfl (fun hc => ?_) (fun hc => ?_) <;> first | (exfalso; omega) | skip) | refine K.c_cond rfl (fun hc => ?_) (fun hc => ?_) | (refine K.s_guardD rfl rfl (fun hc => ?_) (fun hc => ?_) <;> first | (exfalso; omega) | skip) | refine K.s_guard rfl rfl (fun hc => ?_) (fun hc => ?_)))
      refine K.AT.sel [0, 0, 0, 0, 0] rfl ?_
      refine K.done (by first | exact Or.inl rfl | exact Or.inr rfl) rfl (le1.trans le2) (H' := []) rfl ⟨rfl, rfl⟩
end Go.Proofs.Ytjgfgpdkcojnmaa.Pg
