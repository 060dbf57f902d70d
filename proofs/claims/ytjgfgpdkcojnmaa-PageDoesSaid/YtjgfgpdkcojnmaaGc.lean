/-
  Whatever operations are done to a page: the statement, walked. Conditions: each theorem's own.
-/
import Derived.Test.YtjgfgpdkcojnmaaGb

namespace Go.Proofs.Ytjgfgpdkcojnmaa.Pg
open Go Go.K Go.Proofs Go.Proofs.Ytjgfgpdkcojnmaa
set_option linter.unusedVariables false
set_option linter.unusedSimpArgs false
set_option maxRecDepth 10000

/-- A slice of operations. -/
def OpsC (h : Base) (v : Value) (es : List (List Value)) (l : List POp) : Prop := SL h 4 v es ∧ es.length = l.length ∧ l.length ≤ 9223372036854775807 ∧ ∀ (j : Nat) c o, es[j]? = some c → l[j]? = some o → OpC h c o ∧ o.data.length ≤ 140737488351232
theorem do_small2 {p : Pag} {o : POp} (hs : small p.cells) : small (if (doQ p o).2 = 0 then (doQ p o).1 else p).cells := by
  split
  · rename_i h
    exact do_small (do_may (o := o) (p := p) (Prod.ext rfl h))
  · exact hs
theorem do_small3 {p : Pag} {o : POp} (hs : small p.cells) : small (doQ p o).1.cells := by
  by_cases h : (doQ p o).2 = 0
  · exact do_small (do_may (o := o) (p := p) (Prod.ext rfl h))
  · rw [do_err h]; exact ⟨Nat.zero_le _, fun x hx => by cases hx⟩
set_option maxHeartbeats 8000000 in
theorem PageDoes (h : Base) (cs : List Value) (p : Pag) (lv : Value) (es : List (List Value)) (l : List POp) (hx : PagC h cs p) (hl : OpsC h lv es l) :
    Tr Try.prog 5 [.agg cs.toArray, lv] h [] (fun u h' H' => u = .bool true ∧ H' = []) := by
  have hx0 := hx
  obtain ⟨hw, cv, rfl, es0, hv, hel, hr⟩ := hx
  obtain ⟨ao, ca, rfl⟩ := hv.len
  obtain ⟨hsl, hesl, hl64, hops⟩ := hl
  obtain ⟨ao1, ca1, rfl⟩ := hsl.len
  rw [hel] at hx0 ⊢
  rw [hesl] at hsl ⊢
  clear hv hr hel
  refine K.enter Try.func5 rfl (Nat.le_of_ble_eq_true rfl) (fun F => ?_)
  simp only [List.nil_append]
  (repeat' (first | (apply K.s_pure; (first | (apply Y.mv; exact X.mv) | (apply Y.sg; exact X.sg) | (apply Y.pk; exact X.pk) | (apply Y.ex; exact X.ex) | (apply Y.fa; exact X.fa) | (apply Y.ld; exact X.ld) | (apply Y.ia; exact X.ia) | (apply Y.len; exact X.len) | (apply Y.nt; exact X.nt) | (apply Y.badd; exact X.badd) | (apply Y.beql; exact X.beql) | (apply Y.bneq; exact X.bneq) | (apply Y.blss; exact X.blss) | (apply Y.bgtr; exact X.bgtr)); exact rfl) | refine X.l ?_ | refine X.w ?_ | refine X.a ?_ | (refine K.c_condD rfl (fun hc => ?_) (fun hc => ?_) <;> first | (exfalso; omega) | skip) | refine K.c_cond rfl (fun hc => ?_) (fun hc => ?_) | (refine K.s_guardD rfl rfl (fun hc => ?_) (fun hc => ?_) <;> first | (exfalso; omega) | skip) | refine K.s_guard rfl rfl (fun hc => ?_) (fun hc => ?_)))
  refine K.l_box rfl rfl rfl (fun B2 => ?_)
  (repeat' (first | (apply K.s_pure; (first | (apply Y.mv; exact X.mv) | (apply Y.sg; exact X.sg) | (apply Y.pk; exact X.pk) | (apply Y.ex; exact X.ex) | (apply Y.fa; exact X.fa) | (apply Y.ld; exact X.ld) | (apply Y.ia; exact X.ia) | (apply Y.len; exact X.len) | (apply Y.nt; exact X.nt) | (apply Y.badd; exact X.badd) | (apply Y.beql; exact X.beql) | (apply Y.bneq; exact X.bneq) | (apply Y.blss; exact X.blss) | (apply Y.bgtr; exact X.bgtr)); exact rfl) | refine X.l ?_ | refine X.w ?_ | refine X.a ?_ | (refine K.c_condD rfl (fun hc => ?_) (fun hc => ?_) <;> first | (exfalso; omega) | skip) | refine K.c_cond rfl (fun hc => ?_) (fun hc => ?_) | (refine K.s_guardD rfl rfl (fun hc => ?_) (fun hc => ?_) <;> first | (exfalso; omega) | skip) | refine K.s_guard rfl rfl (fun hc => ?_) (fun hc => ?_)))
  refine K.l_callV (Fx.cal rfl) rfl (Long h _ p hx0) (K.pp [] rfl) rfl rfl ?_
  simp only [List.nil_append]
  by_cases hlo : longQ p.cells = true ∨ 300 < l.length
  · cases hlq : longQ p.cells with
    | true =>
      (repeat' (first | (apply K.s_pure; (first | (apply Y.mv; exact X.mv) | (apply Y.sg; exact X.sg) | (apply Y.pk; exact X.pk) | (apply Y.ex; exact X.ex) | (apply Y.fa; exact X.fa) | (apply Y.ld; exact X.ld) | (apply Y.ia; exact X.ia) | (apply Y.len; exact X.len) | (apply Y.nt; exact X.nt) | (apply Y.badd; exact X.badd) | (apply Y.beql; exact X.beql) | (apply Y.bneq; exact X.bneq) | (apply Y.blss; exact X.blss) | (apply Y.bgtr; exact X.bgtr)); exact rfl) | refine X.l ?_ | refine X.w ?_ | refine X.a ?_ | (refine K.c_condD rfl (fun hc => ?_) (fun hc => ?_) <;> first | (exfalso; omega) | skip) | refine K.c_cond rfl (fun hc => ?_) (fun hc => ?_) | (refine K.s_guardD rfl rfl (fun hc => ?_) (fun hc => ?_) <;> first | (exfalso; omega) | skip) | refine K.s_guard rfl rfl (fun hc => ?_) (fun hc => ?_)))
      refine K.l_callV (Fx.cal rfl) rfl (Alive h) (K.pp [] rfl) rfl rfl ?_
      simp only [List.nil_append]
      (repeat' (first | (apply K.s_pure; (first | (apply Y.mv; exact X.mv) | (apply Y.sg; exact X.sg) | (apply Y.pk; exact X.pk) | (apply Y.ex; exact X.ex) | (apply Y.fa; exact X.fa) | (apply Y.ld; exact X.ld) | (apply Y.ia; exact X.ia) | (apply Y.len; exact X.len) | (apply Y.nt; exact X.nt) | (apply Y.badd; exact X.badd) | (apply Y.beql; exact X.beql) | (apply Y.bneq; exact X.bneq) | (apply Y.blss; exact X.blss) | (apply Y.bgtr; exact X.bgtr)); exact rfl) | refine X.l ?_ | refine X.w ?_ | refine X.a ?_ | (refine K.c_condD rfl (fun hc => ?_) (fun hc => ?_) <;> first | (exfalso; omega) | skip) | refine K.c_cond rfl (fun hc => ?_) (fun hc => ?_) | (refine K.s_guardD rfl rfl (fun hc => ?_) (fun hc => ?_) <;> first | (exfalso; omega) | skip) | refine K.s_guard rfl rfl (fun hc => ?_) (fun hc => ?_)))
      refine K.AT.drop ?_
      refine K.done (by first | exact Or.inl rfl | exact Or.inr rfl) rfl (by first | exact K.Base.le.refl _ | assumption) (H' := []) rfl ⟨rfl, rfl⟩
    | false =>
      have : 300 < l.length := by
        rcases hlo with e | e
        · rw [hlq] at e; cases e
        · exact e
      (repeat' (first | (apply K.s_pure; (first | (apply Y.mv; exact X.mv) | (apply Y.sg; exact X.sg) | (apply Y.pk; exact X.pk) | (apply Y.ex; exact X.ex) | (apply Y.fa; exact X.fa) | (apply Y.ld; exact X.ld) | (apply Y.ia; exact X.ia) | (apply Y.len; exact X.len) | (apply Y.nt; exact X.nt) | (apply Y.badd; exact X.badd) | (apply Y.beql; exact X.beql) | (apply Y.bneq; exact X.bneq) | (apply Y.blss; exact X.blss) | (apply Y.bgtr; exact X.bgtr)); exact rfl) | refine X.l ?_ | refine X.w ?_ | refine X.a ?_ | (refine K.c_condD rfl (fun hc => ?_) (fun hc => ?_) <;> first | (exfalso; omega) | skip) | refine K.c_cond rfl (fun hc => ?_) (fun hc => ?_) | (refine K.s_guardD rfl rfl (fun hc => ?_) (fun hc => ?_) <;> first | (exfalso; omega) | skip) | refine K.s_guard rfl rfl (fun hc => ?_) (fun hc => ?_)))
      refine K.l_callV (Fx.cal rfl) rfl (Alive h) (K.pp [] rfl) rfl rfl ?_
      simp only [List.nil_append]
      (repeat' (first | (apply K.s_pure; (first | (apply Y.mv; exact X.mv) | (apply Y.sg; exact X.sg) | (apply Y.pk; exact X.pk) | (apply Y.ex; exact X.ex) | (apply Y.fa; exact X.fa) | (apply Y.ld; exact X.ld) | (apply Y.ia; exact X.ia) | (apply Y.len; exact X.len) | (apply Y.nt; exact X.nt) | (apply Y.badd; exact X.badd) | (apply Y.beql; exact X.beql) | (apply Y.bneq; exact X.bneq) | (apply Y.blss; exact X.blss) | (apply Y.bgtr; exact X.bgtr)); exact rfl) | refine X.l ?_ | refine X.w ?_ | refine X.a ?_ | (refine K.c_condD rfl (fun hc => ?_) (fun hc => ?_) <;> first | (exfalso; omega) | skip) | refine K.c_cond rfl (fun hc => ?_) (fun hc => ?_) | (refine K.s_guardD rfl rfl (fun hc => ?_) (fun hc => ?_) <;> first | (exfalso; omega) | skip) | refine K.s_guard rfl rfl (fun hc => ?_) (fun hc => ?_)))
      refine K.AT.drop ?_
      refine K.done (by first | exact Or.inl rfl | exact Or.inr rfl) rfl (by first | exact K.Base.le.refl _ | assumption) (H' := []) rfl ⟨rfl, rfl⟩
  · have hl300 : l.length ≤ 300 := by omega
    have hlq : longQ p.cells = false := by
      cases e : longQ p.cells with
      | false => rfl
      | true => exact absurd (.inl e) hlo
    rw [hlq]
    have hsm := small_long hlq
    clear hlo hlq
    (repeat' (first | (apply K.s_pure; (first | (apply Y.mv; exact X.mv) | (apply Y.sg; exact X.sg) | (apply Y.pk; exact X.pk) | (apply Y.ex; exact X.ex) | (apply Y.fa; exact X.fa) | (apply Y.ld; exact X.ld) | (apply Y.ia; exact X.ia) | (apply Y.len; exact X.len) | (apply Y.nt; exact X.nt) | (apply Y.badd; exact X.badd) | (apply Y.beql; exact X.beql) | (apply Y.bneq; exact X.bneq) | (apply Y.blss; exact X.blss) | (apply Y.bgtr; exact X.bgtr)); exact rfl) | refine X.l ?_ | refine X.w ?_ | refine X.a ?_ | (refine K.c_condD rfl (fun hc => ?_) (fun hc => ?_) <;> first | (exfalso; omega) | skip) | refine K.c_cond rfl (fun hc => ?_) (fun hc => ?_) | (refine K.s_guardD rfl rfl (fun hc => ?_) (fun hc => ?_) <;> first | (exfalso; omega) | skip) | refine K.s_guard rfl rfl (fun hc => ?_) (fun hc => ?_)))
    refine K.c_loop (σ := Nat × Pag × Base × Option Addr × Nat) (fun q => [(1, .slice ao1 l.length ca1), (2, .pointer (some ⟨B2, 0, none⟩)), (4, .bool false), (5, .int .i64 q.1)]) (fun q => q.2.2.1)
      (fun q => blk B2 26 (cP q.2.1 (.slice q.2.2.2.1 q.2.1.cells.length q.2.2.2.2)) :: F) (fun q => q.1 ≤ l.length ∧ h.le q.2.2.1 ∧ PagC q.2.2.1 (cP q.2.1 (.slice q.2.2.2.1 q.2.1.cells.length q.2.2.2.2)) q.2.1 ∧ small q.2.1.cells) (fun q => l.length - q.1)
      (0, p, h, ao, ca) ⟨Nat.zero_le _, K.Base.le.refl _, hx0, hsm⟩ (by repeat (first | exact K.Sub.nil _ | refine K.Sub.cons rfl ?_)) rfl rfl ?_
    clear hx0 hsm hw p ao ca
    rintro ⟨j, p, h1, ao, ca⟩ ⟨hj, hle1, hx1, hsm⟩ KL hKL
    dsimp only at hj hle1 hx1 hsm ⊢
    have hw := hx1.1
    by_cases hjl : j < l.length
    · have hc1 : es[j]? = some (es[j]'(by omega)) := List.getElem?_eq_getElem (by omega)
      have hc0 : es[((j : Nat) : Int).toNat]? = some (es[j]'(by omega)) := by rw [Int.toNat_natCast]; exact hc1
      have he1 : l[j]? = some l[j] := List.getElem?_eq_getElem hjl
      generalize es[j]'(by omega) = c at hc0 hc1
      generalize l[j] = o at he1
      obtain ⟨ho0, hod⟩ := hops j c o hc1 he1
      obtain ⟨hwo, ao4, ca4, rfl, hbo⟩ := ho0
      have ho0 : OpC h (cO o (.slice ao4 o.data.length ca4)) o := ⟨hwo, ao4, ca4, rfl, hbo⟩
      (repeat' (first | (apply K.s_pure; (first | (apply Y.mv; exact X.mv) | (apply Y.sg; exact X.sg) | (apply Y.pk; exact X.pk) | (apply Y.ex; exact X.ex) | (apply Y.fa; exact X.fa) | (apply Y.ld; exact X.ld) | (apply Y.ia; exact X.ia) | (apply Y.len; exact X.len) | (apply Y.nt; exact X.nt) | (apply Y.badd; exact X.badd) | (apply Y.beql; exact X.beql) | (apply Y.bneq; exact X.bneq) | (apply Y.blss; exact X.blss) | (apply Y.bgtr; exact X.bgtr)); exact rfl) | refine X.l ?_ | refine X.w ?_ | refine X.a ?_ | (refine K.c_condD rfl (fun hc => ?_) (fun hc => ?_) <;> first | (exfalso; omega) | skip) | refine K.c_cond rfl (fun hc => ?_) (fun hc => ?_) | (refine K.s_guardD rfl rfl (fun hc => ?_) (fun hc => ?_) <;> first | (exfalso; omega) | skip) | refine K.s_guard rfl rfl (fun hc => ?_) (fun hc => ?_)))
      refine K.l_call (Fx.cal rfl) rfl (CopyPage h1 _ p hx1 hsm) (K.pp [] rfl) rfl ?_
      rintro u h2 H' le2 ⟨a2, cap2, es2, rfl, hrow, rfl⟩
      simp only [List.cons_append, List.nil_append]
      rw [← hrow.1]
      refine K.WL.freezeRow (fun e he => hrow.2.1 e he) (fun h3 le3 hsl3 hcap3 => ?_)
      have hp3 := page_of_row hw hsl3 (hrow.le le3)
      obtain ⟨ao2, ca2, e2⟩ : ∃ ao2 ca2, bufV a2 es2.length cap2 = .slice ao2 es2.length ca2 := ⟨_, _, rfl⟩
      rw [e2] at hp3 ⊢
      rw [hrow.1] at hp3 ⊢
      have hx3 := (hx1.le le2).le le3
      have hle3 := (hle1.trans le2).trans le3
      have hsl1 := hsl.le hle3
      have ho3 := ho0.le hle3
      clear hrow hsl3 hcap3 e2 hx1
      (repeat' (first | (apply K.s_pure; (first | (apply Y.mv; exact X.mv) | (apply Y.sg; exact X.sg) | (apply Y.pk; exact X.pk) | (apply Y.ex; exact X.ex) | (apply Y.fa; exact X.fa) | (apply Y.ld; exact X.ld) | (apply Y.ia; exact X.ia) | (apply Y.len; exact X.len) | (apply Y.nt; exact X.nt) | (apply Y.badd; exact X.badd) | (apply Y.beql; exact X.beql) | (apply Y.bneq; exact X.bneq) | (apply Y.blss; exact X.blss) | (apply Y.bgtr; exact X.bgtr)); exact rfl) | refine X.l ?_ | refine X.w ?_ | refine X.a ?_ | (refine K.c_condD rfl (fun hc => ?_) (fun hc => ?_) <;> first | (exfalso; omega) | skip) | refine K.c_cond rfl (fun hc => ?_) (fun hc => ?_) | (refine K.s_guardD rfl rfl (fun hc => ?_) (fun hc => ?_) <;> first | (exfalso; omega) | skip) | refine K.s_guard rfl rfl (fun hc => ?_) (fun hc => ?_)))
      refine K.l_alloc (Fx.zr rfl) rfl rfl (fun B6 => ?_)
      refine X.stw ?_
      simp only [List.set_cons_zero, List.set_cons_succ, List.eraseIdx_cons_zero, List.eraseIdx_cons_succ, List.cons_append, List.nil_append]
      (repeat' (first | (apply K.s_pure; (first | (apply Y.mv; exact X.mv) | (apply Y.sg; exact X.sg) | (apply Y.pk; exact X.pk) | (apply Y.ex; exact X.ex) | (apply Y.fa; exact X.fa) | (apply Y.ld; exact X.ld) | (apply Y.ia; exact X.ia) | (apply Y.len; exact X.len) | (apply Y.nt; exact X.nt) | (apply Y.badd; exact X.badd) | (apply Y.beql; exact X.beql) | (apply Y.bneq; exact X.bneq) | (apply Y.blss; exact X.blss) | (apply Y.bgtr; exact X.bgtr)); exact rfl) | refine X.l ?_ | refine X.w ?_ | refine X.a ?_ | (refine K.c_condD rfl (fun hc => ?_) (fun hc => ?_) <;> first | (exfalso; omega) | skip) | refine K.c_cond rfl (fun hc => ?_) (fun hc => ?_) | (refine K.s_guardD rfl rfl (fun hc => ?_) (fun hc => ?_) <;> first | (exfalso; omega) | skip) | refine K.s_guard rfl rfl (fun hc => ?_) (fun hc => ?_)))
      refine K.s_pureE (K.p_indexL hsl1 (Fx.und rfl) (Fx.sz rfl) rfl rfl (by omega) hc0) rfl ?_
      rintro v2 ⟨b, o1, rfl, hcel⟩
      refine K.s_pure (K.p_loadM (Fx.agg rfl) rfl (Cels.up hcel) (Fx.sz rfl) rfl) rfl ?_
      refine K.l_call (Fx.cal rfl) rfl (CopyOp h3 _ o ho3 (by omega)) (K.pp [] rfl) rfl ?_
      rintro u h' H' - ⟨e, a7, cap7, rfl, rfl⟩
      obtain rfl := e.symm
      simp only [List.cons_append, List.nil_append]
      refine K.l_alloc (Fx.zr rfl) rfl rfl (fun B7 => ?_)
      refine X.stw ?_
      simp only [List.set_cons_zero, List.set_cons_succ, List.eraseIdx_cons_zero, List.eraseIdx_cons_succ, List.cons_append, List.nil_append]
      (repeat' (first | (apply K.s_pure; (first | (apply Y.mv; exact X.mv) | (apply Y.sg; exact X.sg) | (apply Y.pk; exact X.pk) | (apply Y.ex; exact X.ex) | (apply Y.fa; exact X.fa) | (apply Y.ld; exact X.ld) | (apply Y.ia; exact X.ia) | (apply Y.len; exact X.len) | (apply Y.nt; exact X.nt) | (apply Y.badd; exact X.badd) | (apply Y.beql; exact X.beql) | (apply Y.bneq; exact X.bneq) | (apply Y.blss; exact X.blss) | (apply Y.bgtr; exact X.bgtr)); exact rfl) | refine X.l ?_ | refine X.w ?_ | refine X.a ?_ | (refine K.c_condD rfl (fun hc => ?_) (fun hc => ?_) <;> first | (exfalso; omega) | skip) | refine K.c_cond rfl (fun hc => ?_) (fun hc => ?_) | (refine K.s_guardD rfl rfl (fun hc => ?_) (fun hc => ?_) <;> first | (exfalso; omega) | skip) | refine K.s_guard rfl rfl (fun hc => ?_) (fun hc => ?_)))
      have hdo := K.Tr.borrow (h := h3) (A := [bufA 5 1 a7 o.data.length cap7 (o.data.map u8)]) (R := []) (f := 26) (args := [.agg (cP p (.slice ao p.cells.length ca)).toArray, .agg (cO o (bufV a7 o.data.length cap7)).toArray]) fun h' hle hs => Do h' _ (cO o (bufV a7 o.data.length cap7)) p o (hx3.le hle) ⟨hwo, _, _, rfl, K.says_bv hs⟩
      refine K.l_call (Fx.cal rfl) rfl hdo (K.pp [1] rfl) rfl ?_
      rintro u h' H' - ⟨e, H2, rfl, b8, cap8, l8, hl8, hk8, rfl, rfl⟩
      obtain rfl := e.symm
      simp only [pgA, List.cons_append, List.nil_append]
      have hq8 : (doQ p o).1.cells.length = l8.length := by rw [hl8, List.length_map]
      have hwq := do_wf (o := o) hw
      have hrd := fun h' (hle : h3.le h') => RDo h' _ _ p o (hp3.le hle) (ho3.le hle)
      have hsm2 := do_small2 (o := o) hsm
      have hsm3 := do_small3 (o := o) hsm
      generalize doQ p o = r at hl8 hq8 hwq hrd hsm2 hsm3 ⊢
      obtain ⟨q, e⟩ := r
      dsimp only at hl8 hq8 hwq hrd hsm2 hsm3 ⊢
      (repeat' (first | (apply K.s_pure; (first | (apply Y.mv; exact X.mv) | (apply Y.sg; exact X.sg) | (apply Y.pk; exact X.pk) | (apply Y.ex; exact X.ex) | (apply Y.fa; exact X.fa) | (apply Y.ld; exact X.ld) | (apply Y.ia; exact X.ia) | (apply Y.len; exact X.len) | (apply Y.nt; exact X.nt) | (apply Y.badd; exact X.badd) | (apply Y.beql; exact X.beql) | (apply Y.bneq; exact X.bneq) | (apply Y.blss; exact X.blss) | (apply Y.bgtr; exact X.bgtr)); exact rfl) | refine X.l ?_ | refine X.w ?_ | refine X.a ?_ | (refine K.c_condD rfl (fun hc => ?_) (fun hc => ?_) <;> first | (exfalso; omega) | skip) | refine K.c_cond rfl (fun hc => ?_) (fun hc => ?_) | (refine K.s_guardD rfl rfl (fun hc => ?_) (fun hc => ?_) <;> first | (exfalso; omega) | skip) | refine K.s_guard rfl rfl (fun hc => ?_) (fun hc => ?_)))
      refine K.l_alloc (Fx.zr rfl) rfl rfl (fun B8 => ?_)
      refine X.stw ?_
      simp only [List.set_cons_zero, List.set_cons_succ, List.eraseIdx_cons_zero, List.eraseIdx_cons_succ, List.cons_append, List.nil_append]
      (repeat' (first | (apply K.s_pure; (first | (apply Y.mv; exact X.mv) | (apply Y.sg; exact X.sg) | (apply Y.pk; exact X.pk) | (apply Y.ex; exact X.ex) | (apply Y.fa; exact X.fa) | (apply Y.ld; exact X.ld) | (apply Y.ia; exact X.ia) | (apply Y.len; exact X.len) | (apply Y.nt; exact X.nt) | (apply Y.badd; exact X.badd) | (apply Y.beql; exact X.beql) | (apply Y.bneq; exact X.bneq) | (apply Y.blss; exact X.blss) | (apply Y.bgtr; exact X.bgtr)); exact rfl) | refine X.l ?_ | refine X.w ?_ | refine X.a ?_ | (refine K.c_condD rfl (fun hc => ?_) (fun hc => ?_) <;> first | (exfalso; omega) | skip) | refine K.c_cond rfl (fun hc => ?_) (fun hc => ?_) | (refine K.s_guardD rfl rfl (fun hc => ?_) (fun hc => ?_) <;> first | (exfalso; omega) | skip) | refine K.s_guard rfl rfl (fun hc => ?_) (fun hc => ?_)))
      refine X.drawJ ([blk B6 26 (cP p (.slice ao2 p.cells.length ca2))]) [] (.pu 1 (.pu 2 (.st 0 (.st 3 (.st 4 (.alt 5 (.pu 6 (.pu 7 (.pu 8 (.on 9 (.on 10 (.pu 11 .nil)))))) (.on 9 (.on 5 (.pu 6 (.pu 7 (.pu 8 (.on 10 (.pu 11 .nil))))))))))))) (fun r : { r : Nat × Base × Option Addr × Nat // h3.le r.2.1 ∧ PagC r.2.1 (cP q (.slice r.2.2.1 q.cells.length r.2.2.2)) q } => [(1, .slice ao1 l.length ca1), (2, .pointer (some ⟨B2, 0, none⟩)), (4, .bool false), (5, .int .i64 j), (6, .pointer (some ⟨B6, 0, none⟩)), (7, .pointer (some ⟨B7, 0, none⟩)), (8, .pointer (some ⟨B8, 0, none⟩)), (9, .int .i64 e), (10, .pointer (some ⟨r.1.1, 0, none⟩)), (11, .int .i64 e)]) (fun r => r.1.2.1) (fun r => blk r.1.1 26 (cP q (.slice r.1.2.2.1 q.cells.length r.1.2.2.2)) :: blk B8 26 (cP q (bufV b8 l8.length cap8)) :: bufA 5 1 a7 o.data.length cap7 (o.data.map u8) :: bufA 47 3 b8 l8.length cap8 (l8.map rowO).flatten :: all (l8.map datA) :: blk B7 39 (cO o (bufV a7 o.data.length cap7)) :: blk B6 26 (cP p (.slice ao2 p.cells.length ca2)) :: blk B2 26 (cP p (.slice ao p.cells.length ca)) :: F) ?_ ?_
      · refine K.d_pu rfl (fun _ _ => X.mv) rfl ?_
        refine K.d_pu rfl (fun _ _ => X.mv) rfl ?_
        refine K.d_st rfl X.ld rfl ?_
        refine K.d_stE rfl (K.p_indexL hsl1 (Fx.und rfl) (Fx.sz rfl) rfl rfl (by omega) hc0) rfl ?_
        rintro v3 ⟨b3, o3, rfl, hcel3⟩
        refine K.d_st rfl (K.p_loadM (Fx.agg rfl) rfl (Cels.up hcel3) (Fx.sz rfl) rfl) rfl ?_
        refine K.d_alt ?_ ?_
        · refine K.d_on rfl (fun KK hKK => ?_)
          refine K.l_call (Fx.cal rfl) rfl (hrd h3 (K.Base.le.refl _)) (K.pp [] rfl) rfl ?_
          rintro u h4 H' - ⟨le4, a9, cap9, es9, rfl, hrow9, rfl⟩
          simp only [List.cons_append, List.nil_append]
          rw [← hrow9.1]
          refine K.WL.freezeRow (fun e he => hrow9.2.1 e he) (fun h5 le5 hsl5 hcap5 => ?_)
          have hq5 := page_of_row hwq hsl5 (hrow9.le le5)
          obtain ⟨ao5, ca5, e5⟩ : ∃ ao5 ca5, bufV a9 es9.length cap9 = .slice ao5 es9.length ca5 := ⟨_, _, rfl⟩
          rw [e5] at hq5 ⊢
          rw [hrow9.1] at hq5 ⊢
          have hle35 := le4.trans le5
          refine K.l_nil ?_
          refine X.onE hKK ?_
          refine K.d_pu rfl (fun _ _ => X.mv) rfl ?_
          refine K.d_pu rfl (fun _ _ => X.ex) rfl ?_
          refine K.d_pu rfl (fun _ _ => X.ex) rfl ?_
          refine K.d_on rfl (fun KK hKK => ?_)
          refine K.l_alloc (Fx.zr rfl) rfl rfl (fun B10 => ?_)
          refine K.l_nil ?_
          refine X.onE hKK ?_
          refine K.d_on rfl (fun KK hKK => ?_)
          refine X.stw ?_
          simp only [List.set_cons_zero, List.set_cons_succ, List.eraseIdx_cons_zero, List.eraseIdx_cons_succ, List.cons_append, List.nil_append]
          refine K.l_nil ?_
          refine X.onE hKK ?_
          refine K.d_pu rfl (fun _ _ => X.sg) rfl ?_
          refine K.d_nil ?_
          exact K.joined ⟨(B10, h5, ao5, ca5), hle35, hq5⟩ (by repeat (first | exact K.Sub.nil _ | refine K.Sub.cons rfl ?_)) rfl rfl
        refine K.d_on rfl (fun KK hKK => ?_)
        refine K.l_alloc (Fx.zr rfl) rfl rfl (fun B10 => ?_)
        refine K.l_nil ?_
        refine X.onE hKK ?_
        refine K.d_on rfl (fun KK hKK => ?_)
        refine K.l_call (Fx.cal rfl) rfl (hrd h3 (K.Base.le.refl _)) (K.pp [] rfl) rfl ?_
        rintro u h4 H' - ⟨le4, a9, cap9, es9, rfl, hrow9, rfl⟩
        simp only [List.cons_append, List.nil_append]
        rw [← hrow9.1]
        refine K.WL.freezeRow (fun e he => hrow9.2.1 e he) (fun h5 le5 hsl5 hcap5 => ?_)
        have hq5 := page_of_row hwq hsl5 (hrow9.le le5)
        obtain ⟨ao5, ca5, e5⟩ : ∃ ao5 ca5, bufV a9 es9.length cap9 = .slice ao5 es9.length ca5 := ⟨_, _, rfl⟩
        rw [e5] at hq5 ⊢
        rw [hrow9.1] at hq5 ⊢
        have hle35 := le4.trans le5
        refine K.l_nil ?_
        refine X.onE hKK ?_
        refine K.d_pu rfl (fun _ _ => X.mv) rfl ?_
        refine K.d_pu rfl (fun _ _ => X.ex) rfl ?_
        refine K.d_pu rfl (fun _ _ => X.ex) rfl ?_
        refine K.d_on rfl (fun KK hKK => ?_)
        refine X.stw ?_
        simp only [List.set_cons_zero, List.set_cons_succ, List.eraseIdx_cons_zero, List.eraseIdx_cons_succ, List.cons_append, List.nil_append]
        refine K.l_nil ?_
        refine X.onE hKK ?_
        refine K.d_pu rfl (fun _ _ => X.sg) rfl ?_
        refine K.d_nil ?_
        exact K.joined ⟨(B10, h5, ao5, ca5), hle35, hq5⟩ (by repeat (first | exact K.Sub.nil _ | refine K.Sub.cons rfl ?_)) rfl rfl
      refine fun r => ?_
      obtain ⟨⟨B10, h5, ao5, ca5⟩, hle35, hq5⟩ := r
      dsimp only at hle35 hq5 ⊢
      have hx5 := hx3.le hle35
      have hp5 := hp3.le hle35
      have hsl5' := hsl1.le hle35
      have ho5 := ho3.le hle35
      have hsame := K.TrV.borrow (h := h5) (A := pgA b8 cap8 l8) (R := []) fun h' hle hs => SameP h' (cP q (bufV b8 l8.length cap8)) _ q q (by have := says_page hs hk8 hwq hl8; rw [hq8] at this; exact this) (hq5.le hle)
      rw [decide_eq_true (rfl : q = q)] at hsame
      have hsameO := K.TrV.borrow (h := h5) (A := [bufA 5 1 a7 o.data.length cap7 (o.data.map u8)]) (R := []) fun h' hle hs => SameO h' (cO o (bufV a7 o.data.length cap7)) _ o o ⟨hwo, _, _, rfl, K.says_bv hs⟩ (ho5.le hle)
      rw [decide_eq_true (rfl : o = o)] at hsameO
      have hcd : ∀ c ∈ l8, c.data.length ≤ 9223372036854775806 := fun c hc => by
        have := hsm3.2 c.cell (by rw [hl8]; exact List.mem_map_of_mem hc)
        have e : c.cell.data = c.data := rfl
        rw [e] at this
        omega
      have hl8l : l8.length ≤ 1000 := by rw [← hq8]; have := hsm3.1; omega
      (repeat' (first | (apply K.s_pure; (first | (apply Y.mv; exact X.mv) | (apply Y.sg; exact X.sg) | (apply Y.pk; exact X.pk) | (apply Y.ex; exact X.ex) | (apply Y.fa; exact X.fa) | (apply Y.ld; exact X.ld) | (apply Y.ia; exact X.ia) | (apply Y.len; exact X.len) | (apply Y.nt; exact X.nt) | (apply Y.badd; exact X.badd) | (apply Y.beql; exact X.beql) | (apply Y.bneq; exact X.bneq) | (apply Y.blss; exact X.blss) | (apply Y.bgtr; exact X.bgtr)); exact rfl) | refine X.l ?_ | refine X.w ?_ | refine X.a ?_ | (refine K.c_condD rfl (fun hc => ?_) (fun hc => ?_) <;> first | (exfalso; omega) | skip) | refine K.c_cond rfl (fun hc => ?_) (fun hc => ?_) | (refine K.s_guardD rfl rfl (fun hc => ?_) (fun hc => ?_) <;> first | (exfalso; omega) | skip) | refine K.s_guard rfl rfl (fun hc => ?_) (fun hc => ?_)))
      refine X.draw ([blk B10 26 (cP q (.slice ao5 q.cells.length ca5)), blk B8 26 (cP q (bufV b8 l8.length cap8)), blk B7 39 (cO o (bufV a7 o.data.length cap7))]) [] (.pu 0 (.pu 1 (.pu 2 (.pu 3 (.st 4 (.st 5 (.on 6 (.pu 7 (.pu 8 (.pu 9 (.pu 11 (.pu 12 (.st 10 (.st 13 (.st 14 (.on 15 (.pu 16 (.pu 17 .nil)))))))))))))))))) ?_
      refine K.d_pu rfl (fun _ _ => X.mv) rfl ?_
      refine K.d_pu rfl (fun _ _ => X.mv) rfl ?_
      refine K.d_pu rfl (fun _ _ => X.bneq) rfl ?_
      rw [decide_eq_false (fun e' => e' rfl : ¬ (e ≠ e))]
      refine K.d_pu rfl (fun _ _ => X.mv) rfl ?_
      first | refine K.d_skipS rfl rfl rfl rfl ?_ | refine K.d_skipUS rfl rfl rfl rfl rfl ?_ | refine K.d_stG rfl rfl rfl X.ld rfl ?_
      first | refine K.d_skipS rfl rfl rfl rfl ?_ | refine K.d_skipUS rfl rfl rfl rfl rfl ?_ | refine K.d_stG rfl rfl rfl X.ld rfl ?_
      refine K.d_on rfl (fun KK hKK => ?_)
      refine K.s_take rfl rfl ?_
      refine K.l_callV (Fx.cal rfl) rfl hsame (K.pp [3, 3] rfl) rfl rfl ?_
      simp only [pgA, List.cons_append, List.nil_append]
      refine K.l_nil ?_
      refine X.onE hKK ?_
      first | refine K.d_skip rfl rfl rfl rfl ?_ | refine K.d_skipU rfl rfl rfl rfl rfl ?_ | refine K.d_puG rfl rfl rfl (fun _ _ => X.nt) rfl ?_
      refine K.d_pu rfl (fun _ _ => X.pk) rfl ?_
      refine K.d_pu rfl (fun _ _ => X.mv) rfl ?_
      first | refine K.d_skip rfl rfl rfl rfl ?_ | refine K.d_skipU rfl rfl rfl rfl rfl ?_ | refine K.d_puG rfl rfl rfl (fun _ _ => X.mv) rfl ?_
      first | refine K.d_skip rfl rfl rfl rfl ?_ | refine K.d_skipU rfl rfl rfl rfl rfl ?_ | refine K.d_puG rfl rfl rfl (fun _ _ => X.mv) rfl ?_
      first | refine K.d_skipS rfl rfl rfl rfl ?_ | refine K.d_skipUS rfl rfl rfl rfl rfl ?_ | refine K.d_stG rfl rfl rfl X.ld rfl ?_
      refine K.d_stGE rfl rfl rfl (K.p_indexL hsl5' (Fx.und rfl) (Fx.sz rfl) rfl rfl (by omega) hc0) rfl ?_
      rintro v6 ⟨b6, o6, rfl, hcel6⟩
      refine K.d_stG rfl rfl rfl (K.p_loadM (Fx.agg rfl) rfl (Cels.up hcel6) (Fx.sz rfl) rfl) rfl ?_
      refine K.d_on rfl (fun KK hKK => ?_)
      refine K.s_take rfl rfl ?_
      refine K.l_callV (Fx.cal rfl) rfl hsameO (K.pp [4] rfl) rfl rfl ?_
      simp only [List.cons_append, List.nil_append]
      refine K.l_nil ?_
      refine X.onE hKK ?_
      first | refine K.d_skip rfl rfl rfl rfl ?_ | refine K.d_skipU rfl rfl rfl rfl rfl ?_ | refine K.d_puG rfl rfl rfl (fun _ _ => X.nt) rfl ?_
      refine K.d_pu rfl (fun _ _ => X.pk) rfl ?_
      refine K.d_nil ?_
      (repeat' (first | (apply K.s_pure; (first | (apply Y.mv; exact X.mv) | (apply Y.sg; exact X.sg) | (apply Y.pk; exact X.pk) | (apply Y.ex; exact X.ex) | (apply Y.fa; exact X.fa) | (apply Y.ld; exact X.ld) | (apply Y.ia; exact X.ia) | (apply Y.len; exact X.len) | (apply Y.nt; exact X.nt) | (apply Y.badd; exact X.badd) | (apply Y.beql; exact X.beql) | (apply Y.bneq; exact X.bneq) | (apply Y.blss; exact X.blss) | (apply Y.bgtr; exact X.bgtr)); exact rfl) | refine X.l ?_ | refine X.w ?_ | refine X.a ?_ | (refine K.c_condD rfl (fun hc => ?_) (fun hc => ?_) <;> first | (exfalso; omega) | skip) | refine K.c_cond rfl (fun hc => ?_) (fun hc => ?_) | (refine K.s_guardD rfl rfl (fun hc => ?_) (fun hc => ?_) <;> first | (exfalso; omega) | skip) | refine K.s_guard rfl rfl (fun hc => ?_) (fun hc => ?_)))
      refine K.l_call (Fx.cal rfl) rfl (Spoil h5 b8 cap8 l8 q hl8l hcd) (K.pp [1, 1] rfl) rfl ?_
      rintro v9 h' H9 - e'
      obtain rfl := e'.symm
      refine WL.dropsA ?_
      simp only [List.set_cons_zero, List.set_cons_succ, List.eraseIdx_cons_zero, List.eraseIdx_cons_succ, List.cons_append, List.nil_append]
      (repeat' (first | (apply K.s_pure; (first | (apply Y.mv; exact X.mv) | (apply Y.sg; exact X.sg) | (apply Y.pk; exact X.pk) | (apply Y.ex; exact X.ex) | (apply Y.fa; exact X.fa) | (apply Y.ld; exact X.ld) | (apply Y.ia; exact X.ia) | (apply Y.len; exact X.len) | (apply Y.nt; exact X.nt) | (apply Y.badd; exact X.badd) | (apply Y.beql; exact X.beql) | (apply Y.bneq; exact X.bneq) | (apply Y.blss; exact X.blss) | (apply Y.bgtr; exact X.bgtr)); exact rfl) | refine X.l ?_ | refine X.w ?_ | refine X.a ?_ | (refine K.c_condD rfl (fun hc => ?_) (fun hc => ?_) <;> first | (exfalso; omega) | skip) | refine K.c_cond rfl (fun hc => ?_) (fun hc => ?_) | (refine K.s_guardD rfl rfl (fun hc => ?_) (fun hc => ?_) <;> first | (exfalso; omega) | skip) | refine K.s_guard rfl rfl (fun hc => ?_) (fun hc => ?_)))
      refine K.c_loop (σ := Nat × List UInt8) (fun r => [(1, .slice ao1 l.length ca1), (2, .pointer (some ⟨B2, 0, none⟩)), (4, .bool false), (5, .int .i64 j), (6, .pointer (some ⟨B6, 0, none⟩)), (7, .pointer (some ⟨B7, 0, none⟩)), (10, .pointer (some ⟨B10, 0, none⟩)), (11, .int .i64 e), (12, .int .i64 r.1)]) (fun _ => h5)
        (fun r => bufA 5 1 a7 o.data.length cap7 (r.2.map u8) :: blk B10 26 (cP q (.slice ao5 q.cells.length ca5)) :: blk B8 26 (cP q (bufV b8 l8.length cap8)) :: blk B7 39 (cO o (bufV a7 o.data.length cap7)) :: blk B6 26 (cP p (.slice ao2 p.cells.length ca2)) :: blk B2 26 (cP p (.slice ao p.cells.length ca)) :: F)
        (fun r => r.1 ≤ o.data.length ∧ r.2.length = o.data.length) (fun r => o.data.length - r.1) (0, o.data) ⟨Nat.zero_le _, rfl⟩ (by repeat (first | exact K.Sub.nil _ | refine K.Sub.cons rfl ?_)) rfl rfl ?_
      rintro ⟨k, bs⟩ ⟨hk, hbs⟩ KM hKM
      dsimp only at hk hbs ⊢
      by_cases hkl : k < o.data.length
      · refine K.oc_buf (fun _ e _ _ => by omega) ?_
        rintro bb sp fz rfl g2 g3 g4 g5 g6
        have hbj : bs[k]? = some (bs[k]'(by omega)) := List.getElem?_eq_getElem (by omega)
        generalize bs[k]'(by omega) = c at hbj
        (repeat' (first | (apply K.s_pure; (first | (apply Y.mv; exact X.mv) | (apply Y.sg; exact X.sg) | (apply Y.pk; exact X.pk) | (apply Y.ex; exact X.ex) | (apply Y.fa; exact X.fa) | (apply Y.ld; exact X.ld) | (apply Y.ia; exact X.ia) | (apply Y.len; exact X.len) | (apply Y.nt; exact X.nt) | (apply Y.badd; exact X.badd) | (apply Y.beql; exact X.beql) | (apply Y.bneq; exact X.bneq) | (apply Y.blss; exact X.blss) | (apply Y.bgtr; exact X.bgtr)); exact rfl) | refine X.l ?_ | refine X.w ?_ | refine X.a ?_ | (refine K.c_condD rfl (fun hc => ?_) (fun hc => ?_) <;> first | (exfalso; omega) | skip) | refine K.c_cond rfl (fun hc => ?_) (fun hc => ?_) | (refine K.s_guardD rfl rfl (fun hc => ?_) (fun hc => ?_) <;> first | (exfalso; omega) | skip) | refine K.s_guard rfl rfl (fun hc => ?_) (fun hc => ?_)))
        refine X.draw ([blkF bb 5 (bs.map u8 ++ sp) fz, blk B7 39 (cO o (bufV (some bb) o.data.length cap7))]) [10] (.pu 0 (.pu 2 (.pu 3 (.pu 5 (.st 1 (.st 4 (.pu 6 (.st 7 (.pu 8 (.pu 9 (.cl 10 .nil))))))))))) ?_
        refine K.d_pu rfl (fun _ _ => X.fa) rfl ?_
        refine K.d_pu rfl (fun _ _ => X.mv) rfl ?_
        refine K.d_pu rfl (fun _ _ => X.fa) rfl ?_
        refine K.d_pu rfl (fun _ _ => X.mv) rfl ?_
        refine K.d_st rfl X.ld rfl ?_
        refine K.d_st rfl X.ld rfl ?_
        refine K.d_pu rfl (fun _ _ => X.ia) rfl ?_
        refine K.d_st rfl (K.p_load (Fx.agg rfl) rfl (K.cel_own (v := u8 c) 0 rfl (by rw [List.getElem?_append_left (by simpa using (by omega : k < bs.length)), List.getElem?_map, hbj]; rfl))) rfl ?_
        simp only [u8]
        refine K.d_pu rfl (fun _ _ => X.badd) rfl ?_
        rw [inc8]
        refine K.d_pu rfl (fun _ _ => X.ia) rfl ?_
        refine K.d_cl rfl (fun KK hKK => ?_)
        refine K.l_storeB (c := c + 1) (Fx.sz rfl) rfl rfl rfl (by omega) (fun o ho => g6 o (by omega)) ?_
        refine K.l_nil ?_
        refine K.d_clE hKK ?_
        refine K.d_nil ?_
        (repeat' (first | (apply K.s_pure; (first | (apply Y.mv; exact X.mv) | (apply Y.sg; exact X.sg) | (apply Y.pk; exact X.pk) | (apply Y.ex; exact X.ex) | (apply Y.fa; exact X.fa) | (apply Y.ld; exact X.ld) | (apply Y.ia; exact X.ia) | (apply Y.len; exact X.len) | (apply Y.nt; exact X.nt) | (apply Y.badd; exact X.badd) | (apply Y.beql; exact X.beql) | (apply Y.bneq; exact X.bneq) | (apply Y.blss; exact X.blss) | (apply Y.bgtr; exact X.bgtr)); exact rfl) | refine X.l ?_ | refine X.w ?_ | refine X.a ?_ | (refine K.c_condD rfl (fun hc => ?_) (fun hc => ?_) <;> first | (exfalso; omega) | skip) | refine K.c_cond rfl (fun hc => ?_) (fun hc => ?_) | (refine K.s_guardD rfl rfl (fun hc => ?_) (fun hc => ?_) <;> first | (exfalso; omega) | skip) | refine K.s_guard rfl rfl (fun hc => ?_) (fun hc => ?_)))
        refine K.AT.shut (s := 1) (m := o.data.length) (cap := cap7) (by simp [hbs]) (by simpa using g3) g4 g5 g6 ?_
        refine K.a_round hKM (k + 1, bs.set k (c + 1)) ⟨by dsimp only; omega, by simp [hbs]⟩ (by repeat (first | exact K.Sub.nil _ | refine K.Sub.cons rfl ?_)) rfl rfl (by dsimp only; omega)
      · (repeat' (first | (apply K.s_pure; (first | (apply Y.mv; exact X.mv) | (apply Y.sg; exact X.sg) | (apply Y.pk; exact X.pk) | (apply Y.ex; exact X.ex) | (apply Y.fa; exact X.fa) | (apply Y.ld; exact X.ld) | (apply Y.ia; exact X.ia) | (apply Y.len; exact X.len) | (apply Y.nt; exact X.nt) | (apply Y.badd; exact X.badd) | (apply Y.beql; exact X.beql) | (apply Y.bneq; exact X.bneq) | (apply Y.blss; exact X.blss) | (apply Y.bgtr; exact X.bgtr)); exact rfl) | refine X.l ?_ | refine X.w ?_ | refine X.a ?_ | (refine K.c_condD rfl (fun hc => ?_) (fun hc => ?_) <;> first | (exfalso; omega) | skip) | refine K.c_cond rfl (fun hc => ?_) (fun hc => ?_) | (refine K.s_guardD rfl rfl (fun hc => ?_) (fun hc => ?_) <;> first | (exfalso; omega) | skip) | refine K.s_guard rfl rfl (fun hc => ?_) (fun hc => ?_)))
        refine K.l_callV (Fx.cal rfl) rfl (SameP h5 _ _ p p hx5 hp5) (K.pp [] rfl) rfl rfl ?_
        rw [decide_eq_true (rfl : p = p)]
        simp only [List.nil_append]
        by_cases he0 : e = 0
        · subst he0
          rw [if_pos rfl] at hsm2
          (repeat' (first | (apply K.s_pure; (first | (apply Y.mv; exact X.mv) | (apply Y.sg; exact X.sg) | (apply Y.pk; exact X.pk) | (apply Y.ex; exact X.ex) | (apply Y.fa; exact X.fa) | (apply Y.ld; exact X.ld) | (apply Y.ia; exact X.ia) | (apply Y.len; exact X.len) | (apply Y.nt; exact X.nt) | (apply Y.badd; exact X.badd) | (apply Y.beql; exact X.beql) | (apply Y.bneq; exact X.bneq) | (apply Y.blss; exact X.blss) | (apply Y.bgtr; exact X.bgtr)); exact rfl) | refine X.l ?_ | refine X.w ?_ | refine X.a ?_ | (refine K.c_condD rfl (fun hc => ?_) (fun hc => ?_) <;> first | (exfalso; omega) | skip) | refine K.c_cond rfl (fun hc => ?_) (fun hc => ?_) | (refine K.s_guardD rfl rfl (fun hc => ?_) (fun hc => ?_) <;> first | (exfalso; omega) | skip) | refine K.s_guard rfl rfl (fun hc => ?_) (fun hc => ?_)))
          refine K.WL.perm (K.pp [5] rfl) ?_
          simp only [List.set_cons_zero, List.set_cons_succ, List.eraseIdx_cons_zero, List.eraseIdx_cons_succ, List.cons_append, List.nil_append]
          refine X.stw ?_
          simp only [List.set_cons_zero, List.set_cons_succ, List.eraseIdx_cons_zero, List.eraseIdx_cons_succ, List.cons_append, List.nil_append]
          (repeat' (first | (apply K.s_pure; (first | (apply Y.mv; exact X.mv) | (apply Y.sg; exact X.sg) | (apply Y.pk; exact X.pk) | (apply Y.ex; exact X.ex) | (apply Y.fa; exact X.fa) | (apply Y.ld; exact X.ld) | (apply Y.ia; exact X.ia) | (apply Y.len; exact X.len) | (apply Y.nt; exact X.nt) | (apply Y.badd; exact X.badd) | (apply Y.beql; exact X.beql) | (apply Y.bneq; exact X.bneq) | (apply Y.blss; exact X.blss) | (apply Y.bgtr; exact X.bgtr)); exact rfl) | refine X.l ?_ | refine X.w ?_ | refine X.a ?_ | (refine K.c_condD rfl (fun hc => ?_) (fun hc => ?_) <;> first | (exfalso; omega) | skip) | refine K.c_cond rfl (fun hc => ?_) (fun hc => ?_) | (refine K.s_guardD rfl rfl (fun hc => ?_) (fun hc => ?_) <;> first | (exfalso; omega) | skip) | refine K.s_guard rfl rfl (fun hc => ?_) (fun hc => ?_)))
          refine K.AT.sel [1, 1, 1, 1, 1] rfl ?_
          refine K.a_round hKL (j + 1, q, h5, ao5, ca5) ⟨hjl, hle3.trans hle35, hq5, hsm2⟩ (by repeat (first | exact K.Sub.nil _ | refine K.Sub.cons rfl ?_)) rfl rfl (by dsimp only; omega)
        · rw [if_neg he0] at hsm2
          (repeat' (first | (apply K.s_pure; (first | (apply Y.mv; exact X.mv) | (apply Y.sg; exact X.sg) | (apply Y.pk; exact X.pk) | (apply Y.ex; exact X.ex) | (apply Y.fa; exact X.fa) | (apply Y.ld; exact X.ld) | (apply Y.ia; exact X.ia) | (apply Y.len; exact X.len) | (apply Y.nt; exact X.nt) | (apply Y.badd; exact X.badd) | (apply Y.beql; exact X.beql) | (apply Y.bneq; exact X.bneq) | (apply Y.blss; exact X.blss) | (apply Y.bgtr; exact X.bgtr)); exact rfl) | refine X.l ?_ | refine X.w ?_ | refine X.a ?_ | (refine K.c_condD rfl (fun hc => ?_) (fun hc => ?_) <;> first | (exfalso; omega) | skip) | refine K.c_cond rfl (fun hc => ?_) (fun hc => ?_) | (refine K.s_guardD rfl rfl (fun hc => ?_) (fun hc => ?_) <;> first | (exfalso; omega) | skip) | refine K.s_guard rfl rfl (fun hc => ?_) (fun hc => ?_)))
          refine K.AT.sel [0, 0, 0, 0, 0] rfl ?_
          refine K.a_round hKL (j + 1, p, h5, ao, ca) ⟨hjl, hle3.trans hle35, hx5, hsm2⟩ (by repeat (first | exact K.Sub.nil _ | refine K.Sub.cons rfl ?_)) rfl rfl (by dsimp only; omega)
    · (repeat' (first | (apply K.s_pure; (first | (apply Y.mv; exact X.mv) | (apply Y.sg; exact X.sg) | (apply Y.pk; exact X.pk) | (apply Y.ex; exact X.ex) | (apply Y.fa; exact X.fa) | (apply Y.ld; exact X.ld) | (apply Y.ia; exact X.ia) | (apply Y.len; exact X.len) | (apply Y.nt; exact X.nt) | (apply Y.badd; exact X.badd) | (apply Y.beql; exact X.beql) | (apply Y.bneq; exact X.bneq) | (apply Y.blss; exact X.blss) | (apply Y.bgtr; exact X.bgtr)); exact rfl) | refine X.l ?_ | refine X.w ?_ | refine X.a ?_ | (refine K.c_condD rfl (fun hc => ?_) (fun hc => ?_) <;> first | (exfalso; omega) | skip) | refine K.c_cond rfl (fun hc => ?_) (fun hc => ?_) | (refine K.s_guardD rfl rfl (fun hc => ?_) (fun hc => ?_) <;> first | (exfalso; omega) | skip) | refine K.s_guard rfl rfl (fun hc => ?_) (fun hc => ?_)))
      refine K.l_callV (Fx.cal rfl) rfl (Alive h1) (K.pp [] rfl) rfl rfl ?_
      simp only [List.nil_append]
      (repeat' (first | (apply K.s_pure; (first | (apply Y.mv; exact X.mv) | (apply Y.sg; exact X.sg) | (apply Y.pk; exact X.pk) | (apply Y.ex; exact X.ex) | (apply Y.fa; exact X.fa) | (apply Y.ld; exact X.ld) | (apply Y.ia; exact X.ia) | (apply Y.len; exact X.len) | (apply Y.nt; exact X.nt) | (apply Y.badd; exact X.badd) | (apply Y.beql; exact X.beql) | (apply Y.bneq; exact X.bneq) | (apply Y.blss; exact X.blss) | (apply Y.bgtr; exact X.bgtr)); exact rfl) | refine X.l ?_ | refine X.w ?_ | refine X.a ?_ | (refine K.c_condD rfl (fun hc => ?_) (fun hc => ?_) <;> first | (exfalso; omega) | skip) | refine K.c_cond rfl (fun hc => ?_) (fun hc => ?_) | (refine K.s_guardD rfl rfl (fun hc => ?_) (fun hc => ?_) <;> first | (exfalso; omega) | skip) | refine K.s_guard rfl rfl (fun hc => ?_) (fun hc => ?_)))
      refine K.AT.drop ?_
      refine K.done (by first | exact Or.inl rfl | exact Or.inr rfl) rfl hle1 (H' := []) rfl ⟨rfl, rfl⟩
end Go.Proofs.Ytjgfgpdkcojnmaa.Pg
