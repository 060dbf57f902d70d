/-
  An operation changes one cell alone: the statement, walked. Conditions: each theorem's own.
-/
import Derived.Test.YtjgfgpdkcojnmaaFu

namespace Go.Proofs.Ytjgfgpdkcojnmaa.Pg
open Go Go.K Go.Proofs Go.Proofs.Ytjgfgpdkcojnmaa
set_option linter.unusedVariables false
set_option linter.unusedSimpArgs false
set_option maxRecDepth 10000

theorem find_at {l : List PCell} {d : List UInt8} {j : Nat} {x : PCell} (hx : l[j]? = some x) (hd : x.data = d) (hno : ∀ (i : Nat) y, i < j → l[i]? = some y → y.data ≠ d) : atQ l d = x := by
  have hlt := (List.getElem?_eq_some_iff.1 hx).1
  have e : l = l.take j ++ x :: l.drop (j + 1) := by
    conv => lhs; rw [← List.take_append_drop j l]
    rw [List.drop_eq_getElem_cons hlt, (List.getElem?_eq_some_iff.1 hx).2]
  have hA : (l.take j).find? (fun x => decide (x.data = d)) = none := List.find?_eq_none.2 fun y hy => by
    obtain ⟨i, hi, e⟩ := List.getElem_of_mem hy
    rw [List.length_take] at hi
    have := hno i y (by omega) (by rw [List.getElem_take] at e; rw [List.getElem?_eq_getElem (by omega), e])
    simpa using this
  unfold atQ
  rw [e, List.find?_append, hA, Option.none_or, List.find?_cons_of_pos (by simpa using hd)]; rfl
theorem find_no {l : List PCell} {d : List UInt8} (hno : ∀ (i : Nat) y, i < l.length → l[i]? = some y → y.data ≠ d) : atQ l d = ⟨false, 0, []⟩ := by
  unfold atQ
  rw [List.find?_eq_none.2 fun y hy => ?_]; rfl
  obtain ⟨i, hi, e⟩ := List.getElem_of_mem hy
  have := hno i y hi (by rw [List.getElem?_eq_getElem hi, e])
  simpa using this
theorem cell_z (h : Base) : CellC h [.bool false, .int .u32 0, .slice none 0 0] ⟨false, 0, []⟩ := ⟨by decide, by decide, none, 0, rfl, BV.nil⟩
set_option maxHeartbeats 1000000 in
theorem At (h : Base) (cs : List Value) (p : Pag) (u : Value) (d : List UInt8) (hx : PagC h cs p) (hu : BV h u d) :
    Tr Try.prog 30 [.agg cs.toArray, u] h [] (fun v h' H' => h' = h ∧ (∃ c : List Value, v = .agg c.toArray ∧ CellC h c (atQ p.cells d)) ∧ H' = []) := by
  obtain ⟨hw, cv, rfl, es, hv, hel, hr⟩ := hx
  obtain ⟨ao, ca, rfl⟩ := hv.len
  obtain ⟨ao2, ca2, rfl⟩ := hu.len
  have hlen := hw.len
  rw [hel] at hv ⊢
  refine K.enter Try.func30 rfl (Nat.le_of_ble_eq_true rfl) (fun F => ?_)
  simp only [List.nil_append]
  (repeat' (first | (apply K.s_pure; (first | (apply Y.mv; exact X.mv) | (apply Y.sg; exact X.sg) | (apply Y.cv; exact X.cv) | (apply Y.fa; exact X.fa) | (apply Y.ld; exact X.ld) | (apply Y.ia; exact X.ia) | (apply Y.bd; exact X.bd) | (apply Y.len; exact X.len) | (apply Y.badd; exact X.badd) | (apply Y.beql; exact X.beql) | (apply Y.blss; exact X.blss)); exact rfl) | refine X.l ?_ | refine X.w ?_ | refine X.a ?_ | (refine K.c_condD rfl (fun hc => ?_) (fun hc => ?_) <;> first | (exfalso; omega) | skip) | refine K.c_cond rfl (fun hc => ?_) (fun hc => ?_)))
  refine K.l_box rfl rfl rfl (fun B2 => ?_)
  refine K.l_alloc (Fx.zr rfl) rfl rfl (fun B4 => ?_)
  (repeat' (first | (apply K.s_pure; (first | (apply Y.mv; exact X.mv) | (apply Y.sg; exact X.sg) | (apply Y.cv; exact X.cv) | (apply Y.fa; exact X.fa) | (apply Y.ld; exact X.ld) | (apply Y.ia; exact X.ia) | (apply Y.bd; exact X.bd) | (apply Y.len; exact X.len) | (apply Y.badd; exact X.badd) | (apply Y.beql; exact X.beql) | (apply Y.blss; exact X.blss)); exact rfl) | refine X.l ?_ | refine X.w ?_ | refine X.a ?_ | (refine K.c_condD rfl (fun hc => ?_) (fun hc => ?_) <;> first | (exfalso; omega) | skip) | refine K.c_cond rfl (fun hc => ?_) (fun hc => ?_)))
  refine K.c_loop (σ := Nat) (fun j => [(1, .slice ao2 d.length ca2), (2, .pointer (some ⟨B2, 0, none⟩)), (4, .pointer (some ⟨B4, 0, none⟩)), (5, .int .i64 j)]) (fun _ => h) (fun _ => blk B4 47 [.bool false, .int .u32 0, .slice none 0 0] :: blk B2 26 (cP p (.slice ao p.cells.length ca)) :: F)
    (fun j => j ≤ p.cells.length ∧ ∀ (i : Nat) y, i < j → p.cells[i]? = some y → y.data ≠ d) (fun j => p.cells.length - j) 0 ⟨Nat.zero_le _, fun i y hi => by omega⟩ (by repeat (first | exact K.Sub.nil _ | refine K.Sub.cons rfl ?_)) rfl rfl ?_
  rintro j ⟨hj, hno⟩ KL hKL
  by_cases hjl : j < p.cells.length
  · have hc1 : es[j]? = some (es[j]'(by omega)) := List.getElem?_eq_getElem (by omega)
    have hc0 : es[((j : Nat) : Int).toNat]? = some (es[j]'(by omega)) := by rw [Int.toNat_natCast]; exact hc1
    have he1 : p.cells[j]? = some p.cells[j] := List.getElem?_eq_getElem hjl
    generalize es[j]'(by omega) = c at hc0 hc1
    generalize p.cells[j] = x at he1
    obtain ⟨hkl, hdl, ao3, ca3, rfl, hbv⟩ := hr j c x hc1 he1
    (repeat' (first | (apply K.s_pure; (first | (apply Y.mv; exact X.mv) | (apply Y.sg; exact X.sg) | (apply Y.cv; exact X.cv) | (apply Y.fa; exact X.fa) | (apply Y.ld; exact X.ld) | (apply Y.ia; exact X.ia) | (apply Y.bd; exact X.bd) | (apply Y.len; exact X.len) | (apply Y.badd; exact X.badd) | (apply Y.beql; exact X.beql) | (apply Y.blss; exact X.blss)); exact rfl) | refine X.l ?_ | refine X.w ?_ | refine X.a ?_ | (refine K.c_condD rfl (fun hc => ?_) (fun hc => ?_) <;> first | (exfalso; omega) | skip) | refine K.c_cond rfl (fun hc => ?_) (fun hc => ?_)))
    refine X.draw ([blk B2 26 (cP p (.slice ao p.cells.length ca))]) [] (.pu 0 (.pu 2 (.pu 7 (.st 1 (.st 3 (.pu 4 (.st 5 (.st 6 (.st 8 (.pu 9 .nil)))))))))) ?_
    refine K.d_pu rfl (fun _ _ => X.fa) rfl ?_
    refine K.d_pu rfl (fun _ _ => X.mv) rfl ?_
    refine K.d_pu rfl (fun _ _ => X.mv) rfl ?_
    refine K.d_st rfl X.ld rfl ?_
    refine K.d_stE rfl (K.p_indexL hv (Fx.und rfl) (Fx.sz rfl) rfl rfl (by omega) hc0) rfl ?_
    rintro v2 ⟨b, o, rfl, hcel⟩
    refine K.d_pu rfl (fun _ _ => X.fa) rfl ?_
    refine K.d_st rfl (K.p_load (Fx.agg rfl) rfl (Cels.up hcel).2.2.1) rfl ?_
    refine K.d_st rfl (K.p_textB hbv (Fx.und rfl) (Fx.und rfl) (Fx.und rfl) rfl) rfl ?_
    refine K.d_st rfl (K.p_textB hu (Fx.und rfl) (Fx.und rfl) (Fx.und rfl) rfl) rfl ?_
    refine K.d_pu rfl (fun _ _ => X.beql) rfl ?_
    rw [text_eq]
    refine K.d_nil ?_
    by_cases hd : x.data = d
    · rw [decide_eq_true hd]
      (repeat' (first | (apply K.s_pure; (first | (apply Y.mv; exact X.mv) | (apply Y.sg; exact X.sg) | (apply Y.cv; exact X.cv) | (apply Y.fa; exact X.fa) | (apply Y.ld; exact X.ld) | (apply Y.ia; exact X.ia) | (apply Y.bd; exact X.bd) | (apply Y.len; exact X.len) | (apply Y.badd; exact X.badd) | (apply Y.beql; exact X.beql) | (apply Y.blss; exact X.blss)); exact rfl) | refine X.l ?_ | refine X.w ?_ | refine X.a ?_ | (refine K.c_condD rfl (fun hc => ?_) (fun hc => ?_) <;> first | (exfalso; omega) | skip) | refine K.c_cond rfl (fun hc => ?_) (fun hc => ?_)))
      refine K.s_pureE (K.p_indexL hv (Fx.und rfl) (Fx.sz rfl) rfl rfl (by omega) hc0) rfl ?_
      rintro v3 ⟨b3, o3, rfl, hcel3⟩
      refine K.s_pure (K.p_loadM (Fx.agg rfl) rfl (Cels.up hcel3) (Fx.sz rfl) rfl) rfl ?_
      refine X.stw ?_
      simp only [List.set_cons_zero, List.set_cons_succ, List.eraseIdx_cons_zero, List.eraseIdx_cons_succ, List.cons_append, List.nil_append]
      (repeat' (first | (apply K.s_pure; (first | (apply Y.mv; exact X.mv) | (apply Y.sg; exact X.sg) | (apply Y.cv; exact X.cv) | (apply Y.fa; exact X.fa) | (apply Y.ld; exact X.ld) | (apply Y.ia; exact X.ia) | (apply Y.bd; exact X.bd) | (apply Y.len; exact X.len) | (apply Y.badd; exact X.badd) | (apply Y.beql; exact X.beql) | (apply Y.blss; exact X.blss)); exact rfl) | refine X.l ?_ | refine X.w ?_ | refine X.a ?_ | (refine K.c_condD rfl (fun hc => ?_) (fun hc => ?_) <;> first | (exfalso; omega) | skip) | refine K.c_cond rfl (fun hc => ?_) (fun hc => ?_)))
      refine K.doneC (by first | exact Or.inl rfl | exact Or.inr rfl) (.cell rfl (Fx.agg rfl) (Fx.sz rfl) (by first | exact K.cels_own (pre := []) (post := []) 0 rfl rfl | exact K.cels_own (pre := []) (post := []) 1 rfl rfl | exact K.cels_own (pre := []) (post := []) 2 rfl rfl | exact K.cels_own (pre := []) (post := []) 3 rfl rfl | exact K.cels_own (pre := []) (post := []) 4 rfl rfl | exact K.cels_own (pre := []) (post := []) 5 rfl rfl) .nil) (by first | exact K.Base.le.refl _ | assumption) (vs := [.agg [.bool x.used, .int .u32 x.killer, .slice ao3 x.data.length ca3].toArray]) (D := [_, _]) (H' := []) rfl ⟨rfl, ⟨_, rfl, by rw [find_at he1 hd hno]; exact ⟨hkl, hdl, ao3, ca3, rfl, hbv⟩⟩, rfl⟩
    · rw [decide_eq_false hd]
      (repeat' (first | (apply K.s_pure; (first | (apply Y.mv; exact X.mv) | (apply Y.sg; exact X.sg) | (apply Y.cv; exact X.cv) | (apply Y.fa; exact X.fa) | (apply Y.ld; exact X.ld) | (apply Y.ia; exact X.ia) | (apply Y.bd; exact X.bd) | (apply Y.len; exact X.len) | (apply Y.badd; exact X.badd) | (apply Y.beql; exact X.beql) | (apply Y.blss; exact X.blss)); exact rfl) | refine X.l ?_ | refine X.w ?_ | refine X.a ?_ | (refine K.c_condD rfl (fun hc => ?_) (fun hc => ?_) <;> first | (exfalso; omega) | skip) | refine K.c_cond rfl (fun hc => ?_) (fun hc => ?_)))
      refine K.a_round hKL (j + 1) ⟨by omega, fun i y hi hy => ?_⟩ (by repeat (first | exact K.Sub.nil _ | refine K.Sub.cons rfl ?_)) rfl rfl (by omega)
      by_cases hij : i < j
      · exact hno i y hij hy
      · obtain rfl : i = j := by omega
        rw [he1] at hy; cases hy; exact hd
  · obtain rfl : j = p.cells.length := by omega
    (repeat' (first | (apply K.s_pure; (first | (apply Y.mv; exact X.mv) | (apply Y.sg; exact X.sg) | (apply Y.cv; exact X.cv) | (apply Y.fa; exact X.fa) | (apply Y.ld; exact X.ld) | (apply Y.ia; exact X.ia) | (apply Y.bd; exact X.bd) | (apply Y.len; exact X.len) | (apply Y.badd; exact X.badd) | (apply Y.beql; exact X.beql) | (apply Y.blss; exact X.blss)); exact rfl) | refine X.l ?_ | refine X.w ?_ | refine X.a ?_ | (refine K.c_condD rfl (fun hc => ?_) (fun hc => ?_) <;> first | (exfalso; omega) | skip) | refine K.c_cond rfl (fun hc => ?_) (fun hc => ?_)))
    refine X.stw ?_
    simp only [List.set_cons_zero, List.set_cons_succ, List.eraseIdx_cons_zero, List.eraseIdx_cons_succ, List.cons_append, List.nil_append]
    (repeat' (first | (apply K.s_pure; (first | (apply Y.mv; exact X.mv) | (apply Y.sg; exact X.sg) | (apply Y.cv; exact X.cv) | (apply Y.fa; exact X.fa) | (apply Y.ld; exact X.ld) | (apply Y.ia; exact X.ia) | (apply Y.bd; exact X.bd) | (apply Y.len; exact X.len) | (apply Y.badd; exact X.badd) | (apply Y.beql; exact X.beql) | (apply Y.blss; exact X.blss)); exact rfl) | refine X.l ?_ | refine X.w ?_ | refine X.a ?_ | (refine K.c_condD rfl (fun hc => ?_) (fun hc => ?_) <;> first | (exfalso; omega) | skip) | refine K.c_cond rfl (fun hc => ?_) (fun hc => ?_)))
    refine K.doneC (by first | exact Or.inl rfl | exact Or.inr rfl) (.cell rfl (Fx.agg rfl) (Fx.sz rfl) (by first | exact K.cels_own (pre := []) (post := []) 0 rfl rfl | exact K.cels_own (pre := []) (post := []) 1 rfl rfl | exact K.cels_own (pre := []) (post := []) 2 rfl rfl | exact K.cels_own (pre := []) (post := []) 3 rfl rfl | exact K.cels_own (pre := []) (post := []) 4 rfl rfl | exact K.cels_own (pre := []) (post := []) 5 rfl rfl) .nil) (by first | exact K.Base.le.refl _ | assumption) (vs := [.agg [.bool false, .int .u32 0, .slice none 0 0].toArray]) (D := [_, _]) (H' := []) rfl ⟨rfl, ⟨_, rfl, by rw [find_no hno]; exact cell_z h⟩, rfl⟩
theorem cellAt_some {l : List PCell} {j : Nat} {x : PCell} (h : l[j]? = some x) : cellAt l j = x := by rw [cellAt, h]; rfl
theorem cellAt_none {l : List PCell} {j : Nat} (h : l.length ≤ j) : cellAt l j = ⟨false, 0, []⟩ := by rw [cellAt, List.getElem?_eq_none h]; rfl
set_option maxHeartbeats 4000000 in
theorem PageKeeps (h : Base) (cs : List Value) (p : Pag) (ds : List Value) (o : POp) (hx : PagC h cs p) (ho : OpC h ds o) :
    Tr Try.prog 6 [.agg cs.toArray, .agg ds.toArray] h [] (fun u h' H' => u = .bool true ∧ H' = []) := by
  have hx0 := hx
  have ho0 := ho
  obtain ⟨hw, cv, rfl, es, hv, hel, hr⟩ := hx
  obtain ⟨ao, ca, rfl⟩ := hv.len
  obtain ⟨hwo, ao4, ca4, rfl, hbo⟩ := ho
  rw [hel] at hv hx0 ⊢
  refine K.enter Try.func6 rfl (Nat.le_of_ble_eq_true rfl) (fun F => ?_)
  simp only [List.nil_append]
  (repeat' (first | (apply K.s_pure; (first | (apply Y.mv; exact X.mv) | (apply Y.sg; exact X.sg) | (apply Y.pk; exact X.pk) | (apply Y.cv; exact X.cv) | (apply Y.ex; exact X.ex) | (apply Y.fa; exact X.fa) | (apply Y.ld; exact X.ld) | (apply Y.ia; exact X.ia) | (apply Y.bd; exact X.bd) | (apply Y.len; exact X.len) | (apply Y.mx; exact X.mx) | (apply Y.nt; exact X.nt) | (apply Y.badd; exact X.badd) | (apply Y.bsub; exact X.bsub) | (apply Y.beql; exact X.beql) | (apply Y.bneq; exact X.bneq) | (apply Y.blss; exact X.blss) | (apply Y.bleq; exact X.bleq) | (apply Y.bgtr; exact X.bgtr)); exact rfl) | refine X.l ?_ | refine X.w ?_ | refine X.a ?_ | (refine K.c_condD rfl (fun hc => ?_) (fun hc => ?_) <;> first | (exfalso; omega) | skip) | refine K.c_cond rfl (fun hc => ?_) (fun hc => ?_) | (refine K.s_guardD rfl rfl (fun hc => ?_) (fun hc => ?_) <;> first | (exfalso; omega) | skip) | refine K.s_guard rfl rfl (fun hc => ?_) (fun hc => ?_)))
  refine K.l_box rfl rfl rfl (fun B2 => ?_)
  refine K.l_box rfl rfl rfl (fun B3 => ?_)
  (repeat' (first | (apply K.s_pure; (first | (apply Y.mv; exact X.mv) | (apply Y.sg; exact X.sg) | (apply Y.pk; exact X.pk) | (apply Y.cv; exact X.cv) | (apply Y.ex; exact X.ex) | (apply Y.fa; exact X.fa) | (apply Y.ld; exact X.ld) | (apply Y.ia; exact X.ia) | (apply Y.bd; exact X.bd) | (apply Y.len; exact X.len) | (apply Y.mx; exact X.mx) | (apply Y.nt; exact X.nt) | (apply Y.badd; exact X.badd) | (apply Y.bsub; exact X.bsub) | (apply Y.beql; exact X.beql) | (apply Y.bneq; exact X.bneq) | (apply Y.blss; exact X.blss) | (apply Y.bleq; exact X.bleq) | (apply Y.bgtr; exact X.bgtr)); exact rfl) | refine X.l ?_ | refine X.w ?_ | refine X.a ?_ | (refine K.c_condD rfl (fun hc => ?_) (fun hc => ?_) <;> first | (exfalso; omega) | skip) | refine K.c_cond rfl (fun hc => ?_) (fun hc => ?_) | (refine K.s_guardD rfl rfl (fun hc => ?_) (fun hc => ?_) <;> first | (exfalso; omega) | skip) | refine K.s_guard rfl rfl (fun hc => ?_) (fun hc => ?_)))
  refine K.l_callV (Fx.cal rfl) rfl (Long h _ p hx0) (K.pp [] rfl) rfl rfl ?_
  simp only [List.nil_append]
  cases hlo : longQ p.cells with
  | true =>
    (repeat' (first | (apply K.s_pure; (first | (apply Y.mv; exact X.mv) | (apply Y.sg; exact X.sg) | (apply Y.pk; exact X.pk) | (apply Y.cv; exact X.cv) | (apply Y.ex; exact X.ex) | (apply Y.fa; exact X.fa) | (apply Y.ld; exact X.ld) | (apply Y.ia; exact X.ia) | (apply Y.bd; exact X.bd) | (apply Y.len; exact X.len) | (apply Y.mx; exact X.mx) | (apply Y.nt; exact X.nt) | (apply Y.badd; exact X.badd) | (apply Y.bsub; exact X.bsub) | (apply Y.beql; exact X.beql) | (apply Y.bneq; exact X.bneq) | (apply Y.blss; exact X.blss) | (apply Y.bleq; exact X.bleq) | (apply Y.bgtr; exact X.bgtr)); exact rfl) | refine X.l ?_ | refine X.w ?_ | refine X.a ?_ | (refine K.c_condD rfl (fun hc => ?_) (fun hc => ?_) <;> first | (exfalso; omega) | skip) | refine K.c_cond rfl (fun hc => ?_) (fun hc => ?_) | (refine K.s_guardD rfl rfl (fun hc => ?_) (fun hc => ?_) <;> first | (exfalso; omega) | skip) | refine K.s_guard rfl rfl (fun hc => ?_) (fun hc => ?_)))
    refine K.l_callV (Fx.cal rfl) rfl (Alive h) (K.pp [] rfl) rfl rfl ?_
    simp only [List.nil_append]
    (repeat' (first | (apply K.s_pure; (first | (apply Y.mv; exact X.mv) | (apply Y.sg; exact X.sg) | (apply Y.pk; exact X.pk) | (apply Y.cv; exact X.cv) | (apply Y.ex; exact X.ex) | (apply Y.fa; exact X.fa) | (apply Y.ld; exact X.ld) | (apply Y.ia; exact X.ia) | (apply Y.bd; exact X.bd) | (apply Y.len; exact X.len) | (apply Y.mx; exact X.mx) | (apply Y.nt; exact X.nt) | (apply Y.badd; exact X.badd) | (apply Y.bsub; exact X.bsub) | (apply Y.beql; exact X.beql) | (apply Y.bneq; exact X.bneq) | (apply Y.blss; exact X.blss) | (apply Y.bleq; exact X.bleq) | (apply Y.bgtr; exact X.bgtr)); exact rfl) | refine X.l ?_ | refine X.w ?_ | refine X.a ?_ | (refine K.c_condD rfl (fun hc => ?_) (fun hc => ?_) <;> first | (exfalso; omega) | skip) | refine K.c_cond rfl (fun hc => ?_) (fun hc => ?_) | (refine K.s_guardD rfl rfl (fun hc => ?_) (fun hc => ?_) <;> first | (exfalso; omega) | skip) | refine K.s_guard rfl rfl (fun hc => ?_) (fun hc => ?_)))
    refine K.AT.sel [0, 0] rfl ?_
    refine K.done (by first | exact Or.inl rfl | exact Or.inr rfl) rfl (by first | exact K.Base.le.refl _ | assumption) (H' := []) rfl ⟨rfl, rfl⟩
  | false =>
    (repeat' (first | (apply K.s_pure; (first | (apply Y.mv; exact X.mv) | (apply Y.sg; exact X.sg) | (apply Y.pk; exact X.pk) | (apply Y.cv; exact X.cv) | (apply Y.ex; exact X.ex) | (apply Y.fa; exact X.fa) | (apply Y.ld; exact X.ld) | (apply Y.ia; exact X.ia) | (apply Y.bd; exact X.bd) | (apply Y.len; exact X.len) | (apply Y.mx; exact X.mx) | (apply Y.nt; exact X.nt) | (apply Y.badd; exact X.badd) | (apply Y.bsub; exact X.bsub) | (apply Y.beql; exact X.beql) | (apply Y.bneq; exact X.bneq) | (apply Y.blss; exact X.blss) | (apply Y.bleq; exact X.bleq) | (apply Y.bgtr; exact X.bgtr)); exact rfl) | refine X.l ?_ | refine X.w ?_ | refine X.a ?_ | (refine K.c_condD rfl (fun hc => ?_) (fun hc => ?_) <;> first | (exfalso; omega) | skip) | refine K.c_cond rfl (fun hc => ?_) (fun hc => ?_) | (refine K.s_guardD rfl rfl (fun hc => ?_) (fun hc => ?_) <;> first | (exfalso; omega) | skip) | refine K.s_guard rfl rfl (fun hc => ?_) (fun hc => ?_)))
    · refine K.l_callV (Fx.cal rfl) rfl (Alive h) (K.pp [] rfl) rfl rfl ?_
      simp only [List.nil_append]
      (repeat' (first | (apply K.s_pure; (first | (apply Y.mv; exact X.mv) | (apply Y.sg; exact X.sg) | (apply Y.pk; exact X.pk) | (apply Y.cv; exact X.cv) | (apply Y.ex; exact X.ex) | (apply Y.fa; exact X.fa) | (apply Y.ld; exact X.ld) | (apply Y.ia; exact X.ia) | (apply Y.bd; exact X.bd) | (apply Y.len; exact X.len) | (apply Y.mx; exact X.mx) | (apply Y.nt; exact X.nt) | (apply Y.badd; exact X.badd) | (apply Y.bsub; exact X.bsub) | (apply Y.beql; exact X.beql) | (apply Y.bneq; exact X.bneq) | (apply Y.blss; exact X.blss) | (apply Y.bleq; exact X.bleq) | (apply Y.bgtr; exact X.bgtr)); exact rfl) | refine X.l ?_ | refine X.w ?_ | refine X.a ?_ | (refine K.c_condD rfl (fun hc => ?_) (fun hc => ?_) <;> first | (exfalso; omega) | skip) | refine K.c_cond rfl (fun hc => ?_) (fun hc => ?_) | (refine K.s_guardD rfl rfl (fun hc => ?_) (fun hc => ?_) <;> first | (exfalso; omega) | skip) | refine K.s_guard rfl rfl (fun hc => ?_) (fun hc => ?_)))
      refine K.AT.sel [0, 0] rfl ?_
      refine K.done (by first | exact Or.inl rfl | exact Or.inr rfl) rfl (by first | exact K.Base.le.refl _ | assumption) (H' := []) rfl ⟨rfl, rfl⟩
    · refine K.l_call (Fx.cal rfl) rfl (Do h _ _ p o hx0 ho0) (K.pp [] rfl) rfl ?_
      rintro u h' H' - ⟨e, b2, cap2, l2, hl2, hk2, rfl, rfl⟩
      obtain rfl := e.symm
      refine K.WL.freezeA (fun h1 le1 hs1 => ?_)
      have hp1 := says_page (p := (doQ p o).1) hs1 hk2 (do_wf hw) hl2
      have hrow := says_row hs1 hk2
      obtain ⟨ao2, ca2, e2⟩ : ∃ ao2 ca2, bufV b2 l2.length cap2 = .slice ao2 l2.length ca2 := ⟨_, _, rfl⟩
      have hqc : (doQ p o).1.cells.length = l2.length := by rw [hl2, List.length_map]
      rw [hqc, e2] at hp1
      rw [e2] at hrow ⊢
      have hwq := do_wf (o := o) hw
      have herr := do_err (p := p) (o := o)
      have hkeep := do_keeps (p := p) (o := o) (q := (doQ p o).1)
      have hmayq := do_may (p := p) (o := o) (q := (doQ p o).1)
      generalize hqe : doQ p o = qe at hl2 hp1 hwq hqc herr hkeep hmayq ⊢
      obtain ⟨q, e⟩ := qe
      dsimp only at hl2 hp1 hwq hqc herr hkeep hmayq ⊢
      rw [← hqc] at hp1 hrow ⊢
      rw [← hl2] at hrow
      obtain ⟨hsl2, hrow2⟩ := hrow
      have hx1 := hx0.le le1
      have ho1 := ho0.le le1
      have hv1 := hv.le le1
      have hr1 := fun j c x a b => (hr j c x a b).le le1
      clear hr hs1 hl2 hk2 e2
      (repeat' (first | (apply K.s_pure; (first | (apply Y.mv; exact X.mv) | (apply Y.sg; exact X.sg) | (apply Y.pk; exact X.pk) | (apply Y.cv; exact X.cv) | (apply Y.ex; exact X.ex) | (apply Y.fa; exact X.fa) | (apply Y.ld; exact X.ld) | (apply Y.ia; exact X.ia) | (apply Y.bd; exact X.bd) | (apply Y.len; exact X.len) | (apply Y.mx; exact X.mx) | (apply Y.nt; exact X.nt) | (apply Y.badd; exact X.badd) | (apply Y.bsub; exact X.bsub) | (apply Y.beql; exact X.beql) | (apply Y.bneq; exact X.bneq) | (apply Y.blss; exact X.blss) | (apply Y.bleq; exact X.bleq) | (apply Y.bgtr; exact X.bgtr)); exact rfl) | refine X.l ?_ | refine X.w ?_ | refine X.a ?_ | (refine K.c_condD rfl (fun hc => ?_) (fun hc => ?_) <;> first | (exfalso; omega) | skip) | refine K.c_cond rfl (fun hc => ?_) (fun hc => ?_) | (refine K.s_guardD rfl rfl (fun hc => ?_) (fun hc => ?_) <;> first | (exfalso; omega) | skip) | refine K.s_guard rfl rfl (fun hc => ?_) (fun hc => ?_)))
      refine K.l_alloc (Fx.zr rfl) rfl rfl (fun B5 => ?_)
      refine X.stw ?_
      simp only [List.set_cons_zero, List.set_cons_succ, List.eraseIdx_cons_zero, List.eraseIdx_cons_succ, List.cons_append, List.nil_append]
      by_cases he : e = 0
      · subst he
        obtain ⟨k1, k2, k3, k4, k5⟩ := hkeep rfl
        have hm := hmayq rfl
        clear hkeep hmayq herr
        have hq300 := (long_no hlo).1
        (repeat' (first | (apply K.s_pure; (first | (apply Y.mv; exact X.mv) | (apply Y.sg; exact X.sg) | (apply Y.pk; exact X.pk) | (apply Y.cv; exact X.cv) | (apply Y.ex; exact X.ex) | (apply Y.fa; exact X.fa) | (apply Y.ld; exact X.ld) | (apply Y.ia; exact X.ia) | (apply Y.bd; exact X.bd) | (apply Y.len; exact X.len) | (apply Y.mx; exact X.mx) | (apply Y.nt; exact X.nt) | (apply Y.badd; exact X.badd) | (apply Y.bsub; exact X.bsub) | (apply Y.beql; exact X.beql) | (apply Y.bneq; exact X.bneq) | (apply Y.blss; exact X.blss) | (apply Y.bleq; exact X.bleq) | (apply Y.bgtr; exact X.bgtr)); exact rfl) | refine X.l ?_ | refine X.w ?_ | refine X.a ?_ | (refine K.c_condD rfl (fun hc => ?_) (fun hc => ?_) <;> first | (exfalso; omega) | skip) | refine K.c_cond rfl (fun hc => ?_) (fun hc => ?_) | (refine K.s_guardD rfl rfl (fun hc => ?_) (fun hc => ?_) <;> first | (exfalso; omega) | skip) | refine K.s_guard rfl rfl (fun hc => ?_) (fun hc => ?_)))
        refine K.l_callV (Fx.cal rfl) rfl (PMay h1 _ q hp1) (K.pp [] rfl) rfl rfl ?_
        simp only [List.nil_append]
        rw [hm]
        (repeat' (first | (apply K.s_pure; (first | (apply Y.mv; exact X.mv) | (apply Y.sg; exact X.sg) | (apply Y.pk; exact X.pk) | (apply Y.cv; exact X.cv) | (apply Y.ex; exact X.ex) | (apply Y.fa; exact X.fa) | (apply Y.ld; exact X.ld) | (apply Y.ia; exact X.ia) | (apply Y.bd; exact X.bd) | (apply Y.len; exact X.len) | (apply Y.mx; exact X.mx) | (apply Y.nt; exact X.nt) | (apply Y.badd; exact X.badd) | (apply Y.bsub; exact X.bsub) | (apply Y.beql; exact X.beql) | (apply Y.bneq; exact X.bneq) | (apply Y.blss; exact X.blss) | (apply Y.bleq; exact X.bleq) | (apply Y.bgtr; exact X.bgtr)); exact rfl) | refine X.l ?_ | refine X.w ?_ | refine X.a ?_ | (refine K.c_condD rfl (fun hc => ?_) (fun hc => ?_) <;> first | (exfalso; omega) | skip) | refine K.c_cond rfl (fun hc => ?_) (fun hc => ?_) | (refine K.s_guardD rfl rfl (fun hc => ?_) (fun hc => ?_) <;> first | (exfalso; omega) | skip) | refine K.s_guard rfl rfl (fun hc => ?_) (fun hc => ?_)))
        refine K.c_loop (σ := Nat) (fun j => [(2, .pointer (some ⟨B2, 0, none⟩)), (3, .pointer (some ⟨B3, 0, none⟩)), (4, .bool false), (5, .pointer (some ⟨B5, 0, none⟩)), (7, .int .i64 j)]) (fun _ => h1)
          (fun _ => blk B5 26 (cP q (.slice ao2 q.cells.length ca2)) :: blk B3 39 (cO o (.slice ao4 o.data.length ca4)) :: blk B2 26 (cP p (.slice ao p.cells.length ca)) :: F)
          (fun j => j ≤ max p.cells.length q.cells.length) (fun j => max p.cells.length q.cells.length - j) 0 (Nat.zero_le _) (by repeat (first | exact K.Sub.nil _ | refine K.Sub.cons rfl ?_)) rfl rfl ?_
        rintro j hj KL hKL
        by_cases hjm : j < max p.cells.length q.cells.length
        · (repeat' (first | (apply K.s_pure; (first | (apply Y.mv; exact X.mv) | (apply Y.sg; exact X.sg) | (apply Y.pk; exact X.pk) | (apply Y.cv; exact X.cv) | (apply Y.ex; exact X.ex) | (apply Y.fa; exact X.fa) | (apply Y.ld; exact X.ld) | (apply Y.ia; exact X.ia) | (apply Y.bd; exact X.bd) | (apply Y.len; exact X.len) | (apply Y.mx; exact X.mx) | (apply Y.nt; exact X.nt) | (apply Y.badd; exact X.badd) | (apply Y.bsub; exact X.bsub) | (apply Y.beql; exact X.beql) | (apply Y.bneq; exact X.bneq) | (apply Y.blss; exact X.blss) | (apply Y.bleq; exact X.bleq) | (apply Y.bgtr; exact X.bgtr)); exact rfl) | refine X.l ?_ | refine X.w ?_ | refine X.a ?_ | (refine K.s_guardD rfl rfl (fun hc => ?_) (fun hc => ?_) <;> first | (exfalso; omega) | skip) | refine K.s_guard rfl rfl (fun hc => ?_) (fun hc => ?_)))
          refine K.c_condT (by show some (Value.bool (decide _)) = some (Value.bool true); rw [decide_eq_true (by omega)]) ?_
          (repeat' (first | (apply K.s_pure; (first | (apply Y.mv; exact X.mv) | (apply Y.sg; exact X.sg) | (apply Y.pk; exact X.pk) | (apply Y.cv; exact X.cv) | (apply Y.ex; exact X.ex) | (apply Y.fa; exact X.fa) | (apply Y.ld; exact X.ld) | (apply Y.ia; exact X.ia) | (apply Y.bd; exact X.bd) | (apply Y.len; exact X.len) | (apply Y.mx; exact X.mx) | (apply Y.nt; exact X.nt) | (apply Y.badd; exact X.badd) | (apply Y.bsub; exact X.bsub) | (apply Y.beql; exact X.beql) | (apply Y.bneq; exact X.bneq) | (apply Y.blss; exact X.blss) | (apply Y.bleq; exact X.bleq) | (apply Y.bgtr; exact X.bgtr)); exact rfl) | refine X.l ?_ | refine X.w ?_ | refine X.a ?_ | (refine K.s_guardD rfl rfl (fun hc => ?_) (fun hc => ?_) <;> first | (exfalso; omega) | skip) | refine K.s_guard rfl rfl (fun hc => ?_) (fun hc => ?_)))
          refine K.l_alloc (Fx.zr rfl) rfl rfl (fun B8 => ?_)
          refine K.l_alloc (Fx.zr rfl) rfl rfl (fun B9 => ?_)
          refine X.stw ?_
          simp only [List.set_cons_zero, List.set_cons_succ, List.eraseIdx_cons_zero, List.eraseIdx_cons_succ, List.cons_append, List.nil_append]
          refine X.stw ?_
          simp only [List.set_cons_zero, List.set_cons_succ, List.eraseIdx_cons_zero, List.eraseIdx_cons_succ, List.cons_append, List.nil_append]
          refine X.l ?_
          refine X.a ?_
          refine X.w ?_
          have hkey := k5 j
          obtain ⟨a, ha⟩ : ∃ a, a = cellAt p.cells j := ⟨_, rfl⟩
          obtain ⟨b0, hb0⟩ : ∃ b0, b0 = cellAt q.cells j := ⟨_, rfl⟩
          rw [behindQ, ← ha, ← hb0] at hkey
          refine K.c_join (β := Option Addr × Nat) (fun _ => [(2, .pointer (some ⟨B2, 0, none⟩)), (3, .pointer (some ⟨B3, 0, none⟩)), (4, .bool false), (5, .pointer (some ⟨B5, 0, none⟩)), (7, .int .i64 j), (8, .pointer (some ⟨B8, 0, none⟩)), (9, .pointer (some ⟨B9, 0, none⟩))]) (fun _ => h1) (fun r => blk B9 47 [.bool false, .int .u32 0, .slice none 0 0] :: blk B8 47 [.bool a.used, .int .u32 a.killer, .slice r.1 a.data.length r.2] :: blk B5 26 (cP q (.slice ao2 q.cells.length ca2)) :: blk B3 39 (cO o (.slice ao4 o.data.length ca4)) :: blk B2 26 (cP p (.slice ao p.cells.length ca)) :: F) (fun r => CellC h1 [.bool a.used, .int .u32 a.killer, .slice r.1 a.data.length r.2] a) (fun KJ hJ => ?_) (fun r hrA => ?_)
          · (repeat' (first | (apply K.s_pure; (first | (apply Y.mv; exact X.mv) | (apply Y.sg; exact X.sg) | (apply Y.pk; exact X.pk) | (apply Y.cv; exact X.cv) | (apply Y.ex; exact X.ex) | (apply Y.fa; exact X.fa) | (apply Y.ld; exact X.ld) | (apply Y.ia; exact X.ia) | (apply Y.bd; exact X.bd) | (apply Y.len; exact X.len) | (apply Y.mx; exact X.mx) | (apply Y.nt; exact X.nt) | (apply Y.badd; exact X.badd) | (apply Y.bsub; exact X.bsub) | (apply Y.beql; exact X.beql) | (apply Y.bneq; exact X.bneq) | (apply Y.blss; exact X.blss) | (apply Y.bleq; exact X.bleq) | (apply Y.bgtr; exact X.bgtr)); exact rfl) | refine X.l ?_ | refine X.w ?_ | refine X.a ?_ | (refine K.c_condD rfl (fun hc => ?_) (fun hc => ?_) <;> first | (exfalso; omega) | skip) | refine K.c_cond rfl (fun hc => ?_) (fun hc => ?_) | (refine K.s_guardD rfl rfl (fun hc => ?_) (fun hc => ?_) <;> first | (exfalso; omega) | skip) | refine K.s_guard rfl rfl (fun hc => ?_) (fun hc => ?_)))
            · have hjl : j < p.cells.length := by omega
              have hc1 : es[j]? = some (es[j]'(by omega)) := List.getElem?_eq_getElem (by omega)
              have hc0 : es[((j : Nat) : Int).toNat]? = some (es[j]'(by omega)) := by rw [Int.toNat_natCast]; exact hc1
              have he1 : p.cells[j]? = some p.cells[j] := List.getElem?_eq_getElem hjl
              generalize es[j]'(by omega) = c at hc0 hc1
              generalize p.cells[j] = x at he1
              obtain rfl : a = x := ha.trans (cellAt_some he1)
              obtain ⟨hkl, hdl, ao3, ca3, rfl, hbv⟩ := hr1 j c a hc1 he1
              refine K.s_pureE (K.p_indexL hv1 (Fx.und rfl) (Fx.sz rfl) rfl rfl (by omega) hc0) rfl ?_
              rintro v3 ⟨b3, o3, rfl, hcel3⟩
              refine K.s_pure (K.p_loadM (Fx.agg rfl) rfl (Cels.up hcel3) (Fx.sz rfl) rfl) rfl ?_
              refine X.stw ?_
              simp only [List.set_cons_zero, List.set_cons_succ, List.eraseIdx_cons_zero, List.eraseIdx_cons_succ, List.cons_append, List.nil_append]
              (repeat' (first | (apply K.s_pure; (first | (apply Y.mv; exact X.mv) | (apply Y.sg; exact X.sg) | (apply Y.pk; exact X.pk) | (apply Y.cv; exact X.cv) | (apply Y.ex; exact X.ex) | (apply Y.fa; exact X.fa) | (apply Y.ld; exact X.ld) | (apply Y.ia; exact X.ia) | (apply Y.bd; exact X.bd) | (apply Y.len; exact X.len) | (apply Y.mx; exact X.mx) | (apply Y.nt; exact X.nt) | (apply Y.badd; exact X.badd) | (apply Y.bsub; exact X.bsub) | (apply Y.beql; exact X.beql) | (apply Y.bneq; exact X.bneq) | (apply Y.blss; exact X.blss) | (apply Y.bleq; exact X.bleq) | (apply Y.bgtr; exact X.bgtr)); exact rfl) | refine X.l ?_ | refine X.w ?_ | refine X.a ?_ | (refine K.c_condD rfl (fun hc => ?_) (fun hc => ?_) <;> first | (exfalso; omega) | skip) | refine K.c_cond rfl (fun hc => ?_) (fun hc => ?_) | (refine K.s_guardD rfl rfl (fun hc => ?_) (fun hc => ?_) <;> first | (exfalso; omega) | skip) | refine K.s_guard rfl rfl (fun hc => ?_) (fun hc => ?_)))
              refine K.a_join hJ (ao3, ca3) ⟨hkl, hdl, ao3, ca3, rfl, hbv⟩ (by repeat (first | exact K.Sub.nil _ | refine K.Sub.cons rfl ?_)) rfl rfl
            · obtain rfl : a = ⟨false, 0, []⟩ := ha.trans (cellAt_none (by omega))
              refine K.a_join hJ (none, 0) (cell_z h1) (by repeat (first | exact K.Sub.nil _ | refine K.Sub.cons rfl ?_)) rfl rfl
          clear ha
          refine X.a ?_
          refine X.w ?_
          refine K.c_join (β := Option Addr × Nat) (fun _ => [(2, .pointer (some ⟨B2, 0, none⟩)), (3, .pointer (some ⟨B3, 0, none⟩)), (4, .bool false), (5, .pointer (some ⟨B5, 0, none⟩)), (7, .int .i64 j), (8, .pointer (some ⟨B8, 0, none⟩)), (9, .pointer (some ⟨B9, 0, none⟩))]) (fun _ => h1) (fun s => blk B9 47 [.bool b0.used, .int .u32 b0.killer, .slice s.1 b0.data.length s.2] :: blk B8 47 [.bool a.used, .int .u32 a.killer, .slice r.1 a.data.length r.2] :: blk B5 26 (cP q (.slice ao2 q.cells.length ca2)) :: blk B3 39 (cO o (.slice ao4 o.data.length ca4)) :: blk B2 26 (cP p (.slice ao p.cells.length ca)) :: F) (fun s => CellC h1 [.bool b0.used, .int .u32 b0.killer, .slice s.1 b0.data.length s.2] b0) (fun KJ hJ => ?_) (fun s hsB0 => ?_)
          · (repeat' (first | (apply K.s_pure; (first | (apply Y.mv; exact X.mv) | (apply Y.sg; exact X.sg) | (apply Y.pk; exact X.pk) | (apply Y.cv; exact X.cv) | (apply Y.ex; exact X.ex) | (apply Y.fa; exact X.fa) | (apply Y.ld; exact X.ld) | (apply Y.ia; exact X.ia) | (apply Y.bd; exact X.bd) | (apply Y.len; exact X.len) | (apply Y.mx; exact X.mx) | (apply Y.nt; exact X.nt) | (apply Y.badd; exact X.badd) | (apply Y.bsub; exact X.bsub) | (apply Y.beql; exact X.beql) | (apply Y.bneq; exact X.bneq) | (apply Y.blss; exact X.blss) | (apply Y.bleq; exact X.bleq) | (apply Y.bgtr; exact X.bgtr)); exact rfl) | refine X.l ?_ | refine X.w ?_ | refine X.a ?_ | (refine K.c_condD rfl (fun hc => ?_) (fun hc => ?_) <;> first | (exfalso; omega) | skip) | refine K.c_cond rfl (fun hc => ?_) (fun hc => ?_) | (refine K.s_guardD rfl rfl (fun hc => ?_) (fun hc => ?_) <;> first | (exfalso; omega) | skip) | refine K.s_guard rfl rfl (fun hc => ?_) (fun hc => ?_)))
            · have hjl : j < q.cells.length := by omega
              obtain ⟨hl1, hl3, hl2⟩ := hrow2
              have hc1 : (l2.map rowO)[j]? = some ((l2.map rowO)[j]'(by omega)) := List.getElem?_eq_getElem (by omega)
              have hc0 : (l2.map rowO)[((j : Nat) : Int).toNat]? = some ((l2.map rowO)[j]'(by omega)) := by rw [Int.toNat_natCast]; exact hc1
              have he1 : q.cells[j]? = some q.cells[j] := List.getElem?_eq_getElem hjl
              generalize (l2.map rowO)[j]'(by omega) = c at hc0 hc1
              generalize q.cells[j] = x at he1
              obtain rfl : b0 = x := hb0.trans (cellAt_some he1)
              obtain ⟨hkl, hdl, ao3, ca3, rfl, hbv⟩ := hl2 j c b0 hc1 he1
              refine K.s_pureE (K.p_indexL hsl2 (Fx.und rfl) (Fx.sz rfl) rfl rfl (by omega) hc0) rfl ?_
              rintro v3 ⟨b3, o3, rfl, hcel3⟩
              refine K.s_pure (K.p_loadM (Fx.agg rfl) rfl (Cels.up hcel3) (Fx.sz rfl) rfl) rfl ?_
              refine X.stw ?_
              simp only [List.set_cons_zero, List.set_cons_succ, List.eraseIdx_cons_zero, List.eraseIdx_cons_succ, List.cons_append, List.nil_append]
              (repeat' (first | (apply K.s_pure; (first | (apply Y.mv; exact X.mv) | (apply Y.sg; exact X.sg) | (apply Y.pk; exact X.pk) | (apply Y.cv; exact X.cv) | (apply Y.ex; exact X.ex) | (apply Y.fa; exact X.fa) | (apply Y.ld; exact X.ld) | (apply Y.ia; exact X.ia) | (apply Y.bd; exact X.bd) | (apply Y.len; exact X.len) | (apply Y.mx; exact X.mx) | (apply Y.nt; exact X.nt) | (apply Y.badd; exact X.badd) | (apply Y.bsub; exact X.bsub) | (apply Y.beql; exact X.beql) | (apply Y.bneq; exact X.bneq) | (apply Y.blss; exact X.blss) | (apply Y.bleq; exact X.bleq) | (apply Y.bgtr; exact X.bgtr)); exact rfl) | refine X.l ?_ | refine X.w ?_ | refine X.a ?_ | (refine K.c_condD rfl (fun hc => ?_) (fun hc => ?_) <;> first | (exfalso; omega) | skip) | refine K.c_cond rfl (fun hc => ?_) (fun hc => ?_) | (refine K.s_guardD rfl rfl (fun hc => ?_) (fun hc => ?_) <;> first | (exfalso; omega) | skip) | refine K.s_guard rfl rfl (fun hc => ?_) (fun hc => ?_)))
              refine K.a_join hJ (ao3, ca3) ⟨hkl, hdl, ao3, ca3, rfl, hbv⟩ (by repeat (first | exact K.Sub.nil _ | refine K.Sub.cons rfl ?_)) rfl rfl
            · obtain rfl : b0 = ⟨false, 0, []⟩ := hb0.trans (cellAt_none (by omega))
              refine K.a_join hJ (none, 0) (cell_z h1) (by repeat (first | exact K.Sub.nil _ | refine K.Sub.cons rfl ?_)) rfl rfl
          clear hb0
          obtain ⟨r1, r2⟩ := r
          obtain ⟨hakl, hadl, ao5, ca5, ea, hbvA⟩ := hrA
          cases ea
          obtain ⟨b, hb⟩ : ∃ b, b = if p.kind = 2 ∧ a.used = true then atQ q.cells a.data else b0 := ⟨_, rfl⟩
          rw [← hb] at hkey
          refine X.a ?_
          refine X.w ?_
          refine K.c_join (β := Option Addr × Nat) (fun _ => [(2, .pointer (some ⟨B2, 0, none⟩)), (3, .pointer (some ⟨B3, 0, none⟩)), (4, .bool false), (5, .pointer (some ⟨B5, 0, none⟩)), (7, .int .i64 j), (8, .pointer (some ⟨B8, 0, none⟩)), (9, .pointer (some ⟨B9, 0, none⟩))]) (fun _ => h1) (fun s => blk B9 47 [.bool b.used, .int .u32 b.killer, .slice s.1 b.data.length s.2] :: blk B8 47 [.bool a.used, .int .u32 a.killer, .slice r1 a.data.length r2] :: blk B5 26 (cP q (.slice ao2 q.cells.length ca2)) :: blk B3 39 (cO o (.slice ao4 o.data.length ca4)) :: blk B2 26 (cP p (.slice ao p.cells.length ca)) :: F) (fun s => CellC h1 [.bool b.used, .int .u32 b.killer, .slice s.1 b.data.length s.2] b) (fun KJ hJ => ?_) (fun s hsB => ?_)
          · (repeat' (first | (apply K.s_pure; (first | (apply Y.mv; exact X.mv) | (apply Y.sg; exact X.sg) | (apply Y.pk; exact X.pk) | (apply Y.cv; exact X.cv) | (apply Y.ex; exact X.ex) | (apply Y.fa; exact X.fa) | (apply Y.ld; exact X.ld) | (apply Y.ia; exact X.ia) | (apply Y.bd; exact X.bd) | (apply Y.len; exact X.len) | (apply Y.mx; exact X.mx) | (apply Y.nt; exact X.nt) | (apply Y.badd; exact X.badd) | (apply Y.bsub; exact X.bsub) | (apply Y.beql; exact X.beql) | (apply Y.bneq; exact X.bneq) | (apply Y.blss; exact X.blss) | (apply Y.bleq; exact X.bleq) | (apply Y.bgtr; exact X.bgtr)); exact rfl) | refine X.l ?_ | refine X.w ?_ | refine X.a ?_ | (refine K.c_condD rfl (fun hc => ?_) (fun hc => ?_) <;> first | (exfalso; omega) | skip) | refine K.c_cond rfl (fun hc => ?_) (fun hc => ?_) | (refine K.s_guardD rfl rfl (fun hc => ?_) (fun hc => ?_) <;> first | (exfalso; omega) | skip) | refine K.s_guard rfl rfl (fun hc => ?_) (fun hc => ?_)))
            · have hku : p.kind = 2 ∧ a.used = true := by constructor <;> assumption
              rw [if_pos hku] at hb
              subst hb
              refine K.l_call (Fx.cal rfl) rfl (At h1 _ q _ a.data hp1 hbvA) (K.pp [] rfl) rfl ?_
              rintro u h' H' - ⟨e, ⟨c, rfl, hc⟩, rfl⟩
              obtain rfl := e.symm
              obtain ⟨hkl, hdl, ao6, ca6, rfl, hbv⟩ := hc
              simp only [List.nil_append]
              (repeat' (first | (apply K.s_pure; (first | (apply Y.mv; exact X.mv) | (apply Y.sg; exact X.sg) | (apply Y.pk; exact X.pk) | (apply Y.cv; exact X.cv) | (apply Y.ex; exact X.ex) | (apply Y.fa; exact X.fa) | (apply Y.ld; exact X.ld) | (apply Y.ia; exact X.ia) | (apply Y.bd; exact X.bd) | (apply Y.len; exact X.len) | (apply Y.mx; exact X.mx) | (apply Y.nt; exact X.nt) | (apply Y.badd; exact X.badd) | (apply Y.bsub; exact X.bsub) | (apply Y.beql; exact X.beql) | (apply Y.bneq; exact X.bneq) | (apply Y.blss; exact X.blss) | (apply Y.bleq; exact X.bleq) | (apply Y.bgtr; exact X.bgtr)); exact rfl) | refine X.l ?_ | refine X.w ?_ | refine X.a ?_ | (refine K.c_condD rfl (fun hc => ?_) (fun hc => ?_) <;> first | (exfalso; omega) | skip) | refine K.c_cond rfl (fun hc => ?_) (fun hc => ?_) | (refine K.s_guardD rfl rfl (fun hc => ?_) (fun hc => ?_) <;> first | (exfalso; omega) | skip) | refine K.s_guard rfl rfl (fun hc => ?_) (fun hc => ?_)))
              refine X.stw ?_
              simp only [List.set_cons_zero, List.set_cons_succ, List.eraseIdx_cons_zero, List.eraseIdx_cons_succ, List.cons_append, List.nil_append]
              (repeat' (first | (apply K.s_pure; (first | (apply Y.mv; exact X.mv) | (apply Y.sg; exact X.sg) | (apply Y.pk; exact X.pk) | (apply Y.cv; exact X.cv) | (apply Y.ex; exact X.ex) | (apply Y.fa; exact X.fa) | (apply Y.ld; exact X.ld) | (apply Y.ia; exact X.ia) | (apply Y.bd; exact X.bd) | (apply Y.len; exact X.len) | (apply Y.mx; exact X.mx) | (apply Y.nt; exact X.nt) | (apply Y.badd; exact X.badd) | (apply Y.bsub; exact X.bsub) | (apply Y.beql; exact X.beql) | (apply Y.bneq; exact X.bneq) | (apply Y.blss; exact X.blss) | (apply Y.bleq; exact X.bleq) | (apply Y.bgtr; exact X.bgtr)); exact rfl) | refine X.l ?_ | refine X.w ?_ | refine X.a ?_ | (refine K.c_condD rfl (fun hc => ?_) (fun hc => ?_) <;> first | (exfalso; omega) | skip) | refine K.c_cond rfl (fun hc => ?_) (fun hc => ?_) | (refine K.s_guardD rfl rfl (fun hc => ?_) (fun hc => ?_) <;> first | (exfalso; omega) | skip) | refine K.s_guard rfl rfl (fun hc => ?_) (fun hc => ?_)))
              refine K.a_join hJ (ao6, ca6) ⟨hkl, hdl, ao6, ca6, rfl, hbv⟩ (by repeat (first | exact K.Sub.nil _ | refine K.Sub.cons rfl ?_)) rfl rfl
            all_goals
              rw [if_neg (by simp_all)] at hb
              subst hb
              refine K.a_join hJ s hsB0 (by repeat (first | exact K.Sub.nil _ | refine K.Sub.cons rfl ?_)) rfl rfl
          clear hb hsB0
          obtain ⟨s1, s2⟩ := s
          obtain ⟨hbkl, hbdl, ao6, ca6, eb, hbvB⟩ := hsB
          cases eb
          refine X.a ?_
          refine X.w ?_
          refine K.c_join (β := Bool) (fun t => [(2, .pointer (some ⟨B2, 0, none⟩)), (3, .pointer (some ⟨B3, 0, none⟩)), (4, .bool false), (5, .pointer (some ⟨B5, 0, none⟩)), (7, .int .i64 j), (8, .pointer (some ⟨B8, 0, none⟩)), (9, .pointer (some ⟨B9, 0, none⟩)), (10, .bool t)]) (fun _ => h1) (fun _ => blk B9 47 [.bool b.used, .int .u32 b.killer, .slice s1 b.data.length s2] :: blk B8 47 [.bool a.used, .int .u32 a.killer, .slice r1 a.data.length r2] :: blk B5 26 (cP q (.slice ao2 q.cells.length ca2)) :: blk B3 39 (cO o (.slice ao4 o.data.length ca4)) :: blk B2 26 (cP p (.slice ao p.cells.length ca)) :: F) (fun t => t = decide (a = b)) (fun KJ hJ => ?_) (fun t ht => ?_)
          · (repeat' (first | (apply K.s_pure; (first | (apply Y.mv; exact X.mv) | (apply Y.sg; exact X.sg) | (apply Y.pk; exact X.pk) | (apply Y.cv; exact X.cv) | (apply Y.ex; exact X.ex) | (apply Y.fa; exact X.fa) | (apply Y.ld; exact X.ld) | (apply Y.ia; exact X.ia) | (apply Y.bd; exact X.bd) | (apply Y.len; exact X.len) | (apply Y.mx; exact X.mx) | (apply Y.nt; exact X.nt) | (apply Y.badd; exact X.badd) | (apply Y.bsub; exact X.bsub) | (apply Y.beql; exact X.beql) | (apply Y.bneq; exact X.bneq) | (apply Y.blss; exact X.blss) | (apply Y.bleq; exact X.bleq) | (apply Y.bgtr; exact X.bgtr)); exact rfl) | refine X.l ?_ | refine X.w ?_ | refine X.a ?_ | (refine K.c_condD rfl (fun hc => ?_) (fun hc => ?_) <;> first | (exfalso; omega) | skip) | refine K.c_cond rfl (fun hc => ?_) (fun hc => ?_) | (refine K.s_guardD rfl rfl (fun hc => ?_) (fun hc => ?_) <;> first | (exfalso; omega) | skip) | refine K.s_guard rfl rfl (fun hc => ?_) (fun hc => ?_)))
            · rename_i hu
              have hu : a.used = b.used := by simpa using hu
              refine K.s_pure (K.p_textB hbvA (Fx.und rfl) (Fx.und rfl) (Fx.und rfl) rfl) rfl ?_
              (repeat' (first | (apply K.s_pure; (first | (apply Y.mv; exact X.mv) | (apply Y.sg; exact X.sg) | (apply Y.pk; exact X.pk) | (apply Y.cv; exact X.cv) | (apply Y.ex; exact X.ex) | (apply Y.fa; exact X.fa) | (apply Y.ld; exact X.ld) | (apply Y.ia; exact X.ia) | (apply Y.bd; exact X.bd) | (apply Y.len; exact X.len) | (apply Y.mx; exact X.mx) | (apply Y.nt; exact X.nt) | (apply Y.badd; exact X.badd) | (apply Y.bsub; exact X.bsub) | (apply Y.beql; exact X.beql) | (apply Y.bneq; exact X.bneq) | (apply Y.blss; exact X.blss) | (apply Y.bleq; exact X.bleq) | (apply Y.bgtr; exact X.bgtr)); exact rfl) | refine X.l ?_ | refine X.w ?_ | refine X.a ?_ | (refine K.c_condD rfl (fun hc => ?_) (fun hc => ?_) <;> first | (exfalso; omega) | skip) | refine K.c_cond rfl (fun hc => ?_) (fun hc => ?_) | (refine K.s_guardD rfl rfl (fun hc => ?_) (fun hc => ?_) <;> first | (exfalso; omega) | skip) | refine K.s_guard rfl rfl (fun hc => ?_) (fun hc => ?_)))
              refine K.s_pure (K.p_textB hbvB (Fx.und rfl) (Fx.und rfl) (Fx.und rfl) rfl) rfl ?_
              (repeat' (first | (apply K.s_pure; (first | (apply Y.mv; exact X.mv) | (apply Y.sg; exact X.sg) | (apply Y.pk; exact X.pk) | (apply Y.cv; exact X.cv) | (apply Y.ex; exact X.ex) | (apply Y.fa; exact X.fa) | (apply Y.ld; exact X.ld) | (apply Y.ia; exact X.ia) | (apply Y.bd; exact X.bd) | (apply Y.len; exact X.len) | (apply Y.mx; exact X.mx) | (apply Y.nt; exact X.nt) | (apply Y.badd; exact X.badd) | (apply Y.bsub; exact X.bsub) | (apply Y.beql; exact X.beql) | (apply Y.bneq; exact X.bneq) | (apply Y.blss; exact X.blss) | (apply Y.bleq; exact X.bleq) | (apply Y.bgtr; exact X.bgtr)); exact rfl) | refine X.l ?_ | refine X.w ?_ | refine X.a ?_ | (refine K.c_condD rfl (fun hc => ?_) (fun hc => ?_) <;> first | (exfalso; omega) | skip) | refine K.c_cond rfl (fun hc => ?_) (fun hc => ?_) | (refine K.s_guardD rfl rfl (fun hc => ?_) (fun hc => ?_) <;> first | (exfalso; omega) | skip) | refine K.s_guard rfl rfl (fun hc => ?_) (fun hc => ?_)))
              refine K.a_join hJ (decide ((⟨a.data.toArray⟩ : ByteArray) = ⟨b.data.toArray⟩)) ?_ (by repeat (first | exact K.Sub.nil _ | refine K.Sub.cons rfl ?_)) rfl rfl
              rw [text_eq, decide_eq_decide, cell_eq]
              exact ⟨fun e => ⟨hu, by omega, e⟩, fun e => e.2.2⟩
            · refine K.a_join hJ false (decide_eq_false (fun e => ?_)).symm (by repeat (first | exact K.Sub.nil _ | refine K.Sub.cons rfl ?_)) rfl rfl
              rw [e] at hc; omega
            · refine K.a_join hJ false (decide_eq_false (fun e => ?_)).symm (by repeat (first | exact K.Sub.nil _ | refine K.Sub.cons rfl ?_)) rfl rfl
              rw [e] at hc; simp at hc
          refine X.a ?_
          refine X.w ?_
          refine K.c_join (β := Bool) (fun m => [(2, .pointer (some ⟨B2, 0, none⟩)), (3, .pointer (some ⟨B3, 0, none⟩)), (4, .bool false), (5, .pointer (some ⟨B5, 0, none⟩)), (7, .int .i64 j), (8, .pointer (some ⟨B8, 0, none⟩)), (9, .pointer (some ⟨B9, 0, none⟩)), (10, .bool t), (11, .bool m)]) (fun _ => h1) (fun _ => blk B9 47 [.bool b.used, .int .u32 b.killer, .slice s1 b.data.length s2] :: blk B8 47 [.bool a.used, .int .u32 a.killer, .slice r1 a.data.length r2] :: blk B5 26 (cP q (.slice ao2 q.cells.length ca2)) :: blk B3 39 (cO o (.slice ao4 o.data.length ca4)) :: blk B2 26 (cP p (.slice ao p.cells.length ca)) :: F) (fun m => meantQ p o j a = true → m = true) (fun KJ hJ => ?_) (fun m hm => ?_)
          · clear hkey
            have hbo1 := hbo.le le1
            (repeat' (first | (apply K.s_pure; (first | (apply Y.mv; exact X.mv) | (apply Y.sg; exact X.sg) | (apply Y.pk; exact X.pk) | (apply Y.cv; exact X.cv) | (apply Y.ex; exact X.ex) | (apply Y.fa; exact X.fa) | (apply Y.ld; exact X.ld) | (apply Y.ia; exact X.ia) | (apply Y.bd; exact X.bd) | (apply Y.len; exact X.len) | (apply Y.mx; exact X.mx) | (apply Y.nt; exact X.nt) | (apply Y.badd; exact X.badd) | (apply Y.bsub; exact X.bsub) | (apply Y.beql; exact X.beql) | (apply Y.bneq; exact X.bneq) | (apply Y.blss; exact X.blss) | (apply Y.bleq; exact X.bleq) | (apply Y.bgtr; exact X.bgtr)); exact rfl) | refine X.l ?_ | refine X.w ?_ | refine X.a ?_ | (refine K.c_condD rfl (fun hc => ?_) (fun hc => ?_) <;> first | (exfalso; omega) | skip) | refine K.c_cond rfl (fun hc => ?_) (fun hc => ?_) | (refine K.s_guardD rfl rfl (fun hc => ?_) (fun hc => ?_) <;> first | (exfalso; omega) | skip) | refine K.s_guard rfl rfl (fun hc => ?_) (fun hc => ?_)))
            all_goals first
              | (refine K.a_join hJ true (fun _ => rfl) ?_ rfl rfl
                 (repeat (first | exact K.Sub.nil _ | refine K.Sub.cons rfl ?_))
                 done)
              | (refine K.a_join hJ false (fun hm => ?_) (by repeat (first | exact K.Sub.nil _ | refine K.Sub.cons rfl ?_)) rfl rfl
                 simp only [meantQ, Bool.or_eq_true, decide_eq_true_eq] at hm
                 rcases hm with ⟨q1, q2⟩ | ⟨q1, q2⟩ <;> omega)
              | (refine K.s_pure (K.p_textB hbvA (Fx.und rfl) (Fx.und rfl) (Fx.und rfl) rfl) rfl ?_
                 (repeat' (first | (apply K.s_pure; (first | (apply Y.mv; exact X.mv) | (apply Y.sg; exact X.sg) | (apply Y.pk; exact X.pk) | (apply Y.cv; exact X.cv) | (apply Y.ex; exact X.ex) | (apply Y.fa; exact X.fa) | (apply Y.ld; exact X.ld) | (apply Y.ia; exact X.ia) | (apply Y.bd; exact X.bd) | (apply Y.len; exact X.len) | (apply Y.mx; exact X.mx) | (apply Y.nt; exact X.nt) | (apply Y.badd; exact X.badd) | (apply Y.bsub; exact X.bsub) | (apply Y.beql; exact X.beql) | (apply Y.bneq; exact X.bneq) | (apply Y.blss; exact X.blss) | (apply Y.bleq; exact X.bleq) | (apply Y.bgtr; exact X.bgtr)); exact rfl) | refine X.l ?_ | refine X.w ?_ | refine X.a ?_ | (refine K.c_condD rfl (fun hc => ?_) (fun hc => ?_) <;> first | (exfalso; omega) | skip) | refine K.c_cond rfl (fun hc => ?_) (fun hc => ?_) | (refine K.s_guardD rfl rfl (fun hc => ?_) (fun hc => ?_) <;> first | (exfalso; omega) | skip) | refine K.s_guard rfl rfl (fun hc => ?_) (fun hc => ?_)))
                 refine K.s_pure (K.p_textB hbo1 (Fx.und rfl) (Fx.und rfl) (Fx.und rfl) rfl) rfl ?_
                 (repeat' (first | (apply K.s_pure; (first | (apply Y.mv; exact X.mv) | (apply Y.sg; exact X.sg) | (apply Y.pk; exact X.pk) | (apply Y.cv; exact X.cv) | (apply Y.ex; exact X.ex) | (apply Y.fa; exact X.fa) | (apply Y.ld; exact X.ld) | (apply Y.ia; exact X.ia) | (apply Y.bd; exact X.bd) | (apply Y.len; exact X.len) | (apply Y.mx; exact X.mx) | (apply Y.nt; exact X.nt) | (apply Y.badd; exact X.badd) | (apply Y.bsub; exact X.bsub) | (apply Y.beql; exact X.beql) | (apply Y.bneq; exact X.bneq) | (apply Y.blss; exact X.blss) | (apply Y.bleq; exact X.bleq) | (apply Y.bgtr; exact X.bgtr)); exact rfl) | refine X.l ?_ | refine X.w ?_ | refine X.a ?_ | (refine K.c_condD rfl (fun hc => ?_) (fun hc => ?_) <;> first | (exfalso; omega) | skip) | refine K.c_cond rfl (fun hc => ?_) (fun hc => ?_) | (refine K.s_guardD rfl rfl (fun hc => ?_) (fun hc => ?_) <;> first | (exfalso; omega) | skip) | refine K.s_guard rfl rfl (fun hc => ?_) (fun hc => ?_)))
                 refine K.a_join hJ (decide ((⟨a.data.toArray⟩ : ByteArray) = ⟨o.data.toArray⟩)) (fun hm => ?_) (by repeat (first | exact K.Sub.nil _ | refine K.Sub.cons rfl ?_)) rfl rfl
                 rw [text_eq, decide_eq_true_iff]
                 simp only [meantQ, Bool.or_eq_true, decide_eq_true_eq] at hm
                 rcases hm with ⟨q1, q2⟩ | ⟨q1, q2⟩
                 · omega
                 · rcases q2 with q2 | q2
                   · rw [q2] at hc; cases hc
                   · exact q2)
          have htm : t = true ∨ m = true := by
            rcases hkey with e | e
            · exact .inl (ht.trans (decide_eq_true e))
            · exact .inr (hm e)
          clear hkey ht hm
          rcases htm with rfl | rfl
          · cases m
            all_goals
              (repeat' (first | (apply K.s_pure; (first | (apply Y.mv; exact X.mv) | (apply Y.sg; exact X.sg) | (apply Y.pk; exact X.pk) | (apply Y.cv; exact X.cv) | (apply Y.ex; exact X.ex) | (apply Y.fa; exact X.fa) | (apply Y.ld; exact X.ld) | (apply Y.ia; exact X.ia) | (apply Y.bd; exact X.bd) | (apply Y.len; exact X.len) | (apply Y.mx; exact X.mx) | (apply Y.nt; exact X.nt) | (apply Y.badd; exact X.badd) | (apply Y.bsub; exact X.bsub) | (apply Y.beql; exact X.beql) | (apply Y.bneq; exact X.bneq) | (apply Y.blss; exact X.blss) | (apply Y.bleq; exact X.bleq) | (apply Y.bgtr; exact X.bgtr)); exact rfl) | refine X.l ?_ | refine X.w ?_ | refine X.a ?_ | (refine K.c_condD rfl (fun hc => ?_) (fun hc => ?_) <;> first | (exfalso; omega) | skip) | refine K.c_cond rfl (fun hc => ?_) (fun hc => ?_) | (refine K.s_guardD rfl rfl (fun hc => ?_) (fun hc => ?_) <;> first | (exfalso; omega) | skip) | refine K.s_guard rfl rfl (fun hc => ?_) (fun hc => ?_)))
              refine K.AT.sel [0, 0] rfl ?_
              refine K.a_round hKL (j + 1) (by omega) (by repeat (first | exact K.Sub.nil _ | refine K.Sub.cons rfl ?_)) rfl rfl (by omega)
          · cases t
            all_goals
              (repeat' (first | (apply K.s_pure; (first | (apply Y.mv; exact X.mv) | (apply Y.sg; exact X.sg) | (apply Y.pk; exact X.pk) | (apply Y.cv; exact X.cv) | (apply Y.ex; exact X.ex) | (apply Y.fa; exact X.fa) | (apply Y.ld; exact X.ld) | (apply Y.ia; exact X.ia) | (apply Y.bd; exact X.bd) | (apply Y.len; exact X.len) | (apply Y.mx; exact X.mx) | (apply Y.nt; exact X.nt) | (apply Y.badd; exact X.badd) | (apply Y.bsub; exact X.bsub) | (apply Y.beql; exact X.beql) | (apply Y.bneq; exact X.bneq) | (apply Y.blss; exact X.blss) | (apply Y.bleq; exact X.bleq) | (apply Y.bgtr; exact X.bgtr)); exact rfl) | refine X.l ?_ | refine X.w ?_ | refine X.a ?_ | (refine K.c_condD rfl (fun hc => ?_) (fun hc => ?_) <;> first | (exfalso; omega) | skip) | refine K.c_cond rfl (fun hc => ?_) (fun hc => ?_) | (refine K.s_guardD rfl rfl (fun hc => ?_) (fun hc => ?_) <;> first | (exfalso; omega) | skip) | refine K.s_guard rfl rfl (fun hc => ?_) (fun hc => ?_)))
              refine K.AT.sel [0, 0] rfl ?_
              refine K.a_round hKL (j + 1) (by omega) (by repeat (first | exact K.Sub.nil _ | refine K.Sub.cons rfl ?_)) rfl rfl (by omega)
        · (repeat' (first | (apply K.s_pure; (first | (apply Y.mv; exact X.mv) | (apply Y.sg; exact X.sg) | (apply Y.pk; exact X.pk) | (apply Y.cv; exact X.cv) | (apply Y.ex; exact X.ex) | (apply Y.fa; exact X.fa) | (apply Y.ld; exact X.ld) | (apply Y.ia; exact X.ia) | (apply Y.bd; exact X.bd) | (apply Y.len; exact X.len) | (apply Y.mx; exact X.mx) | (apply Y.nt; exact X.nt) | (apply Y.badd; exact X.badd) | (apply Y.bsub; exact X.bsub) | (apply Y.beql; exact X.beql) | (apply Y.bneq; exact X.bneq) | (apply Y.blss; exact X.blss) | (apply Y.bleq; exact X.bleq) | (apply Y.bgtr; exact X.bgtr)); exact rfl) | refine X.l ?_ | refine X.w ?_ | refine X.a ?_ | (refine K.c_condD rfl (fun hc => ?_) (fun hc => ?_) <;> first | (exfalso; omega) | skip) | refine K.c_cond rfl (fun hc => ?_) (fun hc => ?_) | (refine K.s_guardD rfl rfl (fun hc => ?_) (fun hc => ?_) <;> first | (exfalso; omega) | skip) | refine K.s_guard rfl rfl (fun hc => ?_) (fun hc => ?_)))
          refine K.l_callV (Fx.cal rfl) rfl (Alive h1) (K.pp [] rfl) rfl rfl ?_
          simp only [List.nil_append]
          (repeat' (first | (apply K.s_pure; (first | (apply Y.mv; exact X.mv) | (apply Y.sg; exact X.sg) | (apply Y.pk; exact X.pk) | (apply Y.cv; exact X.cv) | (apply Y.ex; exact X.ex) | (apply Y.fa; exact X.fa) | (apply Y.ld; exact X.ld) | (apply Y.ia; exact X.ia) | (apply Y.bd; exact X.bd) | (apply Y.len; exact X.len) | (apply Y.mx; exact X.mx) | (apply Y.nt; exact X.nt) | (apply Y.badd; exact X.badd) | (apply Y.bsub; exact X.bsub) | (apply Y.beql; exact X.beql) | (apply Y.bneq; exact X.bneq) | (apply Y.blss; exact X.blss) | (apply Y.bleq; exact X.bleq) | (apply Y.bgtr; exact X.bgtr)); exact rfl) | refine X.l ?_ | refine X.w ?_ | refine X.a ?_ | (refine K.c_condD rfl (fun hc => ?_) (fun hc => ?_) <;> first | (exfalso; omega) | skip) | refine K.c_cond rfl (fun hc => ?_) (fun hc => ?_) | (refine K.s_guardD rfl rfl (fun hc => ?_) (fun hc => ?_) <;> first | (exfalso; omega) | skip) | refine K.s_guard rfl rfl (fun hc => ?_) (fun hc => ?_)))
          refine K.AT.sel [0, 0, 0] rfl ?_
          refine K.done (by first | exact Or.inl rfl | exact Or.inr rfl) rfl le1 (H' := []) rfl ⟨rfl, rfl⟩
      · obtain rfl := herr he
        (repeat' (first | (apply K.s_pure; (first | (apply Y.mv; exact X.mv) | (apply Y.sg; exact X.sg) | (apply Y.pk; exact X.pk) | (apply Y.cv; exact X.cv) | (apply Y.ex; exact X.ex) | (apply Y.fa; exact X.fa) | (apply Y.ld; exact X.ld) | (apply Y.ia; exact X.ia) | (apply Y.bd; exact X.bd) | (apply Y.len; exact X.len) | (apply Y.mx; exact X.mx) | (apply Y.nt; exact X.nt) | (apply Y.badd; exact X.badd) | (apply Y.bsub; exact X.bsub) | (apply Y.beql; exact X.beql) | (apply Y.bneq; exact X.bneq) | (apply Y.blss; exact X.blss) | (apply Y.bleq; exact X.bleq) | (apply Y.bgtr; exact X.bgtr)); exact rfl) | refine X.l ?_ | refine X.w ?_ | refine X.a ?_ | (refine K.c_condD rfl (fun hc => ?_) (fun hc => ?_) <;> first | (exfalso; omega) | skip) | refine K.c_cond rfl (fun hc => ?_) (fun hc => ?_) | (refine K.s_guardD rfl rfl (fun hc => ?_) (fun hc => ?_) <;> first | (exfalso; omega) | skip) | refine K.s_guard rfl rfl (fun hc => ?_) (fun hc => ?_)))
        have hpz : PagC h1 (cP zP (.slice none 0 0)) zP := ⟨wf_zP, _, rfl, [], .inl ⟨_, _, rfl, rfl⟩, rfl, fun j c x hc => by cases hc⟩
        refine K.l_callV (Fx.cal rfl) rfl (SameP h1 _ _ zP zP hp1 hpz) (K.pp [] rfl) rfl rfl ?_
        rw [decide_eq_true (rfl : zP = zP)]
        simp only [List.nil_append]
        (repeat' (first | (apply K.s_pure; (first | (apply Y.mv; exact X.mv) | (apply Y.sg; exact X.sg) | (apply Y.pk; exact X.pk) | (apply Y.cv; exact X.cv) | (apply Y.ex; exact X.ex) | (apply Y.fa; exact X.fa) | (apply Y.ld; exact X.ld) | (apply Y.ia; exact X.ia) | (apply Y.bd; exact X.bd) | (apply Y.len; exact X.len) | (apply Y.mx; exact X.mx) | (apply Y.nt; exact X.nt) | (apply Y.badd; exact X.badd) | (apply Y.bsub; exact X.bsub) | (apply Y.beql; exact X.beql) | (apply Y.bneq; exact X.bneq) | (apply Y.blss; exact X.blss) | (apply Y.bleq; exact X.bleq) | (apply Y.bgtr; exact X.bgtr)); exact rfl) | refine X.l ?_ | refine X.w ?_ | refine X.a ?_ | (refine K.c_condD rfl (fun hc => ?_) (fun hc => ?_) <;> first | (exfalso; omega) | skip) | refine K.c_cond rfl (fun hc => ?_) (fun hc => ?_) | (refine K.s_guardD rfl rfl (fun hc => ?_) (fun hc => ?_) <;> first | (exfalso; omega) | skip) | refine K.s_guard rfl rfl (fun hc => ?_) (fun hc => ?_)))
        refine K.l_callV (Fx.cal rfl) rfl (Alive h1) (K.pp [] rfl) rfl rfl ?_
        simp only [List.nil_append]
        (repeat' (first | (apply K.s_pure; (first | (apply Y.mv; exact X.mv) | (apply Y.sg; exact X.sg) | (apply Y.pk; exact X.pk) | (apply Y.cv; exact X.cv) | (apply Y.ex; exact X.ex) | (apply Y.fa; exact X.fa) | (apply Y.ld; exact X.ld) | (apply Y.ia; exact X.ia) | (apply Y.bd; exact X.bd) | (apply Y.len; exact X.len) | (apply Y.mx; exact X.mx) | (apply Y.nt; exact X.nt) | (apply Y.badd; exact X.badd) | (apply Y.bsub; exact X.bsub) | (apply Y.beql; exact X.beql) | (apply Y.bneq; exact X.bneq) | (apply Y.blss; exact X.blss) | (apply Y.bleq; exact X.bleq) | (apply Y.bgtr; exact X.bgtr)); exact rfl) | refine X.l ?_ | refine X.w ?_ | refine X.a ?_ | (refine K.c_condD rfl (fun hc => ?_) (fun hc => ?_) <;> first | (exfalso; omega) | skip) | refine K.c_cond rfl (fun hc => ?_) (fun hc => ?_) | (refine K.s_guardD rfl rfl (fun hc => ?_) (fun hc => ?_) <;> first | (exfalso; omega) | skip) | refine K.s_guard rfl rfl (fun hc => ?_) (fun hc => ?_)))
        refine K.AT.sel [0, 0, 0] rfl ?_
        refine K.done (by first | exact Or.inl rfl | exact Or.inr rfl) rfl le1 (H' := []) rfl ⟨rfl, rfl⟩
end Go.Proofs.Ytjgfgpdkcojnmaa.Pg
