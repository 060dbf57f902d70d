/-
  The schema that rows say: the document's Read walked; rows in memory of their own. Conditions: each theorem's own.
-/
import Derived.Test.YtdjacjhojbkgjaaWf

namespace Go.Proofs.Ytdjacjhojbkgjaa.Ct
open Go Go.K Go.Proofs Go.Proofs.Ytdjacjhojbkgjaa Go.Proofs.Ytdjacjhojbkgjaa.Rw
set_option linter.unusedVariables false
set_option linter.unusedSimpArgs false
set_option maxRecDepth 10000

set_option maxHeartbeats 4000000 in
theorem RRead (h : Base) (v : Value) (l : List (List Val)) (hv : RowsV h l v) (hw : ∀ r ∈ l, ∀ x ∈ r, wfV x) (hrl : ∀ r ∈ l, r.length ≤ 9223372036854775807) (hl : l.length ≤ 2000) :
    Tr Try.prog 18 [v] h [] (fun u h' H' => H' = [] ∧ ∃ ok s cs, u = .tuple #[.agg cs.toArray, eV (if ok then 0 else 5)] ∧ SchC h' s cs ∧ wfS s ∧ ReadP l ok s) := by
  have hv' := hv
  obtain ⟨es, hvl, hes⟩ := hv
  obtain ⟨ao, ca, rfl⟩ := hvl.len
  rw [hes.len] at hvl hv' ⊢
  refine K.enter Try.func18 rfl (Nat.le_of_ble_eq_true rfl) (fun F => ?_)
  simp only [List.nil_append, List.cons_append]
  (repeat' (first | refine X.rq ?_ | (refine X.rc ?_ ?_ <;> intro hc <;> first | (exfalso; omega) | skip)))
  refine K.l_alloc (Fx.zr rfl) rfl rfl (fun BR => ?_)
  (repeat' (first | refine X.rq ?_ | (refine X.rc ?_ ?_ <;> intro hc <;> first | (exfalso; omega) | skip)))
  all_goals first | (exfalso; omega) | skip
  refine K.l_call (Fx.cal rfl) rfl (RGuess h _ l hv' hw hrl (by omega)) (K.pp [] rfl) rfl ?_
  rintro u h1 H' hle1 ⟨rfl, cs, rfl, hsc, hwf⟩
  simp only [List.set_cons_zero, List.set_cons_succ, List.eraseIdx_cons_zero, List.eraseIdx_cons_succ, List.cons_append, List.nil_append]
  have hone : ∀ s', wfS s' → mayS s' = true → l.Perm (rowsQ s') → guessQ l = s' := fun s' hw' hm' hp' => guess_rows (may0 hm') hw' hp'
  generalize guessQ l = s at hsc hwf hone
  have hsc0 := hsc
  obtain ⟨vt, vi, ts, is, rfl, hvt, ht, hvi, hi⟩ := hsc0
  obtain ⟨at_, ct, rfl⟩ := hvt.len
  obtain ⟨ai, ci, rfl⟩ := hvi.len
  (repeat' (first | refine X.rq ?_ | (refine X.rc ?_ ?_ <;> intro hc <;> first | (exfalso; omega) | skip)))
  refine K.l_alloc (Fx.zr rfl) rfl rfl (fun B4 => ?_)
  refine X.stw ?_
  simp only [List.set_cons_zero, List.set_cons_succ, List.eraseIdx_cons_zero, List.eraseIdx_cons_succ, List.cons_append, List.nil_append]
  (repeat' (first | refine X.rq ?_ | (refine X.rc ?_ ?_ <;> intro hc <;> first | (exfalso; omega) | skip)))
  have hrw : ∀ r ∈ l, (∀ y ∈ r, wfV y) ∧ r.length ≤ 9223372036854775807 := fun r hr => ⟨hw r hr, hrl r hr⟩
  cases hm : mayS s with
  | false =>
    have hbad : ∀ s', wfS s' → mayS s' = true → ¬ l.Perm (rowsQ s') := fun s' hw' hm' hp' => by
      rw [← hone s' hw' hm' hp', hm] at hm'
      cases hm'
    refine X.draw ([blk B4 25 [.slice at_ ts.length ct, .slice ai is.length ci]]) [] (.st 0 (.on 1 (.pu 2 (.pu 3 (.pu 4 (.st 6 (.on 5 (.on 7 (.on 8 (.on 9 (.pu 10 (.pu 11 .nil)))))))))))) ?_ (hQ := by repeat (first | with_reducible refine K.NoPanic.then ?_ | with_reducible refine K.NoPanic.inBlock ?_ | with_reducible exact K.post_noPanic _ _ | exact K.post_noPanic _ _))
    refine K.d_st rfl (K.p_loadW 0 rfl rfl (Fx.agg rfl) (Fx.sz rfl)) rfl ?_
    refine K.d_on rfl (fun KK hKK => ?_)
    refine K.l_call (Fx.cal rfl) rfl (RMay h1 _ s hsc hwf) (K.pp [] rfl) rfl ?_
    rintro u h2 H' hle2 ⟨rfl, rfl⟩
    rw [hm]
    simp only [List.set_cons_zero, List.set_cons_succ, List.eraseIdx_cons_zero, List.eraseIdx_cons_succ, List.cons_append, List.nil_append]
    refine K.l_nil ?_
    refine X.onE hKK ?_
    refine K.d_pu rfl (fun _ _ => X.nt) rfl ?_
    refine K.d_pu rfl (fun _ _ => X.mv) rfl ?_
    first | refine K.d_skip rfl rfl rfl rfl ?_ | refine K.d_skipU rfl rfl rfl rfl rfl ?_ | refine K.d_puG rfl rfl rfl (fun _ _ => X.mv) rfl ?_
    first | refine K.d_skipS rfl rfl rfl rfl ?_ | refine K.d_skipUS rfl rfl rfl rfl rfl ?_ | refine K.d_stG rfl rfl rfl X.ld rfl ?_
    refine K.d_on rfl (fun KK hKK => ?_)
    first | refine K.s_skip rfl rfl rfl ?_ | refine K.s_skipU rfl rfl rfl rfl ?_
    refine K.l_nil ?_
    refine X.onE hKK ?_
    refine K.d_on rfl (fun KK hKK => ?_)
    first | refine K.s_skip rfl rfl rfl ?_ | refine K.s_skipU rfl rfl rfl rfl ?_
    refine K.l_nil ?_
    refine X.onE hKK ?_
    refine K.d_on rfl (fun KK hKK => ?_)
    first | refine K.s_skip rfl rfl rfl ?_ | refine K.s_skipU rfl rfl rfl rfl ?_
    refine K.l_nil ?_
    refine X.onE hKK ?_
    refine K.d_on rfl (fun KK hKK => ?_)
    first | refine K.s_skip rfl rfl rfl ?_ | refine K.s_skipU rfl rfl rfl rfl ?_
    refine K.l_nil ?_
    refine X.onE hKK ?_
    first | refine K.d_skip rfl rfl rfl rfl ?_ | refine K.d_skipU rfl rfl rfl rfl rfl ?_ | refine K.d_puG rfl rfl rfl (fun _ _ => X.nt) rfl ?_
    refine K.d_pu rfl (fun _ _ => X.pk) rfl ?_
    refine K.d_nil ?_
    (repeat' (first | refine X.rq ?_ | (refine X.rc ?_ ?_ <;> intro hc <;> first | (exfalso; omega) | skip)))
    refine X.stw ?_
    simp only [List.set_cons_zero, List.set_cons_succ, List.eraseIdx_cons_zero, List.eraseIdx_cons_succ, List.cons_append, List.nil_append]
    (repeat' (first | refine X.rq ?_ | (refine X.rc ?_ ?_ <;> intro hc <;> first | (exfalso; omega) | skip)))
    refine K.doneC (.inl rfl) (.cell rfl (Fx.agg rfl) (Fx.sz rfl) (K.cels_own (pre := []) (post := []) 1 rfl rfl) (.tmp rfl .nil)) (hle1.trans hle2) (vs := [.agg [Value.slice none 0 0, Value.slice none 0 0].toArray, eV 5]) (D := [_, _]) (H' := []) rfl ⟨rfl, false, zSch, _, rfl, zSch_c _, zSch_wf, ⟨fun e => (by cases e), fun _ => ⟨rfl, hbad⟩⟩⟩
  | true =>
    have hrn := rows_len hm
    have hrows := rows_wf hwf hm
    have hn1 : (sortQ l).length = l.length := (sortQ_perm l).length_eq
    have hn2 : (sortQ (rowsQ s)).length = (rowsQ s).length := (sortQ_perm _).length_eq
    refine X.draw ([blk B4 25 [.slice at_ ts.length ct, .slice ai is.length ci]]) [] (.st 0 (.on 1 (.pu 2 (.pu 3 (.pu 4 (.st 6 (.on 5 (.on 7 (.on 8 (.on 9 (.pu 10 (.pu 11 .nil)))))))))))) ?_ (hQ := by repeat (first | with_reducible refine K.NoPanic.then ?_ | with_reducible refine K.NoPanic.inBlock ?_ | with_reducible exact K.post_noPanic _ _ | exact K.post_noPanic _ _))
    refine K.d_st rfl (K.p_loadW 0 rfl rfl (Fx.agg rfl) (Fx.sz rfl)) rfl ?_
    refine K.d_on rfl (fun KK hKK => ?_)
    refine K.l_call (Fx.cal rfl) rfl (RMay h1 _ s hsc hwf) (K.pp [] rfl) rfl ?_
    rintro u h2 H' hle2 ⟨rfl, rfl⟩
    rw [hm]
    simp only [List.set_cons_zero, List.set_cons_succ, List.eraseIdx_cons_zero, List.eraseIdx_cons_succ, List.cons_append, List.nil_append]
    refine K.l_nil ?_
    refine X.onE hKK ?_
    refine K.d_pu rfl (fun _ _ => X.nt) rfl ?_
    refine K.d_pu rfl (fun _ _ => X.mv) rfl ?_
    first | refine K.d_skip rfl rfl rfl rfl ?_ | refine K.d_skipU rfl rfl rfl rfl rfl ?_ | refine K.d_puG rfl rfl rfl (fun _ _ => X.mv) rfl ?_
    refine K.d_stG rfl rfl rfl (K.p_loadW 0 rfl rfl (Fx.agg rfl) (Fx.sz rfl)) rfl ?_
    refine K.d_on rfl (fun KK hKK => ?_)
    refine K.s_take rfl rfl ?_
    refine K.l_call (Fx.cal rfl) rfl (RSorted h2 _ l (hv'.le (hle1.trans hle2)) hrw (by omega)) (K.pp [] rfl) rfl ?_
    rintro u h3 H' hle3 ⟨rfl, es1, hv1, hes1⟩
    obtain ⟨a1, k1, rfl⟩ := hv1.len
    simp only [List.set_cons_zero, List.set_cons_succ, List.eraseIdx_cons_zero, List.eraseIdx_cons_succ, List.cons_append, List.nil_append]
    have hle3 := hle2.trans hle3
    refine K.l_nil ?_
    refine X.onE hKK ?_
    refine K.d_on rfl (fun KK hKK => ?_)
    refine K.s_take rfl rfl ?_
    refine K.l_call (Fx.cal rfl) rfl (RRows h3 _ s (hsc.le hle3) hwf hm) (K.pp [] rfl) rfl ?_
    rintro u h4 H' hle4 ⟨rfl, hv2⟩
    simp only [List.set_cons_zero, List.set_cons_succ, List.eraseIdx_cons_zero, List.eraseIdx_cons_succ, List.cons_append, List.nil_append]
    have hle4' := hle3.trans hle4
    refine K.l_nil ?_
    refine X.onE hKK ?_
    refine K.d_on rfl (fun KK hKK => ?_)
    refine K.s_take rfl rfl ?_
    refine K.l_call (Fx.cal rfl) rfl (RSorted h4 _ (rowsQ s) hv2 hrows (by omega)) (K.pp [] rfl) rfl ?_
    rintro u h5 H' hle5 ⟨rfl, es3, hv3, hes3⟩
    obtain ⟨a3, k3, rfl⟩ := hv3.len
    simp only [List.set_cons_zero, List.set_cons_succ, List.eraseIdx_cons_zero, List.eraseIdx_cons_succ, List.cons_append, List.nil_append]
    have hle5' := hle4'.trans hle5
    refine K.l_nil ?_
    refine X.onE hKK ?_
    refine K.d_on rfl (fun KK hKK => ?_)
    refine K.s_take rfl rfl ?_
    refine K.l_callV (Fx.cal rfl) rfl (SameRows h5 _ _ es1 es3 (sortQ l) (sortQ (rowsQ s)) (hv1.le (hle4.trans hle5)) (hes1.mono fun r c hc => RowC.le hc (hle4.trans hle5)) hv3 hes3 (fun r hr => hrl r ((sortQ_perm l).subset hr)) (fun r hr => (hrows r ((sortQ_perm _).subset hr)).2) (by omega) (by omega)) (K.pp [] rfl) rfl rfl ?_
    simp only [List.nil_append]
    generalize hdd : decide (sortQ l = sortQ (rowsQ s)) = bq
    refine K.l_nil ?_
    refine X.onE hKK ?_
    first | refine K.d_skip rfl rfl rfl rfl ?_ | refine K.d_skipU rfl rfl rfl rfl rfl ?_ | refine K.d_puG rfl rfl rfl (fun _ _ => X.nt) rfl ?_
    refine K.d_pu rfl (fun _ _ => X.pk) rfl ?_
    refine K.d_nil ?_
    cases bq with
    | false =>
      have hbad : ∀ s', wfS s' → mayS s' = true → ¬ l.Perm (rowsQ s') := fun s' hw' hm' hp' => by
        have e := hone s' hw' hm' hp'
        subst e
        exact of_decide_eq_false hdd ((sortQ_rows (may0 hm) hp').trans (sortQ_rows (may0 hm) (.refl _)).symm)
      (repeat' (first | refine X.rq ?_ | (refine X.rc ?_ ?_ <;> intro hc <;> first | (exfalso; omega) | skip)))
      refine X.stw ?_
      simp only [List.set_cons_zero, List.set_cons_succ, List.eraseIdx_cons_zero, List.eraseIdx_cons_succ, List.cons_append, List.nil_append]
      (repeat' (first | refine X.rq ?_ | (refine X.rc ?_ ?_ <;> intro hc <;> first | (exfalso; omega) | skip)))
      refine K.doneC (.inl rfl) (.cell rfl (Fx.agg rfl) (Fx.sz rfl) (K.cels_own (pre := []) (post := []) 1 rfl rfl) (.tmp rfl .nil)) (hle1.trans hle5') (vs := [.agg [Value.slice none 0 0, Value.slice none 0 0].toArray, eV 5]) (D := [_, _]) (H' := []) rfl ⟨rfl, false, zSch, _, rfl, zSch_c _, zSch_wf, ⟨fun e => (by cases e), fun _ => ⟨rfl, hbad⟩⟩⟩
    | true =>
      have hp : l.Perm (rowsQ s) := (sortQ_perm l).symm.trans (of_decide_eq_true hdd ▸ sortQ_perm (rowsQ s))
      (repeat' (first | refine X.rq ?_ | (refine X.rc ?_ ?_ <;> intro hc <;> first | (exfalso; omega) | skip)))
      refine X.stw ?_
      simp only [List.set_cons_zero, List.set_cons_succ, List.eraseIdx_cons_zero, List.eraseIdx_cons_succ, List.cons_append, List.nil_append]
      (repeat' (first | refine X.rq ?_ | (refine X.rc ?_ ?_ <;> intro hc <;> first | (exfalso; omega) | skip)))
      refine K.doneC (.inl rfl) (.cell rfl (Fx.agg rfl) (Fx.sz rfl) (K.cels_own (pre := []) (post := []) 1 rfl rfl) (.tmp rfl .nil)) (hle1.trans hle5') (vs := [.agg [Value.slice at_ ts.length ct, Value.slice ai is.length ci].toArray, eV 0]) (D := [_, _]) (H' := []) rfl ⟨rfl, true, s, _, rfl, hsc.le hle5', hwf, ⟨fun _ => ⟨hm, hp⟩, fun e => (by cases e)⟩⟩
structure OwR where
  j : Nat
  hb : Base
  a : Option Nat
  k : Nat
  es : List (List Value)
set_option maxHeartbeats 4000000 in
theorem OwnRows (h : Base) (v : Value) (l : List (List Val)) (hv : RowsV h l v) (hrl : ∀ r ∈ l, r.length ≤ 4398046511104) (hl : l.length ≤ 10000) :
    Tr Try.prog 16 [v] h [] (fun u h' H' => H' = [] ∧ RowsV h' l u) := by
  obtain ⟨es0, hvl, hes0⟩ := hv
  obtain ⟨ao, ca, rfl⟩ := hvl.len
  rw [hes0.len] at hvl ⊢
  refine K.enter Try.func16 rfl (Nat.le_of_ble_eq_true rfl) (fun F => ?_)
  simp only [List.nil_append, List.cons_append]
  (repeat' (first | refine X.rq ?_ | (refine X.rc ?_ ?_ <;> intro hc <;> first | (exfalso; omega) | skip)))
  refine K.WC.nilBuf 65 1 ?_
  refine K.c_loop (σ := OwR) (fun q => [(0, .slice ao l.length ca), (3, bufV q.a q.j q.k), (4, .int .i64 q.j)]) (fun q => q.hb) (fun q => bufA 65 1 q.a q.j q.k q.es.flatten :: F)
    (fun q => q.j ≤ l.length ∧ h.le q.hb ∧ Each (RowC q.hb) q.es (l.take q.j)) (fun q => l.length - q.j) ⟨0, h, none, 0, []⟩ ⟨Nat.zero_le _, K.Base.le.refl _, Each.nil⟩ (by repeat (first | exact K.Sub.nil _ | refine K.Sub.cons rfl ?_)) rfl rfl ?_
  rintro ⟨j, hb, a, k, es⟩ ⟨hj, hle, hes⟩ KL hKL
  simp only at hj hle hes ⊢
  by_cases hjl : j < l.length
  · have hx1 : l[j]? = some l[j] := List.getElem?_eq_getElem hjl
    have hxl := hrl _ (List.getElem_mem hjl)
    generalize l[j] = r at hx1 hxl
    have htk := (take_at hx1).1
    obtain ⟨c, hc0, v1, rfl, hvr⟩ := hes0.get hx1
    have hlr : (r.map cV).length = r.length := List.length_map ..
    have hsrc : ∀ KK, Src Try.prog hb KK 3 v1 r.length (r.map cV).flatten := fun KK => by
      have := K.SL.src (P := Try.prog) (K := KK) (hvr.le hle) (fun e he => by
        obtain ⟨x, _, rfl⟩ := List.mem_map.1 he
        rfl)
      rwa [hlr] at this
    obtain ⟨bb, oo, rfl, hcx⟩ := (hvl.le hle).at hc0
    obtain ⟨av, cv, rfl⟩ := hvr.len
    (repeat' (first | refine X.rq ?_ | (refine X.rc ?_ ?_ <;> intro hc <;> first | (exfalso; omega) | skip)))
    refine K.l_buildSlice (Fx.und rfl) (Fx.sz rfl) rfl (Fx.zr rfl) rfl rfl rfl rfl rfl (fun B => ?_)
    refine K.WL.bufOf (m := 0) (s := 3) rfl (by unfold maxLen; omega) ?_
    (repeat' (first | refine X.rq ?_ | (refine X.rc ?_ ?_ <;> intro hc <;> first | (exfalso; omega) | skip)))
    refine K.s_pure (K.p_load (v := .slice av _ cv) (Fx.agg rfl) rfl (Cels.up hcx).1) rfl ?_
    refine K.l_append_at 0 rfl (Fx.und rfl) (Fx.und rfl) rfl (Fx.sz rfl) (Fx.zr rfl) rfl (Fx.byt rfl) rfl rfl (hsrc _) (by omega) (by omega) rfl (fun a1 k1 => ?_)
    simp only [List.set_cons_zero, List.set_cons_succ, List.eraseIdx_cons_zero, List.eraseIdx_cons_succ, List.cons_append, List.nil_append]
    simp only [Nat.zero_add, cellsL, List.nil_append]
    refine K.WL.freezeRowN (m := r.length) hlr.symm (threeV _) (fun h2 hle2 hs2 => ?_)
    refine K.l_buildSlice (Fx.und rfl) (Fx.sz rfl) rfl (Fx.zr rfl) rfl rfl rfl rfl rfl (fun B => ?_)
    refine K.l_append_at 1 rfl (Fx.und rfl) (Fx.und rfl) rfl (Fx.sz rfl) (Fx.zr rfl) rfl (Fx.byt rfl) rfl rfl (K.src_cells (K.cels_own (pre := []) (cs := [bufV a1 r.length k1]) (post := []) 0 rfl rfl) rfl (by simp [oneCell, bufV])) (by omega) (by omega) rfl (fun a3 k3 => ?_)
    simp only [List.set_cons_zero, List.set_cons_succ, List.eraseIdx_cons_zero, List.eraseIdx_cons_succ, List.cons_append, List.nil_append]
    (repeat' (first | refine X.rq ?_ | (refine X.rc ?_ ?_ <;> intro hc <;> first | (exfalso; omega) | skip)))
    have hee : Each (RowC h2) (es ++ [[bufV a1 r.length k1]]) (l.take (j + 1)) := by
      rw [htk]
      exact Each.snoc (hes.mono fun x c hc => RowC.le hc hle2) ⟨_, rfl, hs2⟩
    refine K.AT.sel [0] rfl ?_
    refine K.a_round hKL ⟨j + 1, h2, a3, k3, es ++ [[bufV a1 r.length k1]]⟩ ⟨by simp only; omega, hle.trans hle2, hee⟩ (by repeat (first | exact K.Sub.nil _ | refine K.Sub.cons rfl ?_)) rfl (by simp only; rw [List.flatten_append]; rfl) (by simp only; omega)
  · obtain rfl : j = l.length := by omega
    rw [List.take_length] at hes
    (repeat' (first | refine X.rq ?_ | (refine X.rc ?_ ?_ <;> intro hc <;> first | (exfalso; omega) | skip)))
    refine K.AT.perm (K.pp [0] rfl) (AT.freezeRowN (es := es) rfl hes.len.symm (Each.all hes fun x c hc => hc.one) (fun h3 hle3 hs3 => ?_))
    refine K.done (.inl rfl) rfl (hle.trans hle3) (H' := []) rfl ⟨rfl, es, hs3, hes.mono fun x c hc => RowC.le hc hle3⟩
end Go.Proofs.Ytdjacjhojbkgjaa.Ct
