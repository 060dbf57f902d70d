/-
  The schema that rows say: the code's Read walked. Conditions: each theorem's own.
-/
import Derived.Test.YtdjacjhojbkgjaaGreatQ33
namespace Go.Proofs.YtdjacjhojbkgjaaGreat.Ct
open Go Go.K Go.Proofs Go.Proofs.YtdjacjhojbkgjaaGreat Go.Proofs.YtdjacjhojbkgjaaGreat.Rw
set_option linter.unusedVariables false
set_option linter.unusedSimpArgs false
set_option maxRecDepth 10000

theorem wfC_cols : ∀ c ∈ colsC, wfC c := fun c hc => by
  simp only [colsC, List.mem_cons, List.mem_nil_iff, or_false] at hc
  rcases hc with rfl | rfl | rfl | rfl | rfl | rfl <;> exact ⟨by decide, by decide, by decide⟩
theorem Each.ones {h : Base} {es : List (List Value)} {l : List (List Val)} (he : Each (RowC h) es l) : ∀ e ∈ es, ones e = true := he.all fun r c hc => by
  obtain ⟨v, rfl, hs⟩ := hc
  obtain ⟨a, k, rfl⟩ := hs.len
  rfl
structure RdS where
  j : Nat
  hb : Base
structure RdP where
  j : Nat
  a : Option Nat
  k : Nat
  a2 : Option Nat
  k2 : Nat
  ot : List Ot
  ox : List Ox
set_option maxHeartbeats 4000000 in
theorem Read (h : Base) (v : Value) (l : List (List Val)) (hv : RowsV h l v) (hw : ∀ r ∈ l, ∀ x ∈ r, wfV x) (hrl : ∀ r ∈ l, r.length ≤ 9223372036854775807) (hl : l.length ≤ 10000) :
    Tr Tryz.prog 20 [v] h [] (fun u h' H' => H' = [] ∧ ∃ ok s cs, u = .tuple #[.agg cs.toArray, eV (if ok then 0 else 5)] ∧ SchC h' s cs ∧ wfS s ∧ ReadP l ok s) := by
  obtain ⟨es, hv, hes⟩ := hv
  have hv0 := hv
  obtain ⟨ao, ca, rfl⟩ := hv.len
  rw [hes.len] at hv hv0 ⊢
  refine K.enter Tryz.func20 rfl (Nat.le_of_ble_eq_true rfl) (fun F => ?_)
  simp only [List.nil_append, List.cons_append]
  (repeat' (first | refine X.rq ?_ | (refine X.rc ?_ ?_ <;> intro hc <;> first | (exfalso; omega) | skip)))
  refine K.l_alloc (Fx.zr rfl) rfl rfl (fun BR => ?_)
  (repeat' (first | refine X.rq ?_ | (refine X.rc ?_ ?_ <;> intro hc <;> first | (exfalso; omega) | skip)))
  have bad : ∀ (hb : Base) (E : Env) (H2 : List Asrt), h.le hb → K.lk E 2 = some (.pointer (some ⟨BR, 0, none⟩)) → K.lk E 3 = some (eV 5) → (∀ s', wfS s' → mayS s' = true → ¬ l.Perm (rowsQ s')) →
      AT Tryz.prog Tryz.f20.ntmps (K.post Tryz.prog Tryz.f20 fun v w' => ∃ h' H', h.le h' ∧ (H' = [] ∧ ∃ ok s cs, v = .tuple #[.agg cs.toArray, eV (if ok then 0 else 5)] ∧ SchC h' s cs ∧ wfS s ∧ ReadP l ok s) ∧ Ok h' (H' ++ F) w') .ret E hb (blk BR 25 [.slice none 0 0, .slice none 0 0] :: (H2 ++ F)) := fun hb E H2 hle hE hE3 hno =>
    K.doneC (.inl rfl) (.cell hE (Fx.agg rfl) (Fx.sz rfl) (K.cels_own (pre := []) (post := []) 0 rfl rfl) (.tmp hE3 .nil)) hle (vs := [.agg [Value.slice none 0 0, Value.slice none 0 0].toArray, eV 5]) (D := blk BR 25 [.slice none 0 0, .slice none 0 0] :: H2) (H' := []) rfl ⟨rfl, false, zSch, _, rfl, zSch_c hb, zSch_wf, ⟨fun e => (by cases e), fun _ => ⟨rfl, hno⟩⟩⟩
  refine K.c_loop (σ := RdS) (fun q => [(0, .slice ao l.length ca), (2, .pointer (some ⟨BR, 0, none⟩)), (11, .slice ao l.length ca), (12, .int .i64 l.length), (13, .int .i64 q.j)]) (fun q => q.hb) (fun _ => blk BR 25 [.slice none 0 0, .slice none 0 0] :: F)
    (fun q => q.j ≤ l.length ∧ h.le q.hb ∧ ∀ (i : Nat) (r : List Val), i < q.j → l[i]? = some r → fitsE colsC r = 0) (fun q => l.length - q.j) ⟨0, h⟩ ⟨Nat.zero_le _, K.Base.le.refl _, fun i r hi => absurd hi (Nat.not_lt_zero _)⟩ (by repeat (first | exact K.Sub.nil _ | refine K.Sub.cons rfl ?_)) rfl rfl ?_
  rintro ⟨j, hb⟩ ⟨hj, hle, hfit⟩ KL hKL
  simp only at hj hle hfit ⊢
  by_cases hjl : j < l.length
  · have hx1 : l[j]? = some l[j] := List.getElem?_eq_getElem hjl
    have hxw := hw _ (List.getElem_mem hjl)
    have hxl := hrl _ (List.getElem_mem hjl)
    generalize l[j] = r at hx1 hxw hxl
    obtain ⟨c, hc0, v1, rfl, hv1⟩ := hes.get hx1
    obtain ⟨bb, oo, rfl, hcx⟩ := (hv.le hle).at hc0
    have hv1' := hv1
    obtain ⟨av, cv, rfl⟩ := hv1'.len
    (repeat' (first | refine X.rq ?_ | (refine X.rc ?_ ?_ <;> intro hc <;> first | (exfalso; omega) | skip)))
    refine K.s_pure (K.p_load (v := .slice av _ cv) (Fx.agg rfl) rfl (Cels.up hcx).1) rfl ?_
    (repeat' (first | refine X.rq ?_ | (refine X.rc ?_ ?_ <;> intro hc <;> first | (exfalso; omega) | skip)))
    refine K.l_call (Fx.cal rfl) rfl (Cols hb) (K.pp [] rfl) rfl ?_
    rintro u h1 H' hle1 ⟨rfl, a, rfl, hcs⟩
    simp only [List.set_cons_zero, List.set_cons_succ, List.eraseIdx_cons_zero, List.eraseIdx_cons_succ, List.cons_append, List.nil_append]
    (repeat' (first | refine X.rq ?_ | (refine X.rc ?_ ?_ <;> intro hc <;> first | (exfalso; omega) | skip)))
    refine K.l_callV (Fx.cal rfl) rfl (Fits h1 [] _ _ colsC r hcs (hv1.le (hle.trans hle1)).k wfC_cols hxw (by decide) hxl) (K.pp [] rfl) rfl rfl ?_
    simp only [List.nil_append]
    by_cases hf : fitsE colsC r = 0
    · rw [hf]
      (repeat' (first | refine X.rq ?_ | (refine X.rc ?_ ?_ <;> intro hc <;> first | (exfalso; omega) | skip)))
      all_goals first | (exfalso; simp_all; done) | skip
      refine K.a_round hKL ⟨j + 1, h1⟩ ⟨by simp only; omega, hle.trans hle1, fun i r' hi hr' => ?_⟩ (by repeat (first | exact K.Sub.nil _ | refine K.Sub.cons rfl ?_)) rfl rfl (by simp only; omega)
      by_cases hij : i < j
      · exact hfit i r' hij hr'
      · obtain rfl : i = j := by simp only at hi; omega
        rw [hx1] at hr'
        cases hr'
        exact hf
    · have hne : decide (fitsE colsC r ≠ 0) = true := decide_eq_true hf
      have hbad : ∀ s', wfS s' → mayS s' = true → ¬ l.Perm (rowsQ s') := fun s' _ hm hp => hf (rows_fit (may0 hm) r (hp.subset (List.mem_of_getElem? hx1)))
      unfold eV
      generalize fitsE colsC r = fe at hf hne
      (repeat' (first | refine X.rq ?_ | (refine X.rc ?_ ?_ <;> intro hc <;> first | (exfalso; omega) | skip)))
      all_goals first | (exfalso; simp_all; done) | skip
      refine X.stw ?_
      simp only [List.set_cons_zero, List.set_cons_succ, List.eraseIdx_cons_zero, List.eraseIdx_cons_succ, List.cons_append, List.nil_append]
      (repeat' (first | refine X.rq ?_ | (refine X.rc ?_ ?_ <;> intro hc <;> first | (exfalso; omega) | skip)))
      refine bad h1 _ [] (hle.trans hle1) rfl rfl hbad
  · obtain rfl : j = l.length := by omega
    have hall : ∀ r ∈ l, fitsE colsC r = 0 := fun r hr => by
      obtain ⟨i, hi⟩ := List.mem_iff_getElem?.1 hr
      exact hfit i r (List.getElem?_eq_some_iff.1 hi).1 hi
    have h6 : ∀ r ∈ l, r.length = 6 := fun r hr => fits_six (hall r hr)
    (repeat' (first | refine X.rq ?_ | (refine X.rc ?_ ?_ <;> intro hc <;> first | (exfalso; omega) | skip)))
    clear hKL KL hj hjl hfit
    refine K.l_call (Fx.cal rfl) rfl (CloneR hb _ es (hv.le hle) (Each.ones hes) (by rw [hes.len]; omega)) (K.pp [] rfl) rfl ?_
    rintro u h' H' - ⟨e, a, k, rfl, rfl⟩
    obtain rfl := e.symm
    simp only [List.set_cons_zero, List.set_cons_succ, List.eraseIdx_cons_zero, List.eraseIdx_cons_succ, List.cons_append, List.nil_append]
    rw [hes.len]
    (repeat' (first | refine X.rq ?_ | (refine X.rc ?_ ?_ <;> intro hc <;> first | (exfalso; omega) | skip)))
    refine K.l_call (Fx.cal rfl) rfl (SortR hb a l.length k l es (hes.mono fun r c hc => hc.le hle) h6 rfl (by omega)) (K.pp [0] rfl) rfl ?_
    rintro u h' H' - ⟨e, rfl, l', es', hp, hr, hes', rfl⟩
    obtain rfl := e
    simp only [List.set_cons_zero, List.set_cons_succ, List.eraseIdx_cons_zero, List.eraseIdx_cons_succ, List.cons_append, List.nil_append]
    have hll : l'.length = l.length := hp.length_eq
    refine K.WL.freezeRowN (m := l.length) (by rw [← hll, hes'.len]) (Each.all hes' fun x c hc => hc.one) (fun h2 hle2 hs2 => ?_)
    have hes2 := hes'.mono fun r c hc => RowC.le hc hle2
    have hone : ∀ s', wfS s' → mayS s' = true → l.Perm (rowsQ s') → l' = sortedQ s' ∧ putAll l' zSch = some s' := fun s' hw' hm' hp' => by
      have e := sorted_one (may0 hm') (hp.trans hp') hr
      exact ⟨e, by rw [e]; exact put_sorted (may0 hm') hw'⟩
    have hlw : ∀ r ∈ l', (∀ x ∈ r, wfV x) ∧ r.length = 6 := fun r hr => ⟨hw r (hp.subset hr), h6 r (hp.subset hr)⟩
    rw [← hll] at hs2 ⊢
    (repeat' (first | refine X.rq ?_ | (refine X.rc ?_ ?_ <;> intro hc <;> first | (exfalso; omega) | skip)))
    refine K.l_alloc (Fx.zr rfl) rfl rfl (fun BO => ?_)
    (repeat' (first | refine X.rq ?_ | (refine X.rc ?_ ?_ <;> intro hc <;> first | (exfalso; omega) | skip)))
    refine K.WC.close [] (K.WC.close [] (K.WC.nilBuf 43 6 (K.WC.nilBuf 37 4 (K.WC.perm (K.pp [4] rfl) ?_))))
    simp only [List.set_cons_zero, List.set_cons_succ, List.eraseIdx_cons_zero, List.eraseIdx_cons_succ, List.cons_append, List.nil_append]
    refine K.c_loop (σ := RdP) (fun q => [(2, .pointer (some ⟨BR, 0, none⟩)), (6, bufV a l'.length k), (7, .pointer (some ⟨BO, 0, none⟩)), (27, bufV a l'.length k), (28, .int .i64 l'.length), (29, .int .i64 q.j)]) (fun _ => h2) (fun q => schO BO q.a q.k q.a2 q.k2 q.ot q.ox ++ blk BR 25 [.slice none 0 0, .slice none 0 0] :: F)
      (fun q => q.j ≤ l'.length ∧ putAll (l'.take q.j) zSch = some (schP q.ot q.ox) ∧ PutI (schP q.ot q.ox) q.j) (fun q => l'.length - q.j) ⟨0, none, 0, none, 0, [], []⟩ ⟨Nat.zero_le _, rfl, PutI.zero⟩ (by repeat (first | exact K.Sub.nil _ | refine K.Sub.cons rfl ?_)) rfl rfl ?_
    rintro ⟨j, ta, tk, xa, xk, ot, ox⟩ ⟨hj, hput, hinv⟩ KL hKL
    simp only at hj hput hinv ⊢
    by_cases hjl : j < l'.length
    · have hx1 : l'[j]? = some l'[j] := List.getElem?_eq_getElem hjl
      obtain ⟨hxw, hx6⟩ := hlw _ (List.getElem_mem hjl)
      generalize l'[j] = r at hx1 hxw hx6
      obtain ⟨htk, rest, hrest⟩ := take_at hx1
      obtain ⟨c, hc0, v1, rfl, hv1⟩ := hes2.get hx1
      obtain ⟨bb, oo, e1, hcx⟩ := hs2.at hc0
      have hpu := Put h2 BO ta tk xa xk ot ox v1 r hv1 hx6 (by have := hinv.lt; simp at this; omega) (by have := hinv.li; simp at this; omega) (fun x hx => by have := (hinv.tabs x.t (List.mem_map.2 ⟨x, hx, rfl⟩)).2.2.2.1; omega) (fun x hx => by have := (hinv.idxs x.x (List.mem_map.2 ⟨x, hx, rfl⟩)).2.2.2.2.1; omega)
      obtain ⟨av, cv, rfl⟩ := hv1.len
      have hbv : bufV a l'.length k = .slice (some ⟨bb, oo, none⟩) l'.length k := by rw [bufV, e1]
      rw [hbv]
      (repeat' (first | refine X.rq ?_ | (refine X.rc ?_ ?_ <;> intro hc <;> first | (exfalso; omega) | skip)))
      refine K.s_pure (K.p_load (v := .slice av _ cv) (Fx.agg rfl) rfl (Cels.up hcx).1) rfl ?_
      (repeat' (first | refine X.rq ?_ | (refine X.rc ?_ ?_ <;> intro hc <;> first | (exfalso; omega) | skip)))
      refine K.l_call (Fx.cal rfl) rfl hpu (K.pp [0, 0, 0, 0, 0] rfl) rfl ?_
      rintro u h' H' - ⟨e, ta', tk', xa', xk', ot', ox', rfl, rfl, hsome⟩
      obtain rfl := e.symm
      simp only [schO, List.cons_append, List.nil_append]
      cases hq : putQ (schP ot ox) r with
      | none =>
        have hbad : ∀ s', wfS s' → mayS s' = true → ¬ l.Perm (rowsQ s') := fun s' hw' hm' hp' => by
          have := (hone s' hw' hm' hp').2
          rw [hrest, putAll_append, hput] at this
          simp only [Option.bind_some, putAll, hq] at this
          cases this
        simp only [Option.isSome_none]
        (repeat' (first | refine X.rq ?_ | (refine X.rc ?_ ?_ <;> intro hc <;> first | (exfalso; omega) | skip)))
        refine X.stw ?_
        simp only [List.set_cons_zero, List.set_cons_succ, List.eraseIdx_cons_zero, List.eraseIdx_cons_succ, List.cons_append, List.nil_append]
        (repeat' (first | refine X.rq ?_ | (refine X.rc ?_ ?_ <;> intro hc <;> first | (exfalso; omega) | skip)))
        refine K.AT.perm (K.pp [5] rfl) ?_
        simp only [List.set_cons_zero, List.set_cons_succ, List.eraseIdx_cons_zero, List.eraseIdx_cons_succ, List.cons_append, List.nil_append]
        exact bad h2 _ [_, _, _, _, _] (hle.trans hle2) rfl rfl hbad
      | some s' =>
        have e2 := hsome s' hq
        have hinv' := hinv.put hxw hq
        subst e2
        simp only [Option.isSome_some]
        (repeat' (first | refine X.rq ?_ | (refine X.rc ?_ ?_ <;> intro hc <;> first | (exfalso; omega) | skip)))
        refine K.a_round hKL ⟨j + 1, ta', tk', xa', xk', ot', ox'⟩ ⟨by simp only; omega, by simp only; rw [htk, putAll_append, hput]; simp only [Option.bind_some, putAll, hq], hinv'⟩ (by rw [hbv]; exact (by repeat (first | exact K.Sub.nil _ | refine K.Sub.cons rfl ?_))) rfl rfl (by simp only; omega)
    · obtain rfl : j = l'.length := by omega
      rw [List.take_length] at hput
      have hwf := hinv.wf (by omega)
      clear hjl hj
      (repeat' (first | refine X.rq ?_ | (refine X.rc ?_ ?_ <;> intro hc <;> first | (exfalso; omega) | skip)))
      clear hKL KL
      simp only [schO, List.cons_append, List.nil_append]
      refine K.WL.perm (K.pp [1, 1, 1, 1] rfl) (K.WL.freezeA (fun h3 hle3 hsays => ?_))
      simp only [List.set_cons_zero, List.set_cons_succ, List.eraseIdx_cons_zero, List.eraseIdx_cons_succ, List.cons_append, List.nil_append]
      have hsch := says_sch hsays
      have honly : ∀ s', wfS s' → mayS s' = true → l.Perm (rowsQ s') → s' = schP ot ox := fun s' hw' hm' hp' => by
        have := (hone s' hw' hm' hp').2
        rw [hput] at this
        cases this
        rfl
      generalize schP ot ox = s0 at hsch hwf hput honly
      refine K.l_call (Fx.cal rfl) rfl (MayS h3 _ s0 hsch hwf) (K.pp [] rfl) rfl ?_
      rintro u h4 H' hle4 ⟨rfl, rfl⟩
      simp only [List.set_cons_zero, List.set_cons_succ, List.eraseIdx_cons_zero, List.eraseIdx_cons_succ, List.cons_append, List.nil_append]
      cases hm : mayS s0 with
      | false =>
        have hbad : ∀ s', wfS s' → mayS s' = true → ¬ l.Perm (rowsQ s') := fun s' hw' hm' hp' => by
          rw [honly s' hw' hm' hp', hm] at hm'
          cases hm'
        (repeat' (first | refine X.rq ?_ | (refine X.rc ?_ ?_ <;> intro hc <;> first | (exfalso; omega) | skip)))
        refine X.stw ?_
        simp only [List.set_cons_zero, List.set_cons_succ, List.eraseIdx_cons_zero, List.eraseIdx_cons_succ, List.cons_append, List.nil_append]
        (repeat' (first | refine X.rq ?_ | (refine X.rc ?_ ?_ <;> intro hc <;> first | (exfalso; omega) | skip)))
        refine K.AT.perm (K.pp [1] rfl) ?_
        simp only [List.set_cons_zero, List.set_cons_succ, List.eraseIdx_cons_zero, List.eraseIdx_cons_succ, List.cons_append, List.nil_append]
        exact bad h4 _ [_] (hle.trans (hle2.trans (hle3.trans hle4))) rfl rfl hbad
      | true =>
        have hrn := rows_len hm
        (repeat' (first | refine X.rq ?_ | (refine X.rc ?_ ?_ <;> intro hc <;> first | (exfalso; omega) | skip)))
        refine K.l_call (Fx.cal rfl) rfl (All h4 _) (K.pp [] rfl) rfl ?_
        rintro u h' H' - ⟨e, B1, rfl, rfl⟩
        obtain rfl := e.symm
        simp only [List.set_cons_zero, List.set_cons_succ, List.eraseIdx_cons_zero, List.eraseIdx_cons_succ, List.cons_append, List.nil_append]
        (repeat' (first | refine X.rq ?_ | (refine X.rc ?_ ?_ <;> intro hc <;> first | (exfalso; omega) | skip)))
        refine K.l_call (Fx.cal rfl) rfl (SortedR h4 _ [.pointer (some ⟨B1, 0, none⟩)] _ (rowsQ s0) (AllI h4 _ s0 B1 (hsch.le hle4) hwf) (Fx.cal rfl) (by omega) rows_six) (K.pp [0] rfl) rfl ?_
        rintro u h5 H' hle5 ⟨wa, wk, wl, wes, rfl, hwp, hwr, hwes, rfl⟩
        simp only [List.set_cons_zero, List.set_cons_succ, List.eraseIdx_cons_zero, List.eraseIdx_cons_succ, List.cons_append, List.nil_append]
        have hwl : wl.length = (rowsQ s0).length := hwp.length_eq
        refine K.WL.freezeRowN (m := (rowsQ s0).length) (by rw [← hwl, hwes.len]) (Each.all hwes fun x c hc => hc.one) (fun h6 hle6 hs6 => ?_)
        have hle26 := hle3.trans (hle4.trans (hle5.trans hle6))
        have hlew : ∀ r ∈ wl, r.length ≤ 9223372036854775807 := fun r hr => by have := rows_six r (hwp.subset hr); omega
        (repeat' (first | refine X.rq ?_ | (refine X.rc ?_ ?_ <;> intro hc <;> first | (exfalso; omega) | skip)))
        refine K.l_callV (Fx.cal rfl) rfl (EqualRows h6 _ _ es' wes l' wl (hs2.le hle26) (hes2.mono fun r c hc => hc.le hle26) hs6 (hwes.mono fun r c hc => hc.le hle6) (fun r hr => by have := (hlw r hr).2; omega) hlew (by omega) (by omega)) (K.pp [] rfl) rfl rfl ?_
        simp only [List.nil_append]
        have hled := hle.trans (hle2.trans hle26)
        by_cases heq : l' = wl
        · rw [decide_eq_true heq]
          (repeat' (first | refine X.rq ?_ | (refine X.rc ?_ ?_ <;> intro hc <;> first | (exfalso; omega) | skip)))
          refine X.stw ?_
          simp only [List.set_cons_zero, List.set_cons_succ, List.eraseIdx_cons_zero, List.eraseIdx_cons_succ, List.cons_append, List.nil_append]
          (repeat' (first | refine X.rq ?_ | (refine X.rc ?_ ?_ <;> intro hc <;> first | (exfalso; omega) | skip)))
          refine K.doneC (.inl rfl) (.cell rfl (Fx.agg rfl) (Fx.sz rfl) (K.cels_own (pre := []) (post := []) 2 rfl rfl) (.tmp rfl .nil)) hled (vs := [.agg [bufV ta ot.length tk, bufV xa ox.length xk].toArray, eV 0]) (D := [_, _, _]) (H' := []) rfl ⟨rfl, true, s0, _, rfl, hsch.le (hle4.trans (hle5.trans hle6)), hwf, ⟨fun _ => ⟨hm, hp.symm.trans (heq ▸ hwp)⟩, fun e => (by cases e)⟩⟩
        · have hbad : ∀ s', wfS s' → mayS s' = true → ¬ l.Perm (rowsQ s') := fun s' hw' hm' hp' => by
            have e1 := honly s' hw' hm' hp'
            have e2 := (hone s' hw' hm' hp').1
            subst e1
            exact heq (e2.trans (sorted_one (may0 hm) hwp hwr).symm)
          rw [decide_eq_false heq]
          (repeat' (first | refine X.rq ?_ | (refine X.rc ?_ ?_ <;> intro hc <;> first | (exfalso; omega) | skip)))
          refine X.stw ?_
          simp only [List.set_cons_zero, List.set_cons_succ, List.eraseIdx_cons_zero, List.eraseIdx_cons_succ, List.cons_append, List.nil_append]
          (repeat' (first | refine X.rq ?_ | (refine X.rc ?_ ?_ <;> intro hc <;> first | (exfalso; omega) | skip)))
          refine K.AT.perm (K.pp [2] rfl) ?_
          simp only [List.set_cons_zero, List.set_cons_succ, List.eraseIdx_cons_zero, List.eraseIdx_cons_succ, List.cons_append, List.nil_append]
          exact bad h6 _ [_, _] hled rfl rfl hbad
end Go.Proofs.YtdjacjhojbkgjaaGreat.Ct
