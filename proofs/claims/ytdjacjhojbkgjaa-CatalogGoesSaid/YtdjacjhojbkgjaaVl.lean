/-
  A table's indexes: the code's and the document's; all heads and roots: the document's. Conditions: each theorem's own.
-/
import Derived.Test.YtdjacjhojbkgjaaVk

namespace Go.Proofs.Ytdjacjhojbkgjaa.Ct
open Go Go.K Go.Proofs Go.Proofs.Ytdjacjhojbkgjaa Go.Proofs.Ytdjacjhojbkgjaa.Rw
set_option linter.unusedVariables false
set_option linter.unusedSimpArgs false
set_option maxRecDepth 10000

abbrev onQ (s : PSch) (id : Nat) : List PIdx := s.idxs.filter fun x => decide (x.table = id)
set_option maxHeartbeats 4000000 in
theorem On (h : Base) (cs : List Value) (s : PSch) (id : Nat) (hs : SchC h s cs) (hw : wfS s) :
    Tr Try.prog 26 [.agg cs.toArray, .int .u32 id] h [] (fun u h' H' => H' = [] ∧ ∃ es, SL h' 6 u es ∧ Fsh h h' 6 u ∧ Each (IdxF h h') es (onQ s id)) := by
  obtain ⟨vt, vi, ts, is, rfl, hvt, ht, hvi, hi⟩ := hs
  obtain ⟨ai, ci, rfl⟩ := hvi.len
  rw [hi.len] at hvi ⊢
  have hli := hw.li
  refine K.enter Try.func26 rfl (Nat.le_of_ble_eq_true rfl) (fun F => ?_)
  simp only [List.nil_append, List.cons_append]
  (repeat' (first | refine X.rq ?_ | (refine X.rc ?_ ?_ <;> intro hc <;> first | (exfalso; omega) | skip)))
  refine K.l_box rfl rfl rfl (fun BS => ?_)
  (repeat' (first | refine X.rq ?_ | (refine X.rc ?_ ?_ <;> intro hc <;> first | (exfalso; omega) | skip)))
  refine K.WC.nilBuf 53 6 ?_
  refine K.c_loop (σ := OwX) (fun q => [(1, .int .u32 id), (5, bufV q.a2 ((s.idxs.take q.j).filter fun x => decide (x.table = id)).length q.k2), (9, .slice ai s.idxs.length ci), (10, .int .i64 s.idxs.length), (11, .int .i64 q.j)]) (fun q => q.hb)
    (fun q => bufA 53 6 q.a2 ((s.idxs.take q.j).filter fun x => decide (x.table = id)).length q.k2 q.es2.flatten :: blk BS 25 [vt, .slice ai s.idxs.length ci] :: F)
    (fun q => q.j ≤ s.idxs.length ∧ h.le q.hb ∧ Each (IdxF h q.hb) q.es2 ((s.idxs.take q.j).filter fun x => decide (x.table = id))) (fun q => s.idxs.length - q.j) ⟨0, h, none, 0, []⟩ ⟨Nat.zero_le _, K.Base.le.refl _, Each.nil⟩ (by repeat (first | exact K.Sub.nil _ | refine K.Sub.cons rfl ?_)) rfl rfl ?_
  rintro ⟨j, hb2, a2, k2, es2⟩ ⟨hj, hle, hes2⟩ KL hKL
  simp only at hj hle hes2 ⊢
  by_cases hjl : j < s.idxs.length
  · have hx1 : s.idxs[j]? = some s.idxs[j] := List.getElem?_eq_getElem hjl
    have hwt : wfIx s.idxs[j] := hw.idxs _ (List.getElem_mem hjl)
    generalize s.idxs[j] = t at hx1 hwt
    have hft := filter_take hx1 fun x => decide (x.table = id)
    obtain ⟨q, hc0, v1, rfl, hcv⟩ := hi.get hx1
    have hcl := CloneN hb2 v1 t.cols (hcv.le hle) hwt.len
    obtain ⟨av, cv, rfl⟩ := hcv.len
    obtain ⟨bb, oo, rfl, hcx⟩ := (hvi.le hle).at hc0
    have hfl := List.length_filter_le (fun x : PIdx => decide (x.table = id)) (s.idxs.take j)
    have htl := take_len (l := s.idxs) hj
    rw [htl] at hfl
    (repeat' (first | refine X.rq ?_ | (refine X.rc ?_ ?_ <;> intro hc <;> first | (exfalso; omega) | skip)))
    refine K.s_pure (K.p_loadM (Fx.agg rfl) rfl (Cels.up hcx) (Fx.sz rfl) rfl) rfl ?_
    refine K.l_alloc (Fx.zr rfl) rfl rfl (fun B9 => ?_)
    refine X.stw ?_
    simp only [List.set_cons_zero, List.set_cons_succ, List.eraseIdx_cons_zero, List.eraseIdx_cons_succ, List.cons_append, List.nil_append]
    by_cases hqt : t.table = id
    · simp only [decide_eq_true hqt, if_true] at hft
      (repeat' (first | refine X.rq ?_ | (refine X.rc ?_ ?_ <;> intro hc <;> first | (exfalso; omega) | skip)))
      all_goals first | (exfalso; omega) | skip
      refine K.l_call (Fx.cal rfl) rfl hcl (K.pp [] rfl) rfl ?_
      rintro u h' H' - ⟨e, a1, k1, rfl, rfl⟩
      obtain rfl := e.symm
      simp only [List.set_cons_zero, List.set_cons_succ, List.eraseIdx_cons_zero, List.eraseIdx_cons_succ, List.cons_append, List.nil_append]
      have hlr : (rowN t.cols).length = t.cols.length := List.length_map ..
      rw [← hlr]
      refine WL.freezeRowF (oneN _) (fun h2 hle3 hs2 _ hf2 => ?_)
      (repeat' (first | refine X.rq ?_ | (refine X.rc ?_ ?_ <;> intro hc <;> first | (exfalso; omega) | skip)))
      refine X.sto ?_
      simp only [List.set_cons_zero, List.set_cons_succ, List.eraseIdx_cons_zero, List.eraseIdx_cons_succ, List.cons_append, List.nil_append]
      (repeat' (first | refine X.rq ?_ | (refine X.rc ?_ ?_ <;> intro hc <;> first | (exfalso; omega) | skip)))
      have hee : Each (IdxF h h2) (es2 ++ [cIdx t (bufV a1 (rowN t.cols).length k1)]) (((s.idxs.take j).filter fun x => decide (x.table = id)) ++ [t]) := Each.snoc (Each.mono (fun x c hc => hc.le (K.Base.le.refl _) hle3) hes2) ⟨_, rfl, hs2, hf2.le hle (K.Base.le.refl _)⟩
      generalize hm : ((s.idxs.take j).filter fun x => decide (x.table = id)).length = m at hfl
      refine K.l_buildSlice (Fx.und rfl) (Fx.sz rfl) rfl (Fx.zr rfl) rfl rfl rfl rfl rfl (fun B => ?_)
      refine K.l_append_at 2 rfl (Fx.und rfl) (Fx.und rfl) rfl (Fx.sz rfl) (Fx.zr rfl) rfl (Fx.byt rfl) rfl rfl (K.src_cells (K.cels_own (pre := []) (cs := cIdx t (bufV a1 (rowN t.cols).length k1)) (post := []) 0 rfl rfl) rfl (by simp [oneCell, cIdx, bufV])) (by omega) (by omega) rfl (fun a3 k3 => ?_)
      simp only [List.set_cons_zero, List.set_cons_succ, List.eraseIdx_cons_zero, List.eraseIdx_cons_succ, List.cons_append, List.nil_append]
      (repeat' (first | refine X.rq ?_ | (refine X.rc ?_ ?_ <;> intro hc <;> first | (exfalso; omega) | skip)))
      refine K.AT.sel [0, 0] rfl ?_
      refine K.a_round hKL ⟨j + 1, h2, a3, k3, es2 ++ [cIdx t (bufV a1 (rowN t.cols).length k1)]⟩ ⟨by simp only; omega, hle.trans hle3, by simp only; rw [hft]; exact hee⟩ (by simp only; rw [hft, List.length_append, hm]; exact (by repeat (first | exact K.Sub.nil _ | refine K.Sub.cons rfl ?_))) rfl (by simp only; rw [hft, List.length_append, hm, List.flatten_append]; simp only [List.flatten_cons, List.flatten_nil, List.append_nil]; rfl) (by simp only; omega)
    · rw [if_neg (by simp [hqt]), List.append_nil] at hft
      (repeat' (first | refine X.rq ?_ | (refine X.rc ?_ ?_ <;> intro hc <;> first | (exfalso; omega) | skip)))
      all_goals first | (exfalso; omega) | skip
      refine K.AT.sel [0] rfl ?_
      refine K.a_round hKL ⟨j + 1, hb2, a2, k2, es2⟩ ⟨by simp only; omega, hle, by simp only; rw [hft]; exact hes2⟩ (by simp only; rw [hft]; exact (by repeat (first | exact K.Sub.nil _ | refine K.Sub.cons rfl ?_))) rfl (by simp only; rw [hft]; rfl) (by simp only; omega)
  · obtain rfl : j = s.idxs.length := by omega
    rw [List.take_length] at hes2 ⊢
    (repeat' (first | refine X.rq ?_ | (refine X.rc ?_ ?_ <;> intro hc <;> first | (exfalso; omega) | skip)))
    rw [← hes2.len]
    refine K.AT.perm (K.pp [0] rfl) (K.AT.freezeRowF (Each.all hes2 fun x c hc => hc.six) (fun h3 hle3 hs3 _ hf3 => ?_))
    simp only [List.set_cons_zero, List.set_cons_succ, List.eraseIdx_cons_zero, List.eraseIdx_cons_succ, List.cons_append, List.nil_append]
    refine K.AT.sel [0] rfl ?_
    refine K.done (.inl rfl) rfl (hle.trans hle3) (H' := []) rfl ⟨rfl, es2, hs3, hf3.le hle (K.Base.le.refl _), Each.mono (fun x c hc => hc.le (K.Base.le.refl _) hle3) hes2⟩
set_option maxHeartbeats 4000000 in
theorem ROn (h : Base) (cs : List Value) (s : PSch) (id : Nat) (hs : SchC h s cs) (hw : wfS s) :
    Tr Try.prog 29 [.agg cs.toArray, .int .u32 id] h [] (fun u h' H' => H' = [] ∧ ∃ es, SL h' 6 u es ∧ Each (IdxC h') es (onQ s id)) := by
  obtain ⟨vt, vi, ts, is, rfl, hvt, ht, hvi, hi⟩ := hs
  obtain ⟨ai, ci, rfl⟩ := hvi.len
  rw [hi.len] at hvi ⊢
  have hli := hw.li
  refine K.enter Try.func29 rfl (Nat.le_of_ble_eq_true rfl) (fun F => ?_)
  simp only [List.nil_append, List.cons_append]
  (repeat' (first | refine X.rq ?_ | (refine X.rc ?_ ?_ <;> intro hc <;> first | (exfalso; omega) | skip)))
  refine K.l_box rfl rfl rfl (fun BS => ?_)
  (repeat' (first | refine X.rq ?_ | (refine X.rc ?_ ?_ <;> intro hc <;> first | (exfalso; omega) | skip)))
  refine K.WC.nilBuf 53 6 ?_
  refine K.c_loop (σ := OwX) (fun q => [(1, .int .u32 id), (2, .pointer (some ⟨BS, 0, none⟩)), (5, bufV q.a2 ((s.idxs.take q.j).filter fun x => decide (x.table = id)).length q.k2), (6, .int .i64 q.j)]) (fun _ => h)
    (fun q => bufA 53 6 q.a2 ((s.idxs.take q.j).filter fun x => decide (x.table = id)).length q.k2 q.es2.flatten :: blk BS 25 [vt, .slice ai s.idxs.length ci] :: F)
    (fun q => q.j ≤ s.idxs.length ∧ Each (IdxC h) q.es2 ((s.idxs.take q.j).filter fun x => decide (x.table = id))) (fun q => s.idxs.length - q.j) ⟨0, h, none, 0, []⟩ ⟨Nat.zero_le _, Each.nil⟩ (by repeat (first | exact K.Sub.nil _ | refine K.Sub.cons rfl ?_)) rfl rfl ?_
  rintro ⟨j, hb2, a2, k2, es2⟩ ⟨hj, hes2⟩ KL hKL
  simp only at hj hes2 ⊢
  by_cases hjl : j < s.idxs.length
  · have hx1 : s.idxs[j]? = some s.idxs[j] := List.getElem?_eq_getElem hjl
    generalize s.idxs[j] = t at hx1
    have hft := filter_take hx1 fun x => decide (x.table = id)
    obtain ⟨q, hc0, v1, rfl, hcv⟩ := hi.get hx1
    obtain ⟨av, cv, rfl⟩ := hcv.len
    obtain ⟨bb, oo, rfl, hcx⟩ := hvi.at hc0
    have hfl := List.length_filter_le (fun x : PIdx => decide (x.table = id)) (s.idxs.take j)
    have htl := take_len (l := s.idxs) hj
    rw [htl] at hfl
    (repeat' (first | refine X.rq ?_ | (refine X.rc ?_ ?_ <;> intro hc <;> first | (exfalso; omega) | skip)))
    refine K.s_pure (K.p_load (v := .int .u32 t.table) (Fx.agg rfl) rfl (Cels.up hcx).2.1) rfl ?_
    by_cases hqt : t.table = id
    · simp only [decide_eq_true hqt, if_true] at hft
      (repeat' (first | refine X.rq ?_ | (refine X.rc ?_ ?_ <;> intro hc <;> first | (exfalso; omega) | skip)))
      all_goals first | (exfalso; omega) | skip
      refine K.s_pure (K.p_loadM (Fx.agg rfl) rfl (Cels.up hcx) (Fx.sz rfl) rfl) rfl ?_
      have hee : Each (IdxC h) (es2 ++ [cIdx t (.slice av (rowN t.cols).length cv)]) (((s.idxs.take j).filter fun x => decide (x.table = id)) ++ [t]) := Each.snoc hes2 ⟨_, rfl, hcv⟩
      generalize hm : ((s.idxs.take j).filter fun x => decide (x.table = id)).length = m at hfl
      refine K.l_buildSlice (Fx.und rfl) (Fx.sz rfl) rfl (Fx.zr rfl) rfl rfl rfl rfl rfl (fun B => ?_)
      refine K.l_append_at 1 rfl (Fx.und rfl) (Fx.und rfl) rfl (Fx.sz rfl) (Fx.zr rfl) rfl (Fx.byt rfl) rfl rfl (K.src_cells (K.cels_own (pre := []) (cs := cIdx t (.slice av (rowN t.cols).length cv)) (post := []) 0 rfl rfl) rfl (by simp [oneCell, cIdx])) (by omega) (by omega) rfl (fun a3 k3 => ?_)
      simp only [List.set_cons_zero, List.set_cons_succ, List.eraseIdx_cons_zero, List.eraseIdx_cons_succ, List.cons_append, List.nil_append]
      (repeat' (first | refine X.rq ?_ | (refine X.rc ?_ ?_ <;> intro hc <;> first | (exfalso; omega) | skip)))
      refine K.AT.sel [0] rfl ?_
      refine K.a_round hKL ⟨j + 1, h, a3, k3, es2 ++ [cIdx t (.slice av (rowN t.cols).length cv)]⟩ ⟨by simp only; omega, by simp only; rw [hft]; exact hee⟩ (by simp only; rw [hft, List.length_append, hm]; exact (by repeat (first | exact K.Sub.nil _ | refine K.Sub.cons rfl ?_))) rfl (by simp only; rw [hft, List.length_append, hm, List.flatten_append]; simp only [List.flatten_cons, List.flatten_nil, List.append_nil]; rfl) (by simp only; omega)
    · rw [if_neg (by simp [hqt]), List.append_nil] at hft
      (repeat' (first | refine X.rq ?_ | (refine X.rc ?_ ?_ <;> intro hc <;> first | (exfalso; omega) | skip)))
      all_goals first | (exfalso; omega) | skip
      refine K.a_round hKL ⟨j + 1, h, a2, k2, es2⟩ ⟨by simp only; omega, by simp only; rw [hft]; exact hes2⟩ (by simp only; rw [hft]; exact (by repeat (first | exact K.Sub.nil _ | refine K.Sub.cons rfl ?_))) rfl (by simp only; rw [hft]) (by simp only; omega)
  · obtain rfl : j = s.idxs.length := by omega
    rw [List.take_length] at hes2 ⊢
    (repeat' (first | refine X.rq ?_ | (refine X.rc ?_ ?_ <;> intro hc <;> first | (exfalso; omega) | skip)))
    rw [← hes2.len]
    refine K.AT.perm (K.pp [0] rfl) (K.AT.freezeRow (Each.all hes2 fun x c hc => hc.six) (fun h3 hle3 hs3 _ => ?_))
    simp only [List.set_cons_zero, List.set_cons_succ, List.eraseIdx_cons_zero, List.eraseIdx_cons_succ, List.cons_append, List.nil_append]
    refine K.AT.sel [0] rfl ?_
    refine K.done (.inl rfl) rfl hle3 (H' := []) rfl ⟨rfl, es2, hs3, Each.mono (fun x c hc => hc.le hle3) hes2⟩
/-- Pages, in memory. -/
def pgV (n : Nat) : Value := .int .u32 n
structure PgR where
  j : Nat
  a : Option Nat
  k : Nat
set_option maxHeartbeats 4000000 in
theorem RPages (h : Base) (cs : List Value) (s : PSch) (hs : SchC h s cs) (hw : wfS s) :
    Tr Try.prog 41 [.agg cs.toArray] h [] (fun u h' H' => H' = [] ∧ SL h' 1 u ((pagesQ s).map fun n => [pgV n])) := by
  obtain ⟨vt, vi, ts, is, rfl, hvt, ht, hvi, hi⟩ := hs
  obtain ⟨ao, ca, rfl⟩ := hvt.len
  rw [ht.len] at hvt ⊢
  obtain ⟨ai, ci, rfl⟩ := hvi.len
  rw [hi.len] at hvi ⊢
  have hlt := hw.lt
  have hli := hw.li
  refine K.enter Try.func41 rfl (Nat.le_of_ble_eq_true rfl) (fun F => ?_)
  simp only [List.nil_append, List.cons_append]
  (repeat' (first | refine X.rq ?_ | (refine X.rc ?_ ?_ <;> intro hc <;> first | (exfalso; omega) | skip)))
  refine K.l_box rfl rfl rfl (fun BS => ?_)
  (repeat' (first | refine X.rq ?_ | (refine X.rc ?_ ?_ <;> intro hc <;> first | (exfalso; omega) | skip)))
  refine K.WC.nilBuf 44 1 ?_
  refine K.c_loop (σ := PgR) (fun q => [(1, .pointer (some ⟨BS, 0, none⟩)), (3, bufV q.a q.j q.k), (4, .int .i64 q.j)]) (fun _ => h)
    (fun q => bufA 44 1 q.a q.j q.k (((pagesQ s).take q.j).map pgV) :: blk BS 25 [.slice ao s.tabs.length ca, .slice ai s.idxs.length ci] :: F)
    (fun q => q.j ≤ s.tabs.length) (fun q => s.tabs.length - q.j) ⟨0, none, 0⟩ (Nat.zero_le _) (by repeat (first | exact K.Sub.nil _ | refine K.Sub.cons rfl ?_)) rfl rfl ?_
  rintro ⟨j, a, k⟩ hj KL hKL
  simp only at hj ⊢
  by_cases hjl : j < s.tabs.length
  · have hx1 : s.tabs[j]? = some s.tabs[j] := List.getElem?_eq_getElem hjl
    generalize s.tabs[j] = t at hx1
    have hp1 : (pagesQ s)[j]? = some t.head := by
      rw [pagesQ, List.getElem?_append_left (by simpa using hjl), List.getElem?_map, hx1]
      rfl
    obtain ⟨htk, _⟩ := take_at hp1
    obtain ⟨q, hc0, v1, rfl, hcv⟩ := ht.get hx1
    obtain ⟨bb, oo, rfl, hcx⟩ := hvt.at hc0
    (repeat' (first | refine X.rq ?_ | (refine X.rc ?_ ?_ <;> intro hc <;> first | (exfalso; omega) | skip)))
    refine K.s_pure (K.p_load (v := .int .u32 t.head) (Fx.agg rfl) rfl (Cels.up hcx).2.2.2.1) rfl ?_
    refine K.l_buildSlice (Fx.und rfl) (Fx.sz rfl) rfl (Fx.zr rfl) rfl rfl rfl rfl rfl (fun B => ?_)
    refine K.l_append_at 1 rfl (Fx.und rfl) (Fx.und rfl) rfl (Fx.sz rfl) (Fx.zr rfl) rfl (Fx.byt rfl) rfl rfl (K.src_cells (K.cels_own (pre := []) (cs := [pgV t.head]) (post := []) 0 rfl rfl) rfl (by simp [oneCell, pgV])) (by omega) (by omega) rfl (fun a3 k3 => ?_)
    simp only [List.set_cons_zero, List.set_cons_succ, List.eraseIdx_cons_zero, List.eraseIdx_cons_succ, List.cons_append, List.nil_append]
    (repeat' (first | refine X.rq ?_ | (refine X.rc ?_ ?_ <;> intro hc <;> first | (exfalso; omega) | skip)))
    refine K.AT.sel [0] rfl ?_
    refine K.a_round hKL ⟨j + 1, a3, k3⟩ (by simp only; omega) (by repeat (first | exact K.Sub.nil _ | refine K.Sub.cons rfl ?_)) rfl (by simp only; rw [htk, List.map_append]; rfl) (by simp only; omega)
  · obtain rfl : j = s.tabs.length := by omega
    (repeat' (first | refine X.rq ?_ | (refine X.rc ?_ ?_ <;> intro hc <;> first | (exfalso; omega) | skip)))
    refine K.c_loop (σ := PgR) (fun q => [(1, .pointer (some ⟨BS, 0, none⟩)), (3, bufV q.a (s.tabs.length + q.j) q.k), (5, .int .i64 q.j)]) (fun _ => h)
      (fun q => bufA 44 1 q.a (s.tabs.length + q.j) q.k (((pagesQ s).take (s.tabs.length + q.j)).map pgV) :: blk BS 25 [.slice ao s.tabs.length ca, .slice ai s.idxs.length ci] :: F)
      (fun q => q.j ≤ s.idxs.length) (fun q => s.idxs.length - q.j) ⟨0, a, k⟩ (Nat.zero_le _) (by repeat (first | exact K.Sub.nil _ | refine K.Sub.cons rfl ?_)) rfl rfl ?_
    clear hKL KL hj hjl
    rintro ⟨j, a, k⟩ hj KL hKL
    simp only at hj ⊢
    by_cases hjl : j < s.idxs.length
    · have hx1 : s.idxs[j]? = some s.idxs[j] := List.getElem?_eq_getElem hjl
      generalize s.idxs[j] = t at hx1
      have hp1 : (pagesQ s)[s.tabs.length + j]? = some t.root := by
        rw [pagesQ, List.getElem?_append_right (by simp), List.length_map, Nat.add_sub_cancel_left, List.getElem?_map, hx1]
        rfl
      obtain ⟨htk, _⟩ := take_at hp1
      obtain ⟨q, hc0, v1, rfl, hcv⟩ := hi.get hx1
      obtain ⟨bb, oo, rfl, hcx⟩ := hvi.at hc0
      (repeat' (first | refine X.rq ?_ | (refine X.rc ?_ ?_ <;> intro hc <;> first | (exfalso; omega) | skip)))
      refine K.s_pure (K.p_load (v := .int .u32 t.root) (Fx.agg rfl) rfl (Cels.up hcx).2.2.2.2.2.1) rfl ?_
      refine K.l_buildSlice (Fx.und rfl) (Fx.sz rfl) rfl (Fx.zr rfl) rfl rfl rfl rfl rfl (fun B => ?_)
      refine K.l_append_at 1 rfl (Fx.und rfl) (Fx.und rfl) rfl (Fx.sz rfl) (Fx.zr rfl) rfl (Fx.byt rfl) rfl rfl (K.src_cells (K.cels_own (pre := []) (cs := [pgV t.root]) (post := []) 0 rfl rfl) rfl (by simp [oneCell, pgV])) (by omega) (by omega) rfl (fun a3 k3 => ?_)
      simp only [List.set_cons_zero, List.set_cons_succ, List.eraseIdx_cons_zero, List.eraseIdx_cons_succ, List.cons_append, List.nil_append]
      (repeat' (first | refine X.rq ?_ | (refine X.rc ?_ ?_ <;> intro hc <;> first | (exfalso; omega) | skip)))
      refine K.AT.sel [0] rfl ?_
      refine K.a_round hKL ⟨j + 1, a3, k3⟩ (by simp only; omega) (by repeat (first | exact K.Sub.nil _ | refine K.Sub.cons rfl ?_)) rfl (by simp only; rw [← Nat.add_assoc, htk, List.map_append]; rfl) (by simp only; omega)
    · obtain rfl : j = s.idxs.length := by omega
      have hfull : (pagesQ s).take (s.tabs.length + s.idxs.length) = pagesQ s := List.take_of_length_le (by simp [pagesQ])
      have hpl : (pagesQ s).length = s.tabs.length + s.idxs.length := by simp [pagesQ]
      have hfl : (pagesQ s).map pgV = ((pagesQ s).map fun n => [pgV n]).flatten := by
        induction pagesQ s with
        | nil => rfl
        | cons x r ih => simp [ih]
      have hml : s.tabs.length + s.idxs.length = ((pagesQ s).map fun n => [pgV n]).length := by rw [List.length_map, hpl]
      rw [hfull, hfl, hml]
      (repeat' (first | refine X.rq ?_ | (refine X.rc ?_ ?_ <;> intro hc <;> first | (exfalso; omega) | skip)))
      refine K.AT.perm (K.pp [0] rfl) (K.AT.freezeRow (fun e he => by obtain ⟨x, _, rfl⟩ := List.mem_map.1 he; rfl) (fun h3 hle3 hs3 _ => ?_))
      simp only [List.set_cons_zero, List.set_cons_succ, List.eraseIdx_cons_zero, List.eraseIdx_cons_succ, List.cons_append, List.nil_append]
      refine K.AT.sel [0] rfl ?_
      refine K.done (.inl rfl) rfl hle3 (H' := []) rfl ⟨rfl, hs3⟩
end Go.Proofs.Ytdjacjhojbkgjaa.Ct
