/-
  A schema in memory of its own; a table's indexes: the document's and the code's. Conditions: each theorem's own.
-/
import Derived.Test.YtdjacjhojbkgjaaGreatQ20
namespace Go.Proofs.YtdjacjhojbkgjaaGreat.Ct
open Go Go.K Go.Proofs Go.Proofs.YtdjacjhojbkgjaaGreat Go.Proofs.YtdjacjhojbkgjaaGreat.Rw
set_option linter.unusedVariables false
set_option linter.unusedSimpArgs false
set_option maxRecDepth 10000

theorem TabC.four {h : Base} {t : PTab} {c : List Value} (hc : TabC h t c) : c.length = 4 := by
  obtain ⟨v, rfl, hs⟩ := hc
  rfl
theorem IdxC.six {h : Base} {t : PIdx} {c : List Value} (hc : IdxC h t c) : c.length = 6 := by
  obtain ⟨v, rfl, hs⟩ := hc
  rfl
theorem take_len {α : Type} {l : List α} {j : Nat} (hj : j ≤ l.length) : (l.take j).length = j := by simp; omega
set_option maxHeartbeats 4000000 in
theorem RCopy (h : Base) (cs : List Value) (s : PSch) (hs : SchC h s cs) (hw : wfS s) :
    Tr Tryz.prog 4 [.agg cs.toArray] h [] (fun u h' H' => ∃ a k a2 k2 es es2, u = .agg #[bufV a s.tabs.length k, bufV a2 s.idxs.length k2] ∧
      Each (TabC h') es s.tabs ∧ Each (IdxC h') es2 s.idxs ∧ H' = [bufA 37 4 a s.tabs.length k es.flatten, bufA 43 6 a2 s.idxs.length k2 es2.flatten]) := by
  obtain ⟨vt, vi, ts, is, rfl, hvt, ht, hvi, hi⟩ := hs
  obtain ⟨ao, ca, rfl⟩ := hvt.len
  rw [ht.len] at hvt ⊢
  obtain ⟨ai, ci, rfl⟩ := hvi.len
  rw [hi.len] at hvi ⊢
  have hlt := hw.lt
  have hli := hw.li
  refine K.enter Tryz.func4 rfl (Nat.le_of_ble_eq_true rfl) (fun F => ?_)
  simp only [List.nil_append, List.cons_append]
  (repeat' (first | refine X.rq ?_ | (refine X.rc ?_ ?_ <;> intro hc <;> first | (exfalso; omega) | skip)))
  refine K.l_box rfl rfl rfl (fun BS => ?_)
  refine K.l_alloc (Fx.zr rfl) rfl rfl (fun BR => ?_)
  (repeat' (first | refine X.rq ?_ | (refine X.rc ?_ ?_ <;> intro hc <;> first | (exfalso; omega) | skip)))
  refine K.l_alloc (Fx.zr rfl) rfl rfl (fun BO => ?_)
  (repeat' (first | refine X.rq ?_ | (refine X.rc ?_ ?_ <;> intro hc <;> first | (exfalso; omega) | skip)))
  refine K.WC.nilBuf 37 4 ?_
  refine K.c_loop (σ := OwT) (fun q => [(1, .pointer (some ⟨BS, 0, none⟩)), (2, .pointer (some ⟨BR, 0, none⟩)), (3, .pointer (some ⟨BO, 0, none⟩)), (4, .int .i64 q.j)]) (fun q => q.hb)
    (fun q => bufA 37 4 q.a q.j q.k q.es.flatten :: blk BO 25 [bufV q.a q.j q.k, .slice none 0 0] :: blk BR 25 [.slice none 0 0, .slice none 0 0] :: blk BS 25 [.slice ao s.tabs.length ca, .slice ai s.idxs.length ci] :: F)
    (fun q => q.j ≤ s.tabs.length ∧ h.le q.hb ∧ Each (TabC q.hb) q.es (s.tabs.take q.j)) (fun q => s.tabs.length - q.j) ⟨0, h, none, 0, []⟩ ⟨Nat.zero_le _, K.Base.le.refl _, Each.nil⟩ (by repeat (first | exact K.Sub.nil _ | refine K.Sub.cons rfl ?_)) rfl rfl ?_
  rintro ⟨j, hb, a, k, es⟩ ⟨hj, hle, hes⟩ KL hKL
  simp only at hj hle hes ⊢
  by_cases hjl : j < s.tabs.length
  · have hx1 : s.tabs[j]? = some s.tabs[j] := List.getElem?_eq_getElem hjl
    have hwt : wfTb s.tabs[j] := hw.tabs _ (List.getElem_mem hjl)
    generalize s.tabs[j] = t at hx1 hwt
    obtain ⟨htk, _⟩ := take_at hx1
    obtain ⟨q, hc0, v1, rfl, hcv⟩ := ht.get hx1
    have hlc : (t.cols.map cC).length = t.cols.length := List.length_map ..
    have hsrc : ∀ KK, Src Tryz.prog hb KK 3 v1 t.cols.length (t.cols.map cC).flatten := fun KK => by
      have := K.SL.src (P := Tryz.prog) (K := KK) (hcv.le hle) (fun e he => by
        obtain ⟨x, _, rfl⟩ := List.mem_map.1 he
        rfl)
      rwa [hlc] at this
    have hwl := hwt.len
    obtain ⟨av, cv, rfl⟩ := hcv.len
    obtain ⟨bb, oo, rfl, hcx⟩ := (hvt.le hle).at hc0
    (repeat' (first | refine X.rq ?_ | (refine X.rc ?_ ?_ <;> intro hc <;> first | (exfalso; omega) | skip)))
    refine K.s_pure (K.p_loadM (Fx.agg rfl) rfl (Cels.up hcx) (Fx.sz rfl) rfl) rfl ?_
    refine K.l_alloc (Fx.zr rfl) rfl rfl (fun B9 => ?_)
    refine X.stw ?_
    simp only [List.set_cons_zero, List.set_cons_succ, List.eraseIdx_cons_zero, List.eraseIdx_cons_succ, List.cons_append, List.nil_append]
    (repeat' (first | refine X.rq ?_ | (refine X.rc ?_ ?_ <;> intro hc <;> first | (exfalso; omega) | skip)))
    refine K.l_buildSlice (Fx.und rfl) (Fx.sz rfl) rfl (Fx.zr rfl) rfl rfl rfl rfl rfl (fun B => ?_)
    refine K.WL.bufOf (m := 0) (s := 3) rfl (by unfold maxLen; omega) ?_
    (repeat' (first | refine X.rq ?_ | (refine X.rc ?_ ?_ <;> intro hc <;> first | (exfalso; omega) | skip)))
    refine K.l_append_at 0 rfl (Fx.und rfl) (Fx.und rfl) rfl (Fx.sz rfl) (Fx.zr rfl) rfl (Fx.byt rfl) rfl rfl (hsrc _) (by omega) (by omega) rfl (fun a1 k1 => ?_)
    simp only [List.set_cons_zero, List.set_cons_succ, List.eraseIdx_cons_zero, List.eraseIdx_cons_succ, List.cons_append, List.nil_append]
    simp only [Nat.zero_add, cellsL, List.nil_append]
    rw [← hlc]
    refine K.WL.freezeRow (three _) (fun h2 hle2 hs2 _ => ?_)
    (repeat' (first | refine X.rq ?_ | (refine X.rc ?_ ?_ <;> intro hc <;> first | (exfalso; omega) | skip)))
    refine X.sto ?_
    simp only [List.set_cons_zero, List.set_cons_succ, List.eraseIdx_cons_zero, List.eraseIdx_cons_succ, List.cons_append, List.nil_append]
    (repeat' (first | refine X.rq ?_ | (refine X.rc ?_ ?_ <;> intro hc <;> first | (exfalso; omega) | skip)))
    have hee : Each (TabC h2) (es ++ [cTab t (bufV a1 (t.cols.map cC).length k1)]) (s.tabs.take j ++ [t]) := Each.snoc (Each.mono (fun x c hc => hc.le hle2) hes) ⟨_, rfl, hs2⟩
    refine K.l_buildSlice (Fx.und rfl) (Fx.sz rfl) rfl (Fx.zr rfl) rfl rfl rfl rfl rfl (fun B => ?_)
    refine K.l_append_at 2 rfl (Fx.und rfl) (Fx.und rfl) rfl (Fx.sz rfl) (Fx.zr rfl) rfl (Fx.byt rfl) rfl rfl (K.src_cells (K.cels_own (pre := []) (cs := cTab t (bufV a1 (t.cols.map cC).length k1)) (post := []) 0 rfl rfl) rfl (by simp [oneCell, cTab, bufV])) (by omega) (by omega) rfl (fun a3 k3 => ?_)
    simp only [List.set_cons_zero, List.set_cons_succ, List.eraseIdx_cons_zero, List.eraseIdx_cons_succ, List.cons_append, List.nil_append]
    (repeat' (first | refine X.rq ?_ | (refine X.rc ?_ ?_ <;> intro hc <;> first | (exfalso; omega) | skip)))
    refine X.sto ?_
    simp only [List.set_cons_zero, List.set_cons_succ, List.eraseIdx_cons_zero, List.eraseIdx_cons_succ, List.cons_append, List.nil_append]
    (repeat' (first | refine X.rq ?_ | (refine X.rc ?_ ?_ <;> intro hc <;> first | (exfalso; omega) | skip)))
    refine K.AT.sel [0, 0] rfl ?_
    refine K.a_round hKL ⟨j + 1, h2, a3, k3, es ++ [cTab t (bufV a1 (t.cols.map cC).length k1)]⟩ ⟨by simp only; omega, hle.trans hle2, by simp only; rw [htk]; exact hee⟩ (by repeat (first | exact K.Sub.nil _ | refine K.Sub.cons rfl ?_)) rfl (by simp only; rw [List.flatten_append]; simp only [List.flatten_cons, List.flatten_nil, List.append_nil]; rfl) (by simp only; omega)
  · obtain rfl : j = s.tabs.length := by omega
    rw [List.take_length] at hes
    (repeat' (first | refine X.rq ?_ | (refine X.rc ?_ ?_ <;> intro hc <;> first | (exfalso; omega) | skip)))
    refine K.WC.nilBuf 43 6 ?_
    refine K.c_loop (σ := OwX) (fun q => [(1, .pointer (some ⟨BS, 0, none⟩)), (2, .pointer (some ⟨BR, 0, none⟩)), (3, .pointer (some ⟨BO, 0, none⟩)), (6, .int .i64 q.j)]) (fun q => q.hb)
      (fun q => bufA 43 6 q.a2 q.j q.k2 q.es2.flatten :: bufA 37 4 a s.tabs.length k es.flatten :: blk BO 25 [bufV a s.tabs.length k, bufV q.a2 q.j q.k2] :: blk BR 25 [.slice none 0 0, .slice none 0 0] :: blk BS 25 [.slice ao s.tabs.length ca, .slice ai s.idxs.length ci] :: F)
      (fun q => q.j ≤ s.idxs.length ∧ hb.le q.hb ∧ Each (IdxC q.hb) q.es2 (s.idxs.take q.j)) (fun q => s.idxs.length - q.j) ⟨0, hb, none, 0, []⟩ ⟨Nat.zero_le _, K.Base.le.refl _, Each.nil⟩ (by repeat (first | exact K.Sub.nil _ | refine K.Sub.cons rfl ?_)) rfl rfl ?_
    clear hKL KL hj hjl
    rintro ⟨j, hb2, a2, k2, es2⟩ ⟨hj, hle2, hes2⟩ KL hKL
    simp only at hj hle2 hes2 ⊢
    by_cases hjl : j < s.idxs.length
    · have hx1 : s.idxs[j]? = some s.idxs[j] := List.getElem?_eq_getElem hjl
      have hwt : wfIx s.idxs[j] := hw.idxs _ (List.getElem_mem hjl)
      generalize s.idxs[j] = t at hx1 hwt
      obtain ⟨htk, _⟩ := take_at hx1
      obtain ⟨q, hc0, v1, rfl, hcv⟩ := hi.get hx1
      have hlc : (rowN t.cols).length = t.cols.length := List.length_map ..
      have hsrc : ∀ KK, Src Tryz.prog hb2 KK 1 v1 t.cols.length (rowN t.cols).flatten := fun KK => by
        have := K.SL.src (P := Tryz.prog) (K := KK) (hcv.le (hle.trans hle2)) (fun e he => by
          obtain ⟨x, _, rfl⟩ := List.mem_map.1 he
          rfl)
        rwa [hlc] at this
      have hwl := hwt.len
      obtain ⟨av, cv, rfl⟩ := hcv.len
      obtain ⟨bb, oo, rfl, hcx⟩ := (hvi.le (hle.trans hle2)).at hc0
      (repeat' (first | refine X.rq ?_ | (refine X.rc ?_ ?_ <;> intro hc <;> first | (exfalso; omega) | skip)))
      refine K.s_pure (K.p_loadM (Fx.agg rfl) rfl (Cels.up hcx) (Fx.sz rfl) rfl) rfl ?_
      refine K.l_alloc (Fx.zr rfl) rfl rfl (fun B9 => ?_)
      refine X.stw ?_
      simp only [List.set_cons_zero, List.set_cons_succ, List.eraseIdx_cons_zero, List.eraseIdx_cons_succ, List.cons_append, List.nil_append]
      (repeat' (first | refine X.rq ?_ | (refine X.rc ?_ ?_ <;> intro hc <;> first | (exfalso; omega) | skip)))
      refine K.l_buildSlice (Fx.und rfl) (Fx.sz rfl) rfl (Fx.zr rfl) rfl rfl rfl rfl rfl (fun B => ?_)
      refine K.WL.bufOf (m := 0) (s := 1) rfl (by unfold maxLen; omega) ?_
      (repeat' (first | refine X.rq ?_ | (refine X.rc ?_ ?_ <;> intro hc <;> first | (exfalso; omega) | skip)))
      refine K.l_append_at 0 rfl (Fx.und rfl) (Fx.und rfl) rfl (Fx.sz rfl) (Fx.zr rfl) rfl (Fx.byt rfl) rfl rfl (hsrc _) (by omega) (by omega) rfl (fun a1 k1 => ?_)
      simp only [List.set_cons_zero, List.set_cons_succ, List.eraseIdx_cons_zero, List.eraseIdx_cons_succ, List.cons_append, List.nil_append]
      simp only [Nat.zero_add, cellsL, List.nil_append]
      rw [← hlc]
      refine K.WL.freezeRow (oneN _) (fun h2 hle3 hs2 _ => ?_)
      (repeat' (first | refine X.rq ?_ | (refine X.rc ?_ ?_ <;> intro hc <;> first | (exfalso; omega) | skip)))
      refine X.sto ?_
      simp only [List.set_cons_zero, List.set_cons_succ, List.eraseIdx_cons_zero, List.eraseIdx_cons_succ, List.cons_append, List.nil_append]
      (repeat' (first | refine X.rq ?_ | (refine X.rc ?_ ?_ <;> intro hc <;> first | (exfalso; omega) | skip)))
      have hee : Each (IdxC h2) (es2 ++ [cIdx t (bufV a1 (rowN t.cols).length k1)]) (s.idxs.take j ++ [t]) := Each.snoc (Each.mono (fun x c hc => hc.le hle3) hes2) ⟨_, rfl, hs2⟩
      refine K.l_buildSlice (Fx.und rfl) (Fx.sz rfl) rfl (Fx.zr rfl) rfl rfl rfl rfl rfl (fun B => ?_)
      refine K.l_append_at 2 rfl (Fx.und rfl) (Fx.und rfl) rfl (Fx.sz rfl) (Fx.zr rfl) rfl (Fx.byt rfl) rfl rfl (K.src_cells (K.cels_own (pre := []) (cs := cIdx t (bufV a1 (rowN t.cols).length k1)) (post := []) 0 rfl rfl) rfl (by simp [oneCell, cIdx, bufV])) (by omega) (by omega) rfl (fun a3 k3 => ?_)
      simp only [List.set_cons_zero, List.set_cons_succ, List.eraseIdx_cons_zero, List.eraseIdx_cons_succ, List.cons_append, List.nil_append]
      (repeat' (first | refine X.rq ?_ | (refine X.rc ?_ ?_ <;> intro hc <;> first | (exfalso; omega) | skip)))
      refine X.sto ?_
      simp only [List.set_cons_zero, List.set_cons_succ, List.eraseIdx_cons_zero, List.eraseIdx_cons_succ, List.cons_append, List.nil_append]
      (repeat' (first | refine X.rq ?_ | (refine X.rc ?_ ?_ <;> intro hc <;> first | (exfalso; omega) | skip)))
      refine K.AT.sel [0, 0] rfl ?_
      refine K.a_round hKL ⟨j + 1, h2, a3, k3, es2 ++ [cIdx t (bufV a1 (rowN t.cols).length k1)]⟩ ⟨by simp only; omega, hle2.trans hle3, by simp only; rw [htk]; exact hee⟩ (by repeat (first | exact K.Sub.nil _ | refine K.Sub.cons rfl ?_)) rfl (by simp only; rw [List.flatten_append]; simp only [List.flatten_cons, List.flatten_nil, List.append_nil]; rfl) (by simp only; omega)
    · obtain rfl : j = s.idxs.length := by omega
      rw [List.take_length] at hes2
      (repeat' (first | refine X.rq ?_ | (refine X.rc ?_ ?_ <;> intro hc <;> first | (exfalso; omega) | skip)))
      refine X.stw ?_
      simp only [List.set_cons_zero, List.set_cons_succ, List.eraseIdx_cons_zero, List.eraseIdx_cons_succ, List.cons_append, List.nil_append]
      (repeat' (first | refine X.rq ?_ | (refine X.rc ?_ ?_ <;> intro hc <;> first | (exfalso; omega) | skip)))
      refine K.AT.perm (K.pp [2, 2, 2, 1, 0] rfl) ?_
      refine K.doneC (.inl rfl) (.cell rfl (Fx.agg rfl) (Fx.sz rfl) (K.cels_own (pre := []) (post := []) 1 rfl rfl) .nil) (hle.trans hle2) (vs := [.agg [bufV a s.tabs.length k, bufV a2 s.idxs.length k2].toArray]) (D := [_, _, _]) (H' := [_, _]) rfl ⟨a, k, a2, k2, es, es2, rfl, Each.mono (fun x c hc => hc.le hle2) hes, hes2, rfl⟩
end Go.Proofs.YtdjacjhojbkgjaaGreat.Ct
