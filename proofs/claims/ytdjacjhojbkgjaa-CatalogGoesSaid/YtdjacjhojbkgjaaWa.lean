/-
  A schema's rows: the document's. Conditions: each theorem's own.
-/
import Derived.Test.YtdjacjhojbkgjaaVu

namespace Go.Proofs.Ytdjacjhojbkgjaa.Ct
open Go Go.K Go.Proofs Go.Proofs.Ytdjacjhojbkgjaa Go.Proofs.Ytdjacjhojbkgjaa.Rw
set_option linter.unusedVariables false
set_option linter.unusedSimpArgs false
set_option maxRecDepth 10000

theorem RNum (h : Base) (n : Int) : TrV Try.prog 48 [.int .i64 n] h [] (.agg (cV (vN n)).toArray) [] := by
  refine K.enter Try.func48 rfl (Nat.le_of_ble_eq_true rfl) (fun F => ?_)
  simp only [List.nil_append]
  (repeat' (first | refine X.rq ?_ | (refine X.rc ?_ ?_ <;> intro hc <;> first | (exfalso; omega) | skip)))
  refine K.l_alloc (Fx.zr rfl) rfl rfl (fun B => ?_)
  (repeat' (first | refine X.rq ?_ | (refine X.rc ?_ ?_ <;> intro hc <;> first | (exfalso; omega) | skip)))
  refine X.stw ?_
  simp only [List.set_cons_zero, List.set_cons_succ, List.eraseIdx_cons_zero, List.eraseIdx_cons_succ, List.cons_append, List.nil_append]
  (repeat' (first | refine X.rq ?_ | (refine X.rc ?_ ?_ <;> intro hc <;> first | (exfalso; omega) | skip)))
  refine K.doneC (.inl rfl) (.cell rfl (Fx.agg rfl) (Fx.sz rfl) (K.cels_own (pre := []) (post := []) 0 rfl rfl) .nil) (K.Base.le.refl _) (vs := [.agg (cV (vN n)).toArray]) (D := [_]) (H' := []) rfl ⟨rfl, rfl, rfl⟩
theorem Truth (h : Base) (b : Bool) : TrV Try.prog 49 [.bool b] h [] (.agg (cV (vB b)).toArray) [] := by
  refine K.enter Try.func49 rfl (Nat.le_of_ble_eq_true rfl) (fun F => ?_)
  simp only [List.nil_append]
  cases b with
  | true =>
    (repeat' (first | refine X.rq ?_ | (refine X.rc ?_ ?_ <;> intro hc <;> first | (exfalso; omega) | skip)))
    refine K.l_alloc (Fx.zr rfl) rfl rfl (fun B => ?_)
    (repeat' (first | refine X.rq ?_ | (refine X.rc ?_ ?_ <;> intro hc <;> first | (exfalso; omega) | skip)))
    refine X.stw ?_
    simp only [List.set_cons_zero, List.set_cons_succ, List.eraseIdx_cons_zero, List.eraseIdx_cons_succ, List.cons_append, List.nil_append]
    (repeat' (first | refine X.rq ?_ | (refine X.rc ?_ ?_ <;> intro hc <;> first | (exfalso; omega) | skip)))
    refine K.doneC (.inl rfl) (.cell rfl (Fx.agg rfl) (Fx.sz rfl) (K.cels_own (pre := []) (post := []) 0 rfl rfl) .nil) (K.Base.le.refl _) (vs := [.agg (cV (vB true)).toArray]) (D := [_]) (H' := []) rfl ⟨rfl, rfl, rfl⟩
  | false =>
    (repeat' (first | refine X.rq ?_ | (refine X.rc ?_ ?_ <;> intro hc <;> first | (exfalso; omega) | skip)))
    refine K.l_alloc (Fx.zr rfl) rfl rfl (fun B => ?_)
    (repeat' (first | refine X.rq ?_ | (refine X.rc ?_ ?_ <;> intro hc <;> first | (exfalso; omega) | skip)))
    refine X.stw ?_
    simp only [List.set_cons_zero, List.set_cons_succ, List.eraseIdx_cons_zero, List.eraseIdx_cons_succ, List.cons_append, List.nil_append]
    (repeat' (first | refine X.rq ?_ | (refine X.rc ?_ ?_ <;> intro hc <;> first | (exfalso; omega) | skip)))
    refine K.doneC (.inl rfl) (.cell rfl (Fx.agg rfl) (Fx.sz rfl) (K.cels_own (pre := []) (post := []) 0 rfl rfl) .nil) (K.Base.le.refl _) (vs := [.agg (cV (vB false)).toArray]) (D := [_]) (H' := []) rfl ⟨rfl, rfl, rfl⟩
structure RwS where
  j : Nat
  hb : Base
  a : Option Nat
  k : Nat
  es : List (List Value)
set_option maxHeartbeats 8000000 in
theorem RRows (h : Base) (cs : List Value) (s : PSch) (hs : SchC h s cs) (hw : wfS s) (hm : mayS s = true) :
    Tr Try.prog 15 [.agg cs.toArray] h [] (fun u h' H' => H' = [] ∧ RowsV h' (rowsQ s) u) := by
  have hrl := rows_len hm
  obtain ⟨vt, vi, ts, is, rfl, hvt, ht, hvi, hi⟩ := hs
  obtain ⟨ao, ca, rfl⟩ := hvt.len
  rw [ht.len] at hvt ⊢
  obtain ⟨ai, ci, rfl⟩ := hvi.len
  rw [hi.len] at hvi ⊢
  have hlt := hw.lt
  have hli := hw.li
  refine K.enter Try.func15 rfl (Nat.le_of_ble_eq_true rfl) (fun F => ?_)
  simp only [List.nil_append, List.cons_append]
  (repeat' (first | refine X.rq ?_ | (refine X.rc ?_ ?_ <;> intro hc <;> first | (exfalso; omega) | skip)))
  refine K.l_box rfl rfl rfl (fun BS => ?_)
  (repeat' (first | refine X.rq ?_ | (refine X.rc ?_ ?_ <;> intro hc <;> first | (exfalso; omega) | skip)))
  refine K.l_alloc (Fx.zr rfl) rfl rfl (fun BN => ?_)
  refine X.stw ?_
  simp only [List.set_cons_zero, List.set_cons_succ, List.eraseIdx_cons_zero, List.eraseIdx_cons_succ, List.cons_append, List.nil_append]
  (repeat' (first | refine X.rq ?_ | (refine X.rc ?_ ?_ <;> intro hc <;> first | (exfalso; omega) | skip)))
  refine K.WC.nilBuf 65 1 ?_
  refine K.c_loop (σ := RwS) (fun q => [(1, .pointer (some ⟨BS, 0, none⟩)), (3, bufV q.a ((s.tabs.take q.j).flatMap tabRows).length q.k), (4, .pointer (some ⟨BN, 0, none⟩)), (5, .int .i64 q.j)]) (fun q => q.hb)
    (fun q => bufA 65 1 q.a ((s.tabs.take q.j).flatMap tabRows).length q.k q.es.flatten :: blk BN 89 (cV vZ) :: blk BS 25 [.slice ao s.tabs.length ca, .slice ai s.idxs.length ci] :: F)
    (fun q => q.j ≤ s.tabs.length ∧ h.le q.hb ∧ Each (RowC q.hb) q.es ((s.tabs.take q.j).flatMap tabRows)) (fun q => s.tabs.length - q.j) ⟨0, h, none, 0, []⟩ ⟨Nat.zero_le _, K.Base.le.refl _, Each.nil⟩ (by repeat (first | exact K.Sub.nil _ | refine K.Sub.cons rfl ?_)) rfl rfl ?_
  rintro ⟨j, hb, a, k, es⟩ ⟨hj, hle, hes⟩ KL hKL
  simp only at hj hle hes ⊢
  by_cases hjl : j < s.tabs.length
  · have hx1 : s.tabs[j]? = some s.tabs[j] := List.getElem?_eq_getElem hjl
    have hwt : wfTb s.tabs[j] := hw.tabs _ (List.getElem_mem hjl)
    generalize s.tabs[j] = t at hx1 hwt
    have hpre := pre_tab hx1
    have hfl := flat_take hx1 tabRows
    have hid := hwt.id
    have hhd := hwt.head
    have hcl := hwt.len
    have hlc : (t.cols.map cC).length = t.cols.length := List.length_map ..
    generalize (s.tabs.take j).flatMap tabRows = acc at hes hpre hfl ⊢
    have hal : acc.length + (tabRows t).length ≤ (rowsQ s).length := by have := hpre.length_le; simpa using this
    have htl : (tabRows t).length = t.cols.length + 1 := by simp [tabRows]
    obtain ⟨c, hc0, v1, rfl, hcv⟩ := ht.get hx1
    have hcv0 := hcv
    obtain ⟨av, cv, rfl⟩ := hcv.len
    obtain ⟨bb, oo, rfl, hcx⟩ := (hvt.le hle).at hc0
    (repeat' (first | refine X.rq ?_ | (refine X.rc ?_ ?_ <;> intro hc <;> first | (exfalso; omega) | skip)))
    refine K.s_pure (K.p_loadM (Fx.agg rfl) rfl (Cels.up hcx) (Fx.sz rfl) rfl) rfl ?_
    refine K.l_alloc (Fx.zr rfl) rfl rfl (fun B6 => ?_)
    refine X.stw ?_
    simp only [List.set_cons_zero, List.set_cons_succ, List.eraseIdx_cons_zero, List.eraseIdx_cons_succ, List.cons_append, List.nil_append]
    (repeat' (first | refine X.rq ?_ | (refine X.rc ?_ ?_ <;> intro hc <;> first | (exfalso; omega) | skip)))
    refine X.draw ([blk B6 46 (cTab t (.slice av (t.cols.map cC).length cv)), blk BN 89 (cV vZ)]) [] (.pu 0 (.pu 2 (.pu 7 (.pu 10 (.st 3 (.pu 4 (.st 6 (.st 8 (.pu 9 (.st 11 (.pu 12 (.st 14 (.on 1 (.on 5 (.on 13 (.on 15 (.on 16 (.on 17 (.pu 18 .nil))))))))))))))))))) ?_ (hQ := by repeat (first | with_reducible refine K.NoPanic.then ?_ | with_reducible refine K.NoPanic.inBlock ?_ | with_reducible exact K.post_noPanic _ _ | exact K.post_noPanic _ _))
    refine K.d_pu rfl (fun _ _ => X.mv) rfl ?_
    refine K.d_pu rfl (fun _ _ => X.fa) rfl ?_
    refine K.d_pu rfl (fun _ _ => X.fa) rfl ?_
    refine K.d_pu rfl (fun _ _ => X.fa) rfl ?_
    refine K.d_st rfl X.ld rfl ?_
    refine K.d_pu rfl (fun _ _ => X.cv) rfl ?_
    refine K.d_st rfl X.ld rfl ?_
    refine K.d_st rfl X.ld rfl ?_
    refine K.d_pu rfl (fun _ _ => X.bd) rfl ?_
    refine K.d_st rfl X.ld rfl ?_
    refine K.d_pu rfl (fun _ _ => X.cv) rfl ?_
    refine K.d_st rfl X.ld rfl ?_
    refine K.d_on rfl (fun KK hKK => ?_)
    refine K.l_callV (Fx.cal rfl) rfl (RNum hb 1) (K.pp [] rfl) rfl rfl ?_
    simp only [List.nil_append]
    refine K.l_nil ?_
    refine X.onE hKK ?_
    refine K.d_on rfl (fun KK hKK => ?_)
    refine K.l_callV (Fx.cal rfl) rfl (RNum hb t.id) (K.pp [] rfl) rfl rfl ?_
    simp only [List.nil_append]
    refine K.l_nil ?_
    refine X.onE hKK ?_
    refine K.d_on rfl (fun KK hKK => ?_)
    refine K.l_callV (Fx.cal rfl) rfl (RNum hb t.head) (K.pp [] rfl) rfl rfl ?_
    simp only [List.nil_append]
    refine K.l_nil ?_
    refine X.onE hKK ?_
    refine K.d_on rfl (fun KK hKK => ?_)
    refine K.l_buildSlice (Fx.und rfl) (Fx.sz rfl) rfl (Fx.zr rfl) rfl rfl rfl rfl rfl (fun B0 => ?_)
    refine K.WL.bufOf (m := 6) (s := 3) rfl (by unfold maxLen; omega) ?_
    refine K.WL.freezeRow (es := (tabRow t).map cV) (threeV _) (fun h1 hle2 hs1 _ => ?_)
    refine K.l_nil ?_
    refine X.onE hKK ?_
    refine K.d_on rfl (fun KK hKK => ?_)
    refine X.bs (fun B => ?_)
    refine K.l_nil ?_
    refine X.onE hKK ?_
    refine K.d_on rfl (fun KK hKK => ?_)
    refine K.l_append_at 2 rfl (Fx.und rfl) (Fx.und rfl) rfl (Fx.sz rfl) (Fx.zr rfl) rfl (Fx.byt rfl) rfl rfl (K.src_cells (K.cels_own (pre := []) (cs := [bufV (some B0) 6 6]) (post := []) 0 rfl rfl) rfl (by simp [oneCell, bufV])) (by omega) (by omega) rfl (fun a3 k3 => ?_)
    simp only [List.set_cons_zero, List.set_cons_succ, List.eraseIdx_cons_zero, List.eraseIdx_cons_succ, List.cons_append, List.nil_append]
    refine K.l_nil ?_
    refine X.onE hKK ?_
    refine K.d_pu rfl (fun _ _ => X.sg) rfl ?_
    refine K.d_nil ?_
    (repeat' (first | refine X.rq ?_ | (refine X.rc ?_ ?_ <;> intro hc <;> first | (exfalso; omega) | skip)))
    have hee : Each (RowC h1) (es ++ [[bufV (some B0) 6 6]]) (acc ++ (tabRows t).take (0 + 1)) := Each.snoc (hes.mono fun x c hc => hc.le hle2) ⟨_, rfl, hs1⟩
    refine K.WC.drop ?_
    refine K.WC.perm (K.pp [1, 0] rfl) ?_
    simp only [List.set_cons_zero, List.set_cons_succ, List.eraseIdx_cons_zero, List.eraseIdx_cons_succ, List.cons_append, List.nil_append]
    refine K.c_loop (σ := RwS) (fun q => [(1, .pointer (some ⟨BS, 0, none⟩)), (3, bufV q.a (acc.length + (q.j + 1)) q.k), (4, .pointer (some ⟨BN, 0, none⟩)), (5, .int .i64 j), (6, .pointer (some ⟨B6, 0, none⟩)), (7, .int .i64 q.j)]) (fun q => q.hb)
      (fun q => bufA 65 1 q.a (acc.length + (q.j + 1)) q.k q.es.flatten :: blk B6 46 (cTab t (.slice av (t.cols.map cC).length cv)) :: blk BN 89 (cV vZ) :: blk BS 25 [.slice (some ⟨bb, oo, none⟩) s.tabs.length ca, .slice ai s.idxs.length ci] :: F)
      (fun q => q.j ≤ t.cols.length ∧ h.le q.hb ∧ Each (RowC q.hb) q.es (acc ++ (tabRows t).take (q.j + 1))) (fun q => t.cols.length - q.j) ⟨0, h1, a3, k3, es ++ [[bufV (some B0) 6 6]]⟩ ⟨Nat.zero_le _, hle.trans hle2, hee⟩ (by repeat (first | exact K.Sub.nil _ | refine K.Sub.cons rfl ?_)) rfl (by simp only; rw [List.flatten_append]; rfl) ?_
    clear hee hs1 hes
    rintro ⟨i, hb, a, k, es⟩ ⟨hi', hle', hes⟩ KM hKM
    simp only at hi' hle' hes ⊢
    by_cases hil : i < t.cols.length
    · have hy1 : t.cols[i]? = some t.cols[i] := List.getElem?_eq_getElem hil
      have hwc : wfC t.cols[i] := hwt.cols _ (List.getElem_mem hil)
      generalize t.cols[i] = c at hy1 hwc
      have htk := (take_at (tab_at hy1)).1
      have hd1 : (t.cols.map cC)[i]? = some (cC c) := by rw [List.getElem?_map, hy1]; rfl
      obtain ⟨b2, o2, rfl, hcy⟩ := (hcv0.le hle').at hd1
      have hk1 := hwc.k1
      have hk2 := hwc.k2
      (repeat' (first | refine X.rq ?_ | (refine X.rc ?_ ?_ <;> intro hc <;> first | (exfalso; omega) | skip)))
      refine K.s_pure (K.p_loadM (Fx.agg rfl) rfl (Cels.up hcy) (Fx.sz rfl) rfl) rfl ?_
      refine K.l_alloc (Fx.zr rfl) rfl rfl (fun B8 => ?_)
      refine X.stw ?_
      simp only [List.set_cons_zero, List.set_cons_succ, List.eraseIdx_cons_zero, List.eraseIdx_cons_succ, List.cons_append, List.nil_append]
      (repeat' (first | refine X.rq ?_ | (refine X.rc ?_ ?_ <;> intro hc <;> first | (exfalso; omega) | skip)))
      refine X.draw ([blk B8 36 (cC c), blk B6 46 (cTab t (.slice (some ⟨b2, o2, none⟩) (t.cols.map cC).length cv))]) [] (.pu 0 (.pu 2 (.pu 6 (.pu 8 (.pu 11 (.pu 14 (.st 3 (.pu 4 (.st 9 (.pu 10 (.st 12 (.st 15 (.on 1 (.on 5 (.on 7 (.on 13 (.on 16 (.on 17 (.on 18 (.on 19 (.pu 20 .nil))))))))))))))))))))) ?_ (hQ := by repeat (first | with_reducible refine K.NoPanic.then ?_ | with_reducible refine K.NoPanic.inBlock ?_ | with_reducible exact K.post_noPanic _ _ | exact K.post_noPanic _ _))
      refine K.d_pu rfl (fun _ _ => X.mv) rfl ?_
      refine K.d_pu rfl (fun _ _ => X.fa) rfl ?_
      refine K.d_pu rfl (fun _ _ => X.mv) rfl ?_
      refine K.d_pu rfl (fun _ _ => X.fa) rfl ?_
      refine K.d_pu rfl (fun _ _ => X.fa) rfl ?_
      refine K.d_pu rfl (fun _ _ => X.fa) rfl ?_
      refine K.d_st rfl X.ld rfl ?_
      refine K.d_pu rfl (fun _ _ => X.cv) rfl ?_
      refine K.d_st rfl X.ld rfl ?_
      refine K.d_pu rfl (fun _ _ => X.bd) rfl ?_
      refine K.d_st rfl X.ld rfl ?_
      refine K.d_st rfl X.ld rfl ?_
      refine K.d_on rfl (fun KK hKK => ?_)
      refine K.l_callV (Fx.cal rfl) rfl (RNum hb 2) (K.pp [] rfl) rfl rfl ?_
      simp only [List.nil_append]
      refine K.l_nil ?_
      refine X.onE hKK ?_
      refine K.d_on rfl (fun KK hKK => ?_)
      refine K.l_callV (Fx.cal rfl) rfl (RNum hb t.id) (K.pp [] rfl) rfl rfl ?_
      simp only [List.nil_append]
      refine K.l_nil ?_
      refine X.onE hKK ?_
      refine K.d_on rfl (fun KK hKK => ?_)
      refine K.l_callV (Fx.cal rfl) rfl (RNum hb i) (K.pp [] rfl) rfl rfl ?_
      simp only [List.nil_append]
      refine K.l_nil ?_
      refine X.onE hKK ?_
      refine K.d_on rfl (fun KK hKK => ?_)
      refine K.l_callV (Fx.cal rfl) rfl (RNum hb c.kind) (K.pp [] rfl) rfl rfl ?_
      simp only [List.nil_append]
      refine K.l_nil ?_
      refine X.onE hKK ?_
      refine K.d_on rfl (fun KK hKK => ?_)
      refine K.l_callV (Fx.cal rfl) rfl (Truth hb c.need) (K.pp [] rfl) rfl rfl ?_
      simp only [List.nil_append]
      refine K.l_nil ?_
      refine X.onE hKK ?_
      refine K.d_on rfl (fun KK hKK => ?_)
      refine K.l_buildSlice (Fx.und rfl) (Fx.sz rfl) rfl (Fx.zr rfl) rfl rfl rfl rfl rfl (fun B0 => ?_)
      refine K.WL.bufOf (m := 6) (s := 3) rfl (by unfold maxLen; omega) ?_
      refine K.WL.freezeRow (es := (colRow t i c).map cV) (threeV _) (fun h1 hle2 hs1 _ => ?_)
      refine K.l_nil ?_
      refine X.onE hKK ?_
      refine K.d_on rfl (fun KK hKK => ?_)
      refine X.bs (fun B => ?_)
      refine K.l_nil ?_
      refine X.onE hKK ?_
      refine K.d_on rfl (fun KK hKK => ?_)
      refine K.l_append_at 2 rfl (Fx.und rfl) (Fx.und rfl) rfl (Fx.sz rfl) (Fx.zr rfl) rfl (Fx.byt rfl) rfl rfl (K.src_cells (K.cels_own (pre := []) (cs := [bufV (some B0) 6 6]) (post := []) 0 rfl rfl) rfl (by simp [oneCell, bufV])) (by omega) (by omega) rfl (fun a3 k3 => ?_)
      simp only [List.set_cons_zero, List.set_cons_succ, List.eraseIdx_cons_zero, List.eraseIdx_cons_succ, List.cons_append, List.nil_append]
      refine K.l_nil ?_
      refine X.onE hKK ?_
      refine K.d_pu rfl (fun _ _ => X.sg) rfl ?_
      refine K.d_nil ?_
      (repeat' (first | refine X.rq ?_ | (refine X.rc ?_ ?_ <;> intro hc <;> first | (exfalso; omega) | skip)))
      have hee : Each (RowC h1) (es ++ [[bufV (some B0) 6 6]]) (acc ++ (tabRows t).take (i + 1 + 1)) := by
        rw [htk, ← List.append_assoc]
        exact Each.snoc (hes.mono fun x c hc => hc.le hle2) ⟨_, rfl, hs1⟩
      refine K.AT.sel [0, 0] rfl ?_
      refine K.a_round hKM ⟨i + 1, h1, a3, k3, es ++ [[bufV (some B0) 6 6]]⟩ ⟨by simp only; omega, hle'.trans hle2, hee⟩ (by repeat (first | exact K.Sub.nil _ | refine K.Sub.cons rfl ?_)) rfl (by simp only; rw [List.flatten_append]; rfl) (by simp only; omega)
    · obtain rfl : i = t.cols.length := by omega
      rw [tab_all, ← hfl] at hes
      have hln : acc.length + (t.cols.length + 1) = ((s.tabs.take (j + 1)).flatMap tabRows).length := by rw [hfl, List.length_append, htl]
      rw [hln]
      (repeat' (first | refine X.rq ?_ | (refine X.rc ?_ ?_ <;> intro hc <;> first | (exfalso; omega) | skip)))
      refine K.AT.sel [1] rfl ?_
      refine K.a_round hKL ⟨j + 1, hb, a, k, es⟩ ⟨by simp only; omega, hle', hes⟩ (by repeat (first | exact K.Sub.nil _ | refine K.Sub.cons rfl ?_)) rfl rfl (by simp only; omega)
  · obtain rfl : j = s.tabs.length := by omega
    rw [List.take_length] at hes ⊢
    (repeat' (first | refine X.rq ?_ | (refine X.rc ?_ ?_ <;> intro hc <;> first | (exfalso; omega) | skip)))
    clear hKL KL hj hjl
    refine K.c_loop (σ := RwS) (fun q => [(1, .pointer (some ⟨BS, 0, none⟩)), (3, bufV q.a (s.tabs.flatMap tabRows ++ (s.idxs.take q.j).flatMap idxRows).length q.k), (4, .pointer (some ⟨BN, 0, none⟩)), (9, .int .i64 q.j)]) (fun q => q.hb)
      (fun q => bufA 65 1 q.a (s.tabs.flatMap tabRows ++ (s.idxs.take q.j).flatMap idxRows).length q.k q.es.flatten :: blk BN 89 (cV vZ) :: blk BS 25 [.slice ao s.tabs.length ca, .slice ai s.idxs.length ci] :: F)
      (fun q => q.j ≤ s.idxs.length ∧ h.le q.hb ∧ Each (RowC q.hb) q.es (s.tabs.flatMap tabRows ++ (s.idxs.take q.j).flatMap idxRows)) (fun q => s.idxs.length - q.j) ⟨0, hb, a, k, es⟩ ⟨Nat.zero_le _, hle, by simpa using hes⟩ (by simp only [List.take_zero, List.flatMap_nil, List.append_nil]; exact (by repeat (first | exact K.Sub.nil _ | refine K.Sub.cons rfl ?_))) rfl (by simp only [List.take_zero, List.flatMap_nil, List.append_nil]) ?_
    clear hes hle
    rintro ⟨j, hb, a, k, es⟩ ⟨hj, hle, hes⟩ KL hKL
    simp only at hj hle hes ⊢
    by_cases hjl : j < s.idxs.length
    · have hx1 : s.idxs[j]? = some s.idxs[j] := List.getElem?_eq_getElem hjl
      have hwt : wfIx s.idxs[j] := hw.idxs _ (List.getElem_mem hjl)
      generalize s.idxs[j] = t at hx1 hwt
      have hpre := pre_idx hx1
      have hfl : s.tabs.flatMap tabRows ++ (s.idxs.take (j + 1)).flatMap idxRows = (s.tabs.flatMap tabRows ++ (s.idxs.take j).flatMap idxRows) ++ idxRows t := by rw [flat_take hx1 idxRows, List.append_assoc]
      have hid := hwt.id
      have hhd := hwt.root
      have htb := hwt.table
      have hcl := hwt.len
      have hlc : (rowN t.cols).length = t.cols.length := List.length_map ..
      generalize s.tabs.flatMap tabRows ++ (s.idxs.take j).flatMap idxRows = acc at hes hpre hfl ⊢
      have hal : acc.length + (idxRows t).length ≤ (rowsQ s).length := by have := hpre.length_le; simpa using this
      have htl : (idxRows t).length = t.cols.length + 1 := by simp [idxRows]
      obtain ⟨c, hc0, v1, rfl, hcv⟩ := hi.get hx1
      have hcv0 := hcv
      obtain ⟨av, cv, rfl⟩ := hcv.len
      obtain ⟨bb, oo, rfl, hcx⟩ := (hvi.le hle).at hc0
      (repeat' (first | refine X.rq ?_ | (refine X.rc ?_ ?_ <;> intro hc <;> first | (exfalso; omega) | skip)))
      refine K.s_pure (K.p_loadM (Fx.agg rfl) rfl (Cels.up hcx) (Fx.sz rfl) rfl) rfl ?_
      refine K.l_alloc (Fx.zr rfl) rfl rfl (fun B6 => ?_)
      refine X.stw ?_
      simp only [List.set_cons_zero, List.set_cons_succ, List.eraseIdx_cons_zero, List.eraseIdx_cons_succ, List.cons_append, List.nil_append]
      (repeat' (first | refine X.rq ?_ | (refine X.rc ?_ ?_ <;> intro hc <;> first | (exfalso; omega) | skip)))
      refine X.draw ([blk B6 53 (cIdx t (.slice av (rowN t.cols).length cv)), blk BN 89 (cV vZ)]) [] (.pu 0 (.pu 2 (.pu 6 (.pu 10 (.pu 13 (.pu 17 (.st 3 (.pu 4 (.st 7 (.pu 8 (.st 11 (.pu 12 (.st 14 (.pu 15 (.st 18 (.on 1 (.on 5 (.on 9 (.on 16 (.on 19 (.on 20 (.on 21 (.on 22 (.pu 23 .nil)))))))))))))))))))))))) ?_ (hQ := by repeat (first | with_reducible refine K.NoPanic.then ?_ | with_reducible refine K.NoPanic.inBlock ?_ | with_reducible exact K.post_noPanic _ _ | exact K.post_noPanic _ _))
      refine K.d_pu rfl (fun _ _ => X.mv) rfl ?_
      refine K.d_pu rfl (fun _ _ => X.fa) rfl ?_
      refine K.d_pu rfl (fun _ _ => X.fa) rfl ?_
      refine K.d_pu rfl (fun _ _ => X.fa) rfl ?_
      refine K.d_pu rfl (fun _ _ => X.fa) rfl ?_
      refine K.d_pu rfl (fun _ _ => X.fa) rfl ?_
      refine K.d_st rfl X.ld rfl ?_
      refine K.d_pu rfl (fun _ _ => X.cv) rfl ?_
      refine K.d_st rfl X.ld rfl ?_
      refine K.d_pu rfl (fun _ _ => X.cv) rfl ?_
      refine K.d_st rfl X.ld rfl ?_
      refine K.d_pu rfl (fun _ _ => X.bd) rfl ?_
      refine K.d_st rfl X.ld rfl ?_
      refine K.d_pu rfl (fun _ _ => X.cv) rfl ?_
      refine K.d_st rfl X.ld rfl ?_
      refine K.d_on rfl (fun KK hKK => ?_)
      refine K.l_callV (Fx.cal rfl) rfl (RNum hb 3) (K.pp [] rfl) rfl rfl ?_
      simp only [List.nil_append]
      refine K.l_nil ?_
      refine X.onE hKK ?_
      refine K.d_on rfl (fun KK hKK => ?_)
      refine K.l_callV (Fx.cal rfl) rfl (RNum hb t.id) (K.pp [] rfl) rfl rfl ?_
      simp only [List.nil_append]
      refine K.l_nil ?_
      refine X.onE hKK ?_
      refine K.d_on rfl (fun KK hKK => ?_)
      refine K.l_callV (Fx.cal rfl) rfl (RNum hb t.table) (K.pp [] rfl) rfl rfl ?_
      simp only [List.nil_append]
      refine K.l_nil ?_
      refine X.onE hKK ?_
      refine K.d_on rfl (fun KK hKK => ?_)
      refine K.l_callV (Fx.cal rfl) rfl (RNum hb t.root) (K.pp [] rfl) rfl rfl ?_
      simp only [List.nil_append]
      refine K.l_nil ?_
      refine X.onE hKK ?_
      refine K.d_on rfl (fun KK hKK => ?_)
      refine K.l_callV (Fx.cal rfl) rfl (Truth hb t.uniq) (K.pp [] rfl) rfl rfl ?_
      simp only [List.nil_append]
      refine K.l_nil ?_
      refine X.onE hKK ?_
      refine K.d_on rfl (fun KK hKK => ?_)
      refine K.l_buildSlice (Fx.und rfl) (Fx.sz rfl) rfl (Fx.zr rfl) rfl rfl rfl rfl rfl (fun B0 => ?_)
      refine K.WL.bufOf (m := 6) (s := 3) rfl (by unfold maxLen; omega) ?_
      refine K.WL.freezeRow (es := (idxRow t).map cV) (threeV _) (fun h1 hle2 hs1 _ => ?_)
      refine K.l_nil ?_
      refine X.onE hKK ?_
      refine K.d_on rfl (fun KK hKK => ?_)
      refine X.bs (fun B => ?_)
      refine K.l_nil ?_
      refine X.onE hKK ?_
      refine K.d_on rfl (fun KK hKK => ?_)
      refine K.l_append_at 2 rfl (Fx.und rfl) (Fx.und rfl) rfl (Fx.sz rfl) (Fx.zr rfl) rfl (Fx.byt rfl) rfl rfl (K.src_cells (K.cels_own (pre := []) (cs := [bufV (some B0) 6 6]) (post := []) 0 rfl rfl) rfl (by simp [oneCell, bufV])) (by omega) (by omega) rfl (fun a3 k3 => ?_)
      simp only [List.set_cons_zero, List.set_cons_succ, List.eraseIdx_cons_zero, List.eraseIdx_cons_succ, List.cons_append, List.nil_append]
      refine K.l_nil ?_
      refine X.onE hKK ?_
      refine K.d_pu rfl (fun _ _ => X.sg) rfl ?_
      refine K.d_nil ?_
      (repeat' (first | refine X.rq ?_ | (refine X.rc ?_ ?_ <;> intro hc <;> first | (exfalso; omega) | skip)))
      have hee : Each (RowC h1) (es ++ [[bufV (some B0) 6 6]]) (acc ++ (idxRows t).take (0 + 1)) := Each.snoc (hes.mono fun x c hc => hc.le hle2) ⟨_, rfl, hs1⟩
      refine K.WC.drop ?_
      refine K.WC.perm (K.pp [1, 0] rfl) ?_
      simp only [List.set_cons_zero, List.set_cons_succ, List.eraseIdx_cons_zero, List.eraseIdx_cons_succ, List.cons_append, List.nil_append]
      refine K.c_loop (σ := RwS) (fun q => [(1, .pointer (some ⟨BS, 0, none⟩)), (3, bufV q.a (acc.length + (q.j + 1)) q.k), (4, .pointer (some ⟨BN, 0, none⟩)), (9, .int .i64 j), (10, .pointer (some ⟨B6, 0, none⟩)), (11, .int .i64 q.j)]) (fun q => q.hb)
        (fun q => bufA 65 1 q.a (acc.length + (q.j + 1)) q.k q.es.flatten :: blk B6 53 (cIdx t (.slice av (rowN t.cols).length cv)) :: blk BN 89 (cV vZ) :: blk BS 25 [.slice ao s.tabs.length ca, .slice (some ⟨bb, oo, none⟩) s.idxs.length ci] :: F)
        (fun q => q.j ≤ t.cols.length ∧ h.le q.hb ∧ Each (RowC q.hb) q.es (acc ++ (idxRows t).take (q.j + 1))) (fun q => t.cols.length - q.j) ⟨0, h1, a3, k3, es ++ [[bufV (some B0) 6 6]]⟩ ⟨Nat.zero_le _, hle.trans hle2, hee⟩ (by repeat (first | exact K.Sub.nil _ | refine K.Sub.cons rfl ?_)) rfl (by simp only; rw [List.flatten_append]; rfl) ?_
      clear hee hs1 hes
      rintro ⟨i, hb, a, k, es⟩ ⟨hi', hle', hes⟩ KM hKM
      simp only at hi' hle' hes ⊢
      by_cases hil : i < t.cols.length
      · have hy1 : t.cols[i]? = some t.cols[i] := List.getElem?_eq_getElem hil
        generalize t.cols[i] = c at hy1
        have htk := (take_at (idx_at hy1)).1
        have hd1 : (rowN t.cols)[i]? = some [iV c] := by rw [rowN, List.getElem?_map, hy1]; rfl
        obtain ⟨b2, o2, rfl, hcy⟩ := (hcv0.le hle').at hd1
        (repeat' (first | refine X.rq ?_ | (refine X.rc ?_ ?_ <;> intro hc <;> first | (exfalso; omega) | skip)))
        refine X.draw ([blk B6 53 (cIdx t (.slice (some ⟨b2, o2, none⟩) (rowN t.cols).length cv)), blk BN 89 (cV vZ)]) [] (.pu 0 (.pu 2 (.pu 6 (.pu 9 (.pu 11 (.st 3 (.pu 4 (.st 8 (.st 10 (.pu 12 (.st 13 (.st 15 (.on 1 (.on 5 (.on 7 (.on 14 (.on 16 (.on 17 (.on 18 (.pu 19 .nil)))))))))))))))))))) ?_ (hQ := by repeat (first | with_reducible refine K.NoPanic.then ?_ | with_reducible refine K.NoPanic.inBlock ?_ | with_reducible exact K.post_noPanic _ _ | exact K.post_noPanic _ _))
        refine K.d_pu rfl (fun _ _ => X.mv) rfl ?_
        refine K.d_pu rfl (fun _ _ => X.fa) rfl ?_
        refine K.d_pu rfl (fun _ _ => X.mv) rfl ?_
        refine K.d_pu rfl (fun _ _ => X.fa) rfl ?_
        refine K.d_pu rfl (fun _ _ => X.mv) rfl ?_
        refine K.d_st rfl X.ld rfl ?_
        refine K.d_pu rfl (fun _ _ => X.cv) rfl ?_
        refine K.d_st rfl X.ld rfl ?_
        refine K.d_st rfl X.ld rfl ?_
        refine K.d_pu rfl (fun _ _ => X.ia) rfl ?_
        refine K.d_st rfl (K.p_load (v := .int .i64 c) (Fx.agg rfl) rfl (Cels.up hcy).1) rfl ?_
        refine K.d_st rfl X.ld rfl ?_
        refine K.d_on rfl (fun KK hKK => ?_)
        refine K.l_callV (Fx.cal rfl) rfl (RNum hb 4) (K.pp [] rfl) rfl rfl ?_
        simp only [List.nil_append]
        refine K.l_nil ?_
        refine X.onE hKK ?_
        refine K.d_on rfl (fun KK hKK => ?_)
        refine K.l_callV (Fx.cal rfl) rfl (RNum hb t.id) (K.pp [] rfl) rfl rfl ?_
        simp only [List.nil_append]
        refine K.l_nil ?_
        refine X.onE hKK ?_
        refine K.d_on rfl (fun KK hKK => ?_)
        refine K.l_callV (Fx.cal rfl) rfl (RNum hb i) (K.pp [] rfl) rfl rfl ?_
        simp only [List.nil_append]
        refine K.l_nil ?_
        refine X.onE hKK ?_
        refine K.d_on rfl (fun KK hKK => ?_)
        refine K.l_callV (Fx.cal rfl) rfl (RNum hb c) (K.pp [] rfl) rfl rfl ?_
        simp only [List.nil_append]
        refine K.l_nil ?_
        refine X.onE hKK ?_
        refine K.d_on rfl (fun KK hKK => ?_)
        refine K.l_buildSlice (Fx.und rfl) (Fx.sz rfl) rfl (Fx.zr rfl) rfl rfl rfl rfl rfl (fun B0 => ?_)
        refine K.WL.bufOf (m := 6) (s := 3) rfl (by unfold maxLen; omega) ?_
        refine K.WL.freezeRow (es := (keyRow t i c).map cV) (threeV _) (fun h1 hle2 hs1 _ => ?_)
        refine K.l_nil ?_
        refine X.onE hKK ?_
        refine K.d_on rfl (fun KK hKK => ?_)
        refine X.bs (fun B => ?_)
        refine K.l_nil ?_
        refine X.onE hKK ?_
        refine K.d_on rfl (fun KK hKK => ?_)
        refine K.l_append_at 1 rfl (Fx.und rfl) (Fx.und rfl) rfl (Fx.sz rfl) (Fx.zr rfl) rfl (Fx.byt rfl) rfl rfl (K.src_cells (K.cels_own (pre := []) (cs := [bufV (some B0) 6 6]) (post := []) 0 rfl rfl) rfl (by simp [oneCell, bufV])) (by omega) (by omega) rfl (fun a3 k3 => ?_)
        simp only [List.set_cons_zero, List.set_cons_succ, List.eraseIdx_cons_zero, List.eraseIdx_cons_succ, List.cons_append, List.nil_append]
        refine K.l_nil ?_
        refine X.onE hKK ?_
        refine K.d_pu rfl (fun _ _ => X.sg) rfl ?_
        refine K.d_nil ?_
        (repeat' (first | refine X.rq ?_ | (refine X.rc ?_ ?_ <;> intro hc <;> first | (exfalso; omega) | skip)))
        have hee : Each (RowC h1) (es ++ [[bufV (some B0) 6 6]]) (acc ++ (idxRows t).take (i + 1 + 1)) := by
          rw [htk, ← List.append_assoc]
          exact Each.snoc (hes.mono fun x c hc => hc.le hle2) ⟨_, rfl, hs1⟩
        refine K.AT.sel [0] rfl ?_
        refine K.a_round hKM ⟨i + 1, h1, a3, k3, es ++ [[bufV (some B0) 6 6]]⟩ ⟨by simp only; omega, hle'.trans hle2, hee⟩ (by repeat (first | exact K.Sub.nil _ | refine K.Sub.cons rfl ?_)) rfl (by simp only; rw [List.flatten_append]; rfl) (by simp only; omega)
      · obtain rfl : i = t.cols.length := by omega
        rw [idx_all, ← hfl] at hes
        have hln : acc.length + (t.cols.length + 1) = (s.tabs.flatMap tabRows ++ (s.idxs.take (j + 1)).flatMap idxRows).length := by rw [hfl, List.length_append, htl]
        rw [hln]
        (repeat' (first | refine X.rq ?_ | (refine X.rc ?_ ?_ <;> intro hc <;> first | (exfalso; omega) | skip)))
        refine K.AT.sel [1] rfl ?_
        refine K.a_round hKL ⟨j + 1, hb, a, k, es⟩ ⟨by simp only; omega, hle', hes⟩ (by repeat (first | exact K.Sub.nil _ | refine K.Sub.cons rfl ?_)) rfl rfl (by simp only; omega)
    · obtain rfl : j = s.idxs.length := by omega
      rw [List.take_length] at hes ⊢
      (repeat' (first | refine X.rq ?_ | (refine X.rc ?_ ?_ <;> intro hc <;> first | (exfalso; omega) | skip)))
      rw [← hes.len]
      refine K.AT.perm (K.pp [0] rfl) (K.AT.freezeRow (Each.all hes fun x c hc => hc.one) (fun h3 hle3 hs3 _ => ?_))
      simp only [List.set_cons_zero, List.set_cons_succ, List.eraseIdx_cons_zero, List.eraseIdx_cons_succ, List.cons_append, List.nil_append]
      refine K.AT.sel [0, 0] rfl ?_
      refine K.done (.inl rfl) rfl (hle.trans hle3) (H' := []) rfl ⟨rfl, es, hs3, hes.mono fun x c hc => hc.le hle3⟩
end Go.Proofs.Ytdjacjhojbkgjaa.Ct
