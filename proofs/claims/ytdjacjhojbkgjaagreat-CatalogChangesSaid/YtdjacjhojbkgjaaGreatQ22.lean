/-
  A table's indexes: the code's and the document's; all heads and roots: the document's. Conditions: each theorem's own.
-/
import Derived.Test.YtdjacjhojbkgjaaGreatQ21
namespace Go.Proofs.YtdjacjhojbkgjaaGreat.Ct
open Go Go.K Go.Proofs Go.Proofs.YtdjacjhojbkgjaaGreat Go.Proofs.YtdjacjhojbkgjaaGreat.Rw
set_option linter.unusedVariables false
set_option linter.unusedSimpArgs false
set_option maxRecDepth 10000

abbrev onQ (s : PSch) (id : Nat) : List PIdx := s.idxs.filter fun x => decide (x.table = id)
def pgV (n : Nat) : Value := .int .u32 n
structure PgR where
  j : Nat
  a : Option Nat
  k : Nat
set_option maxHeartbeats 4000000 in
theorem RPages (h : Base) (cs : List Value) (s : PSch) (hs : SchC h s cs) (hw : wfS s) :
    Tr Tryz.prog 69 [.agg cs.toArray] h [] (fun u h' H' => H' = [] ∧ SL h' 1 u ((pagesQ s).map fun n => [pgV n])) := by
  obtain ⟨vt, vi, ts, is, rfl, hvt, ht, hvi, hi⟩ := hs
  obtain ⟨ao, ca, rfl⟩ := hvt.len
  rw [ht.len] at hvt ⊢
  obtain ⟨ai, ci, rfl⟩ := hvi.len
  rw [hi.len] at hvi ⊢
  have hlt := hw.lt
  have hli := hw.li
  refine K.enter Tryz.func69 rfl (Nat.le_of_ble_eq_true rfl) (fun F => ?_)
  simp only [List.nil_append, List.cons_append]
  (repeat' (first | refine X.rq ?_ | (refine X.rc ?_ ?_ <;> intro hc <;> first | (exfalso; omega) | skip)))
  refine K.l_box rfl rfl rfl (fun BS => ?_)
  (repeat' (first | refine X.rq ?_ | (refine X.rc ?_ ?_ <;> intro hc <;> first | (exfalso; omega) | skip)))
  refine K.WC.nilBuf 28 1 ?_
  refine K.c_loop (σ := PgR) (fun q => [(1, .pointer (some ⟨BS, 0, none⟩)), (3, bufV q.a q.j q.k), (4, .int .i64 q.j)]) (fun _ => h)
    (fun q => bufA 28 1 q.a q.j q.k (((pagesQ s).take q.j).map pgV) :: blk BS 25 [.slice ao s.tabs.length ca, .slice ai s.idxs.length ci] :: F)
    (fun q => q.j ≤ s.tabs.length) (fun q => s.tabs.length - q.j) ⟨0, none, 0⟩ (Nat.zero_le _) (by repeat (first | exact K.Sub.nil _ | refine K.Sub.cons rfl ?_)) rfl rfl ?_
  rintro ⟨j, a, k⟩ hj KL hKL
  simp only at hj ⊢
  by_cases hjl : j < s.tabs.length
  · have hx1 : s.tabs[j]? = some s.tabs[j] := List.getElem?_eq_getElem hjl
    generalize s.tabs[j] = t at hx1
    have hp1 : (pagesQ s)[j]? = some t.head := by
      rw [pagesQ, List.getElem?_append_left (by simpa using hjl), List.getElem?_map, hx1]
      rfl
    obtain ⟨htk, _⟩ := take_at hp1
    obtain ⟨q, hc0, v1, rfl, hcv⟩ := ht.get hx1
    obtain ⟨bb, oo, rfl, hcx⟩ := hvt.at hc0
    (repeat' (first | refine X.rq ?_ | (refine X.rc ?_ ?_ <;> intro hc <;> first | (exfalso; omega) | skip)))
    refine K.s_pure (K.p_load (v := .int .u32 t.head) (Fx.agg rfl) rfl (Cels.up hcx).2.2.2.1) rfl ?_
    refine K.l_buildSlice (Fx.und rfl) (Fx.sz rfl) rfl (Fx.zr rfl) rfl rfl rfl rfl rfl (fun B => ?_)
    refine K.l_append_at 1 rfl (Fx.und rfl) (Fx.und rfl) rfl (Fx.sz rfl) (Fx.zr rfl) rfl (Fx.byt rfl) rfl rfl (K.src_cells (K.cels_own (pre := []) (cs := [pgV t.head]) (post := []) 0 rfl rfl) rfl (by simp [oneCell, pgV])) (by omega) (by omega) rfl (fun a3 k3 => ?_)
    simp only [List.set_cons_zero, List.set_cons_succ, List.eraseIdx_cons_zero, List.eraseIdx_cons_succ, List.cons_append, List.nil_append]
    (repeat' (first | refine X.rq ?_ | (refine X.rc ?_ ?_ <;> intro hc <;> first | (exfalso; omega) | skip)))
    refine K.AT.sel [0] rfl ?_
    refine K.a_round hKL ⟨j + 1, a3, k3⟩ (by simp only; omega) (by repeat (first | exact K.Sub.nil _ | refine K.Sub.cons rfl ?_)) rfl (by simp only; rw [htk, List.map_append]; rfl) (by simp only; omega)
  · obtain rfl : j = s.tabs.length := by omega
    (repeat' (first | refine X.rq ?_ | (refine X.rc ?_ ?_ <;> intro hc <;> first | (exfalso; omega) | skip)))
    refine K.c_loop (σ := PgR) (fun q => [(1, .pointer (some ⟨BS, 0, none⟩)), (3, bufV q.a (s.tabs.length + q.j) q.k), (5, .int .i64 q.j)]) (fun _ => h)
      (fun q => bufA 28 1 q.a (s.tabs.length + q.j) q.k (((pagesQ s).take (s.tabs.length + q.j)).map pgV) :: blk BS 25 [.slice ao s.tabs.length ca, .slice ai s.idxs.length ci] :: F)
      (fun q => q.j ≤ s.idxs.length) (fun q => s.idxs.length - q.j) ⟨0, a, k⟩ (Nat.zero_le _) (by repeat (first | exact K.Sub.nil _ | refine K.Sub.cons rfl ?_)) rfl rfl ?_
    clear hKL KL hj hjl
    rintro ⟨j, a, k⟩ hj KL hKL
    simp only at hj ⊢
    by_cases hjl : j < s.idxs.length
    · have hx1 : s.idxs[j]? = some s.idxs[j] := List.getElem?_eq_getElem hjl
      generalize s.idxs[j] = t at hx1
      have hp1 : (pagesQ s)[s.tabs.length + j]? = some t.root := by
        rw [pagesQ, List.getElem?_append_right (by simp), List.length_map, Nat.add_sub_cancel_left, List.getElem?_map, hx1]
        rfl
      obtain ⟨htk, _⟩ := take_at hp1
      obtain ⟨q, hc0, v1, rfl, hcv⟩ := hi.get hx1
      obtain ⟨bb, oo, rfl, hcx⟩ := hvi.at hc0
      (repeat' (first | refine X.rq ?_ | (refine X.rc ?_ ?_ <;> intro hc <;> first | (exfalso; omega) | skip)))
      refine K.s_pure (K.p_load (v := .int .u32 t.root) (Fx.agg rfl) rfl (Cels.up hcx).2.2.2.2.2.1) rfl ?_
      refine K.l_buildSlice (Fx.und rfl) (Fx.sz rfl) rfl (Fx.zr rfl) rfl rfl rfl rfl rfl (fun B => ?_)
      refine K.l_append_at 1 rfl (Fx.und rfl) (Fx.und rfl) rfl (Fx.sz rfl) (Fx.zr rfl) rfl (Fx.byt rfl) rfl rfl (K.src_cells (K.cels_own (pre := []) (cs := [pgV t.root]) (post := []) 0 rfl rfl) rfl (by simp [oneCell, pgV])) (by omega) (by omega) rfl (fun a3 k3 => ?_)
      simp only [List.set_cons_zero, List.set_cons_succ, List.eraseIdx_cons_zero, List.eraseIdx_cons_succ, List.cons_append, List.nil_append]
      (repeat' (first | refine X.rq ?_ | (refine X.rc ?_ ?_ <;> intro hc <;> first | (exfalso; omega) | skip)))
      refine K.AT.sel [0] rfl ?_
      refine K.a_round hKL ⟨j + 1, a3, k3⟩ (by simp only; omega) (by repeat (first | exact K.Sub.nil _ | refine K.Sub.cons rfl ?_)) rfl (by simp only; rw [← Nat.add_assoc, htk, List.map_append]; rfl) (by simp only; omega)
    · obtain rfl : j = s.idxs.length := by omega
      have hfull : (pagesQ s).take (s.tabs.length + s.idxs.length) = pagesQ s := List.take_of_length_le (by simp [pagesQ])
      have hpl : (pagesQ s).length = s.tabs.length + s.idxs.length := by simp [pagesQ]
      have hfl : (pagesQ s).map pgV = ((pagesQ s).map fun n => [pgV n]).flatten := by
        induction pagesQ s with
        | nil => rfl
        | cons x r ih => simp [ih]
      have hml : s.tabs.length + s.idxs.length = ((pagesQ s).map fun n => [pgV n]).length := by rw [List.length_map, hpl]
      rw [hfull, hfl, hml]
      (repeat' (first | refine X.rq ?_ | (refine X.rc ?_ ?_ <;> intro hc <;> first | (exfalso; omega) | skip)))
      refine K.AT.perm (K.pp [0] rfl) (K.AT.freezeRow (fun e he => by obtain ⟨x, _, rfl⟩ := List.mem_map.1 he; rfl) (fun h3 hle3 hs3 _ => ?_))
      simp only [List.set_cons_zero, List.set_cons_succ, List.eraseIdx_cons_zero, List.eraseIdx_cons_succ, List.cons_append, List.nil_append]
      refine K.AT.sel [0] rfl ?_
      refine K.done (.inl rfl) rfl hle3 (H' := []) rfl ⟨rfl, hs3⟩
end Go.Proofs.YtdjacjhojbkgjaaGreat.Ct
