/-
  The schema that rows say: the document's Read walked; rows in memory of their own. Conditions: each theorem's own.
-/
import Derived.Test.YtdjacjhojbkgjaaGreatQ36
namespace Go.Proofs.YtdjacjhojbkgjaaGreat.Ct
open Go Go.K Go.Proofs Go.Proofs.YtdjacjhojbkgjaaGreat Go.Proofs.YtdjacjhojbkgjaaGreat.Rw
set_option linter.unusedVariables false
set_option linter.unusedSimpArgs false
set_option maxRecDepth 10000

structure OwR where
  j : Nat
  hb : Base
  a : Option Nat
  k : Nat
  es : List (List Value)
set_option maxHeartbeats 4000000 in
theorem OwnRows (h : Base) (v : Value) (l : List (List Val)) (hv : RowsV h l v) (hrl : ∀ r ∈ l, r.length ≤ 4398046511104) (hl : l.length ≤ 10000) :
    Tr Tryz.prog 21 [v] h [] (fun u h' H' => H' = [] ∧ RowsV h' l u) := by
  obtain ⟨es0, hvl, hes0⟩ := hv
  obtain ⟨ao, ca, rfl⟩ := hvl.len
  rw [hes0.len] at hvl ⊢
  refine K.enter Tryz.func21 rfl (Nat.le_of_ble_eq_true rfl) (fun F => ?_)
  simp only [List.nil_append, List.cons_append]
  (repeat' (first | refine X.rq ?_ | (refine X.rc ?_ ?_ <;> intro hc <;> first | (exfalso; omega) | skip)))
  refine K.WC.nilBuf 72 1 ?_
  refine K.c_loop (σ := OwR) (fun q => [(0, .slice ao l.length ca), (3, bufV q.a q.j q.k), (4, .int .i64 q.j)]) (fun q => q.hb) (fun q => bufA 72 1 q.a q.j q.k q.es.flatten :: F)
    (fun q => q.j ≤ l.length ∧ h.le q.hb ∧ Each (RowC q.hb) q.es (l.take q.j)) (fun q => l.length - q.j) ⟨0, h, none, 0, []⟩ ⟨Nat.zero_le _, K.Base.le.refl _, Each.nil⟩ (by repeat (first | exact K.Sub.nil _ | refine K.Sub.cons rfl ?_)) rfl rfl ?_
  rintro ⟨j, hb, a, k, es⟩ ⟨hj, hle, hes⟩ KL hKL
  simp only at hj hle hes ⊢
  by_cases hjl : j < l.length
  · have hx1 : l[j]? = some l[j] := List.getElem?_eq_getElem hjl
    have hxl := hrl _ (List.getElem_mem hjl)
    generalize l[j] = r at hx1 hxl
    have htk := (take_at hx1).1
    obtain ⟨c, hc0, v1, rfl, hvr⟩ := hes0.get hx1
    have hlr : (r.map cV).length = r.length := List.length_map ..
    have hsrc : ∀ KK, Src Tryz.prog hb KK 3 v1 r.length (r.map cV).flatten := fun KK => by
      have := K.SL.src (P := Tryz.prog) (K := KK) (hvr.le hle) (fun e he => by
        obtain ⟨x, _, rfl⟩ := List.mem_map.1 he
        rfl)
      rwa [hlr] at this
    obtain ⟨bb, oo, rfl, hcx⟩ := (hvl.le hle).at hc0
    obtain ⟨av, cv, rfl⟩ := hvr.len
    (repeat' (first | refine X.rq ?_ | (refine X.rc ?_ ?_ <;> intro hc <;> first | (exfalso; omega) | skip)))
    refine K.l_buildSlice (Fx.und rfl) (Fx.sz rfl) rfl (Fx.zr rfl) rfl rfl rfl rfl rfl (fun B => ?_)
    refine K.WL.bufOf (m := 0) (s := 3) rfl (by unfold maxLen; omega) ?_
    (repeat' (first | refine X.rq ?_ | (refine X.rc ?_ ?_ <;> intro hc <;> first | (exfalso; omega) | skip)))
    refine K.s_pure (K.p_load (v := .slice av _ cv) (Fx.agg rfl) rfl (Cels.up hcx).1) rfl ?_
    refine K.l_append_at 0 rfl (Fx.und rfl) (Fx.und rfl) rfl (Fx.sz rfl) (Fx.zr rfl) rfl (Fx.byt rfl) rfl rfl (hsrc _) (by omega) (by omega) rfl (fun a1 k1 => ?_)
    simp only [List.set_cons_zero, List.set_cons_succ, List.eraseIdx_cons_zero, List.eraseIdx_cons_succ, List.cons_append, List.nil_append]
    simp only [Nat.zero_add, cellsL, List.nil_append]
    refine K.WL.freezeRowN (m := r.length) hlr.symm (threeV _) (fun h2 hle2 hs2 => ?_)
    refine K.l_buildSlice (Fx.und rfl) (Fx.sz rfl) rfl (Fx.zr rfl) rfl rfl rfl rfl rfl (fun B => ?_)
    refine K.l_append_at 1 rfl (Fx.und rfl) (Fx.und rfl) rfl (Fx.sz rfl) (Fx.zr rfl) rfl (Fx.byt rfl) rfl rfl (K.src_cells (K.cels_own (pre := []) (cs := [bufV a1 r.length k1]) (post := []) 0 rfl rfl) rfl (by simp [oneCell, bufV])) (by omega) (by omega) rfl (fun a3 k3 => ?_)
    simp only [List.set_cons_zero, List.set_cons_succ, List.eraseIdx_cons_zero, List.eraseIdx_cons_succ, List.cons_append, List.nil_append]
    (repeat' (first | refine X.rq ?_ | (refine X.rc ?_ ?_ <;> intro hc <;> first | (exfalso; omega) | skip)))
    have hee : Each (RowC h2) (es ++ [[bufV a1 r.length k1]]) (l.take (j + 1)) := by
      rw [htk]
      exact Each.snoc (hes.mono fun x c hc => RowC.le hc hle2) ⟨_, rfl, hs2⟩
    refine K.AT.sel [0] rfl ?_
    refine K.a_round hKL ⟨j + 1, h2, a3, k3, es ++ [[bufV a1 r.length k1]]⟩ ⟨by simp only; omega, hle.trans hle2, hee⟩ (by repeat (first | exact K.Sub.nil _ | refine K.Sub.cons rfl ?_)) rfl (by simp only; rw [List.flatten_append]; rfl) (by simp only; omega)
  · obtain rfl : j = l.length := by omega
    rw [List.take_length] at hes
    (repeat' (first | refine X.rq ?_ | (refine X.rc ?_ ?_ <;> intro hc <;> first | (exfalso; omega) | skip)))
    refine K.AT.perm (K.pp [0] rfl) (AT.freezeRowN (es := es) rfl hes.len.symm (Each.all hes fun x c hc => hc.one) (fun h3 hle3 hs3 => ?_))
    refine K.done (.inl rfl) rfl (hle.trans hle3) (H' := []) rfl ⟨rfl, es, hs3, hes.mono fun x c hc => RowC.le hc hle3⟩
end Go.Proofs.YtdjacjhojbkgjaaGreat.Ct
