/-
  Trees of pages: a cell among others, the document's; half of a row; cells that come up. Conditions: each theorem's own.
-/
import Derived.Test.YtahdbncfegedjaaXj

namespace Go.Proofs.Ytahdbncfegedjaa.Nd
open Go Go.K Go.Proofs Go.Proofs.Ytahdbncfegedjaa Go.Proofs.Ytahdbncfegedjaa.Pg
set_option linter.unusedVariables false
set_option linter.unusedSimpArgs false
set_option maxRecDepth 10000

def Ord (kind : Int) (l : List PCell) (c : PCell) : Prop := ∀ (i : Nat) y, l[i]? = some y → (lt8 (keyQ kind y) (keyQ kind c) = true ↔ i < atQ kind l c)
theorem ord_of {kind : Int} {l : List PCell} (c : PCell) (h : l.Pairwise fun a b => lt8 (keyQ kind a) (keyQ kind b) = true) : Ord kind l c := by
  intro i y hy
  unfold atQ
  constructor
  · intro hl
    rcases Nat.lt_or_ge i (l.takeWhile fun y => lt8 (keyQ kind y) (keyQ kind c)).length with h1 | h1
    · exact h1
    · exfalso
      have hsp := List.takeWhile_append_dropWhile (p := fun y => lt8 (keyQ kind y) (keyQ kind c)) (l := l)
      obtain ⟨A, hA⟩ : ∃ A, A = l.takeWhile fun y => lt8 (keyQ kind y) (keyQ kind c) := ⟨_, rfl⟩
      obtain ⟨D, hD⟩ : ∃ D, D = l.dropWhile fun y => lt8 (keyQ kind y) (keyQ kind c) := ⟨_, rfl⟩
      rw [← hA, ← hD] at hsp
      rw [← hA] at h1
      rw [← hsp, List.getElem?_append_right h1] at hy
      cases hd : D with
      | nil => rw [hd] at hy; simp at hy
      | cons z D' =>
        have hz : lt8 (keyQ kind z) (keyQ kind c) = false := by
          have := List.head?_dropWhile_not (fun y => lt8 (keyQ kind y) (keyQ kind c)) l
          rw [← hD, hd] at this
          simpa using this
        have hpw : (z :: D').Pairwise fun a b => lt8 (keyQ kind a) (keyQ kind b) = true := by
          rw [← hsp, hd] at h
          exact (List.pairwise_append.1 h).2.1
        rw [hd] at hy
        rcases List.mem_cons.1 (List.mem_of_getElem? hy) with rfl | hm
        · rw [hz] at hl; cases hl
        · have := lt8_trans ((List.pairwise_cons.1 hpw).1 y hm) hl
          rw [hz] at this; cases this
  · intro hl
    have h2 : (l.takeWhile fun y => lt8 (keyQ kind y) (keyQ kind c))[i]? = some y := by
      have h3 := List.getElem?_eq_getElem hl
      have hsp := List.takeWhile_append_dropWhile (p := fun y => lt8 (keyQ kind y) (keyQ kind c)) (l := l)
      rw [← hsp, List.getElem?_append_left hl] at hy
      exact hy
    have := List.mem_of_getElem? h2
    have h3 := List.all_takeWhile (p := fun y => lt8 (keyQ kind y) (keyQ kind c)) (l := l)
    exact List.all_eq_true.1 h3 y this
set_option maxHeartbeats 1000000 in
theorem RAmong (h : Base) (kind : Int) (v : Value) (l : List PCell) (cc : List Value) (c : PCell) (hv : CellsV h v l) (hc : CellC h cc c) (h0 : 0 < l.length) (hl : l.length ≤ 100000) (h4 : kind = 3 → ∀ x ∈ l, 4 ≤ x.data.length) (h4c : kind = 3 → 4 ≤ c.data.length) (hord : Ord kind l c) :
    Tr Try.prog 69 [.int .i64 kind, v, .agg cc.toArray] h [] (fun u h' H' => H' = [] ∧ ∃ w, u = .tuple #[w, .int .i64 (atQ kind l c)] ∧ CellsV h' w (insQ kind l c)) := by
  obtain ⟨es, hs, hrow⟩ := CellsV.row hv
  have hel := hrow.1
  obtain ⟨ao, ca, rfl⟩ := hs.len
  rw [hel] at hs ⊢
  have hc0 := hc
  obtain ⟨hkl, hdl, ao3, ca3, rfl, hbv⟩ := hc
  have hat : atQ kind l c ≤ l.length := (List.takeWhile_sublist _).length_le
  have h1 := RowC.ones hrow
  refine K.enter Try.func69 rfl (Nat.le_of_ble_eq_true rfl) (fun F => ?_)
  (repeat' (first | refine X.rq ?_ | (refine X.rc ?_ ?_ <;> intro hc <;> first | (exfalso; omega) | skip)))
  refine K.l_box rfl rfl rfl (fun B5 => ?_)
  (repeat' (first | refine X.rq ?_ | (refine X.rc ?_ ?_ <;> intro hc <;> first | (exfalso; omega) | skip)))
  refine K.c_loop (σ := Nat) (fun j => [(0, .int .i64 kind), (1, .slice ao l.length ca), (5, .pointer (some ⟨B5, 0, none⟩)), (8, .slice none 0 0), (9, .int .i64 (min j (atQ kind l c) : Nat)), (10, .int .i64 j)]) (fun _ => h) (fun _ => blk B5 52 [.bool c.used, .int .u32 c.killer, .slice ao3 c.data.length ca3] :: F)
    (fun j => j ≤ l.length) (fun j => l.length - j) 0 (Nat.zero_le _) (by rw [Nat.zero_min]; exact (by repeat (first | exact K.Sub.nil _ | refine K.Sub.cons rfl ?_))) rfl rfl ?_
  rintro j hj KL hKL
  by_cases hjl : j < l.length
  · have hc1 : es[j]? = some (es[j]'(by omega)) := List.getElem?_eq_getElem (by omega)
    have hcz : es[((j : Nat) : Int).toNat]? = some (es[j]'(by omega)) := by rw [Int.toNat_natCast]; exact hc1
    have he1 : l[j]? = some l[j] := List.getElem?_eq_getElem hjl
    have hx4 := fun h3 => h4 h3 _ (List.getElem_mem hjl)
    generalize es[j]'(by omega) = ec at hc1 hcz
    generalize l[j] = x at he1 hx4
    have hox := hord j x he1
    have hcc := hrow.2.2 j ec x hc1 he1
    have hcc0 := hcc
    obtain ⟨hk2, hd2, ao4, ca4, rfl, hb2⟩ := hcc
    (repeat' (first | refine X.rq ?_ | (refine X.rc ?_ ?_ <;> intro hc <;> first | (exfalso; omega) | skip)))
    refine X.draw ([blk B5 52 [.bool c.used, .int .u32 c.killer, .slice ao3 c.data.length ca3]]) [] (.pu 0 (.pu 1 (.pu 2 (.pu 6 (.st 3 (.st 4 (.st 7 (.on 5 (.on 8 (.pu 9 .nil)))))))))) ?_
    refine K.d_pu rfl (fun _ _ => X.mv) rfl ?_
    refine K.d_pu rfl (fun _ _ => X.mv) rfl ?_
    refine K.d_pu rfl (fun _ _ => X.mv) rfl ?_
    refine K.d_pu rfl (fun _ _ => X.mv) rfl ?_
    refine K.d_stE rfl (K.p_indexL hs (Fx.und rfl) (Fx.sz rfl) rfl rfl (by omega) hcz) rfl ?_
    rintro v2 ⟨b, o, rfl, hcel⟩
    refine K.d_st rfl (K.p_loadM (Fx.agg rfl) rfl (Cels.up hcel) (Fx.sz rfl) rfl) rfl ?_
    refine K.d_st rfl X.ld rfl ?_
    refine K.d_on rfl (fun KK hKK => ?_)
    refine K.l_callV (Fx.cal rfl) rfl (ROrderC h kind _ x hcc0 hx4) (K.pp [] rfl) rfl rfl ?_
    simp only [List.nil_append]
    refine K.l_nil ?_
    refine X.onE hKK ?_
    refine K.d_on rfl (fun KK hKK => ?_)
    refine K.l_callV (Fx.cal rfl) rfl (ROrderC h kind _ c hc0 h4c) (K.pp [] rfl) rfl rfl ?_
    simp only [List.nil_append]
    refine K.l_nil ?_
    refine X.onE hKK ?_
    refine K.d_pu rfl (fun _ _ => X.blss) rfl ?_
    refine K.d_nil ?_
    rw [txt_lt]
    cases hb : lt8 (keyQ kind x) (keyQ kind c) with
    | true =>
      have := hox.1 hb
      (repeat' (first | refine X.rq ?_ | (refine X.rc ?_ ?_ <;> intro hc <;> first | (exfalso; omega) | skip)))
      refine K.a_round hKL (j + 1) (by omega) (by rw [show min (j + 1) (atQ kind l c) = j + 1 by omega]; exact (by repeat (first | exact K.Sub.nil _ | refine K.Sub.cons rfl ?_))) rfl rfl (by omega)
    | false =>
      have : ¬ j < atQ kind l c := fun h => by rw [hox.2 h] at hb; cases hb
      rw [show min j (atQ kind l c) = min (j + 1) (atQ kind l c) by omega]
      (repeat' (first | refine X.rq ?_ | (refine X.rc ?_ ?_ <;> intro hc <;> first | (exfalso; omega) | skip)))
      refine K.a_round hKL (j + 1) (by omega) (by repeat (first | exact K.Sub.nil _ | refine K.Sub.cons rfl ?_)) rfl rfl (by omega)
  · obtain rfl : j = l.length := by omega
    rw [show min l.length (atQ kind l c) = atQ kind l c by omega]
    (repeat' (first | refine X.rq ?_ | (refine X.rc ?_ ?_ <;> intro hc <;> first | (exfalso; omega) | skip)))
    have hrr := RowC.ins hrow hc0 (atQ kind l c) hat
    have hzz : l.length + 1 = (es.take (atQ kind l c) ++ [.bool c.used, .int .u32 c.killer, .slice ao3 c.data.length ca3] :: es.drop (atQ kind l c)).length := by simp; omega
    have e7 : insQ kind l c = l.take (atQ kind l c) ++ c :: l.drop (atQ kind l c) := rfl
    rw [e7]
    generalize atQ kind l c = A at *
    refine K.s_pureE (K.p_sliceL (lo := none) (hi := some (.tmp 31)) (k1 := .i64) (k2 := .i64) (p := 0) (q := A) hs (Fx.und rfl) (Fx.sz rfl) rfl rfl ⟨_, rfl, rfl⟩ (by omega) (by omega)) rfl ?_
    intro v3 hs3
    rw [List.drop_zero] at hs3
    refine K.WL.nilBuf 52 3 ?_
    refine K.l_append_at 0 rfl (Fx.und rfl) (Fx.und rfl) rfl (Fx.sz rfl) (Fx.zr rfl) rfl (Fx.byt rfl) rfl rfl (K.SL.src hs3 fun e he => h1 e (List.mem_of_mem_take he)) (by simp; omega) (by simp; omega) rfl (fun a6 cap6 => ?_)
    rw [List.length_take, hel, Nat.min_eq_left hat, Nat.zero_add, List.nil_append]
    simp only [List.set_cons_zero, List.set_cons_succ, List.eraseIdx_cons_zero, List.eraseIdx_cons_succ, List.cons_append, List.nil_append]
    (repeat' (first | refine X.rq ?_ | (refine X.rc ?_ ?_ <;> intro hc <;> first | (exfalso; omega) | skip)))
    refine K.l_buildSlice (Fx.und rfl) (Fx.sz rfl) rfl (Fx.zr rfl) rfl rfl rfl (cs := [.bool c.used, .int .u32 c.killer, .slice ao3 c.data.length ca3]) rfl rfl (fun B6 => ?_)
    refine K.l_append_at 1 rfl (Fx.und rfl) (Fx.und rfl) rfl (Fx.sz rfl) (Fx.zr rfl) rfl (Fx.byt rfl) rfl rfl (K.src_cells (K.cels_own (pre := []) (cs := [.bool c.used, .int .u32 c.killer, .slice ao3 c.data.length ca3]) (post := []) 0 rfl rfl) rfl (by simp [oneCell])) (by omega) (by omega) rfl (fun a7 cap7 => ?_)
    simp only [List.set_cons_zero, List.set_cons_succ, List.eraseIdx_cons_zero, List.eraseIdx_cons_succ, List.cons_append, List.nil_append]
    (repeat' (first | refine X.rq ?_ | (refine X.rc ?_ ?_ <;> intro hc <;> first | (exfalso; omega) | skip)))
    refine K.s_pureE (K.p_sliceL (lo := some (.tmp 40)) (hi := none) (k1 := .i64) (k2 := .i64) (p := A) (q := l.length) hs (Fx.und rfl) (Fx.sz rfl) rfl ⟨_, rfl, rfl⟩ hel.symm (by omega) (by omega)) rfl ?_
    intro v4 hs4
    rw [List.take_of_length_le (by omega)] at hs4
    refine K.l_append_at 1 rfl (Fx.und rfl) (Fx.und rfl) rfl (Fx.sz rfl) (Fx.zr rfl) rfl (Fx.byt rfl) rfl rfl (K.SL.src hs4 fun e he => h1 e (List.mem_of_mem_drop he)) (by simp; omega) (by simp; omega) rfl (fun a8 cap8 => ?_)
    rw [List.length_drop, hel, show A + 1 + (l.length - A) = l.length + 1 by omega, show (es.take A).flatten ++ [.bool c.used, .int .u32 c.killer, .slice ao3 c.data.length ca3] ++ (es.drop A).flatten = (es.take A ++ [.bool c.used, .int .u32 c.killer, .slice ao3 c.data.length ca3] :: es.drop A).flatten by simp, hzz]
    simp only [List.set_cons_zero, List.set_cons_succ, List.eraseIdx_cons_zero, List.eraseIdx_cons_succ, List.cons_append, List.nil_append]
    (repeat' (first | refine X.rq ?_ | (refine X.rc ?_ ?_ <;> intro hc <;> first | (exfalso; omega) | skip)))
    refine K.AT.sel [0] rfl ?_
    refine K.AT.freezeRow hrr.2.1 (fun h1 le1 hs1 _ => ?_)
    exact K.doneC (vs := [_, .int .i64 A]) (by first | exact Or.inl rfl | exact Or.inr rfl) (.tmp rfl (.tmp rfl .nil)) le1 (D := [_]) (H' := []) rfl ⟨rfl, _, rfl, CellsV.of hs1 (hrr.le le1)⟩
end Go.Proofs.Ytahdbncfegedjaa.Nd
