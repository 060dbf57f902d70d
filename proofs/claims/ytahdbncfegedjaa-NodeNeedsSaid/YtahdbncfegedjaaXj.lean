/-
  Trees of pages: what cells are ordered by; one put among others. Conditions: each theorem's own.
-/
import Derived.Test.YtahdbncfegedjaaXi

namespace Go.Proofs.Ytahdbncfegedjaa.Nd
open Go Go.K Go.Proofs Go.Proofs.Ytahdbncfegedjaa Go.Proofs.Ytahdbncfegedjaa.Pg
set_option linter.unusedVariables false
set_option linter.unusedSimpArgs false
set_option maxRecDepth 10000

theorem KeyC (h : Base) (kind : Int) (c : List Value) (x : PCell) (hx : CellC h c x) (h4 : kind = 3 → 4 ≤ x.data.length) : TrV Try.prog 45 [.int .i64 kind, .agg c.toArray] h [] (txt (keyQ kind x)) [] := by
  have hx0 := hx
  obtain ⟨hkl, hdl, ao3, ca3, rfl, hbv⟩ := hx
  refine K.enter Try.func45 rfl (Nat.le_of_ble_eq_true rfl) (fun F => ?_)
  (repeat' (first | refine X.rq ?_ | (refine X.rc ?_ ?_ <;> intro hc <;> first | (exfalso; omega) | skip)))
  refine K.l_box rfl rfl rfl (fun B => ?_)
  (repeat' (first | refine X.rq ?_ | (refine X.rc ?_ ?_ <;> intro hc <;> first | (exfalso; omega) | skip)))
  · have h3 : kind = 3 := by assumption
    rw [keyQ, if_pos h3]
    refine K.l_callV (Fx.cal rfl) rfl (SplitC h _ x hx0 (h4 h3)) (K.pp [] rfl) rfl rfl ?_
    simp only [List.set_cons_zero, List.set_cons_succ, List.eraseIdx_cons_zero, List.eraseIdx_cons_succ, List.cons_append, List.nil_append]
    (repeat' (first | refine X.rq ?_ | (refine X.rc ?_ ?_ <;> intro hc <;> first | (exfalso; omega) | skip)))
    refine K.AT.drop ?_
    refine K.done (by first | exact Or.inl rfl | exact Or.inr rfl) rfl (by first | exact K.Base.le.refl _ | assumption) (H' := []) rfl ⟨rfl, rfl, rfl⟩
  · have h3 : ¬ kind = 3 := by assumption
    rw [keyQ, if_neg h3]
    refine K.s_pure (K.p_textB hbv (Fx.und rfl) (Fx.und rfl) (Fx.und rfl) rfl) rfl ?_
    (repeat' (first | refine X.rq ?_ | (refine X.rc ?_ ?_ <;> intro hc <;> first | (exfalso; omega) | skip)))
    refine K.AT.drop ?_
    refine K.done (by first | exact Or.inl rfl | exact Or.inr rfl) rfl (by first | exact K.Base.le.refl _ | assumption) (H' := []) rfl ⟨rfl, rfl, rfl⟩
theorem ROrderC (h : Base) (kind : Int) (c : List Value) (x : PCell) (hx : CellC h c x) (h4 : kind = 3 → 4 ≤ x.data.length) : TrV Try.prog 90 [.int .i64 kind, .agg c.toArray] h [] (txt (keyQ kind x)) [] := by
  have hx0 := hx
  obtain ⟨hkl, hdl, ao3, ca3, rfl, hbv⟩ := hx
  refine K.enter Try.func90 rfl (Nat.le_of_ble_eq_true rfl) (fun F => ?_)
  (repeat' (first | refine X.rq ?_ | (refine X.rc ?_ ?_ <;> intro hc <;> first | (exfalso; omega) | skip)))
  refine K.l_box rfl rfl rfl (fun B => ?_)
  (repeat' (first | refine X.rq ?_ | (refine X.rc ?_ ?_ <;> intro hc <;> first | (exfalso; omega) | skip)))
  · have h3 : kind = 3 := by assumption
    rw [keyQ, if_pos h3]
    refine K.l_callV (Fx.cal rfl) rfl (RKey h _ x hx0 (h4 h3)) (K.pp [] rfl) rfl rfl ?_
    simp only [List.set_cons_zero, List.set_cons_succ, List.eraseIdx_cons_zero, List.eraseIdx_cons_succ, List.cons_append, List.nil_append]
    (repeat' (first | refine X.rq ?_ | (refine X.rc ?_ ?_ <;> intro hc <;> first | (exfalso; omega) | skip)))
    refine K.AT.drop ?_
    refine K.done (by first | exact Or.inl rfl | exact Or.inr rfl) rfl (by first | exact K.Base.le.refl _ | assumption) (H' := []) rfl ⟨rfl, rfl, rfl⟩
  · have h3 : ¬ kind = 3 := by assumption
    rw [keyQ, if_neg h3]
    refine K.s_pure (K.p_textB hbv (Fx.und rfl) (Fx.und rfl) (Fx.und rfl) rfl) rfl ?_
    (repeat' (first | refine X.rq ?_ | (refine X.rc ?_ ?_ <;> intro hc <;> first | (exfalso; omega) | skip)))
    refine K.AT.drop ?_
    refine K.done (by first | exact Or.inl rfl | exact Or.inr rfl) rfl (by first | exact K.Base.le.refl _ | assumption) (H' := []) rfl ⟨rfl, rfl, rfl⟩
def atQ (kind : Int) (l : List PCell) (c : PCell) : Nat := (l.takeWhile fun y => lt8 (keyQ kind y) (keyQ kind c)).length
def insQ (kind : Int) (l : List PCell) (c : PCell) : List PCell := l.take (atQ kind l c) ++ c :: l.drop (atQ kind l c)
theorem tw_len {α : Type} {p : α → Bool} : ∀ {l : List α} {j : Nat}, j ≤ l.length → (∀ (i : Nat) y, i < j → l[i]? = some y → p y = true) → (∀ y, l[j]? = some y → p y = false) → (l.takeWhile p).length = j
  | [], j, hj, _, _ => by simp at hj; simp [hj]
  | x :: l, 0, _, _, h2 => by simp [h2 x rfl]
  | x :: l, j + 1, hj, h1, h2 => by
    rw [List.takeWhile_cons, h1 0 x (by omega) rfl, if_pos rfl, List.length_cons, tw_len (by simpa using hj) (fun i y hi hy => h1 (i + 1) y (by omega) (by simpa using hy)) (fun y hy => h2 y (by simpa using hy))]
theorem CellsV.of {h : Base} {v : Value} {es : List (List Value)} {l : List PCell} (hv : SL h 3 v es) (hr : RowC h es l) : CellsV h v l := ⟨es, hv, hr.1, hr.2.2⟩
theorem RowC.ins {h : Base} {es : List (List Value)} {l : List PCell} {c : List Value} {x : PCell} (hr : RowC h es l) (hc : CellC h c x) (i : Nat) (hi : i ≤ l.length) : RowC h (es.take i ++ c :: es.drop i) (l.take i ++ x :: l.drop i) := by
  obtain ⟨h1, h2, h3⟩ := hr
  refine ⟨by simp [h1], fun e he => ?_, fun j c' x' hj hx => ?_⟩
  · rcases List.mem_append.1 he with he | he
    · exact h2 e (List.mem_of_mem_take he)
    · rcases List.mem_cons.1 he with rfl | he
      · exact hc.three
      · exact h2 e (List.mem_of_mem_drop he)
  · by_cases hji : j < i
    · rw [List.getElem?_append_left (by simp; omega), List.getElem?_take, if_pos hji] at hj hx
      exact h3 j c' x' hj hx
    · rw [List.getElem?_append_right (by simp; omega)] at hj hx
      simp only [List.length_take, h1, Nat.min_eq_left hi] at hj hx
      cases hk : j - i with
      | zero =>
        rw [hk] at hj hx
        simp at hj hx
        subst hj; subst hx; exact hc
      | succ k =>
        rw [hk, List.getElem?_cons_succ, List.getElem?_drop] at hj hx
        exact h3 _ c' x' hj hx
theorem CellsV.row {h : Base} {v : Value} {l : List PCell} (hv : CellsV h v l) : ∃ es, SL h 3 v es ∧ RowC h es l := by
  obtain ⟨es, hs, he, hr⟩ := hv
  exact ⟨es, hs, he, SL.lens hs, hr⟩
theorem RowC.ones {h : Base} {es : List (List Value)} {l : List PCell} (hr : RowC h es l) : ∀ e ∈ es, K.ones e = true := fun e he => by
  obtain ⟨j, hj⟩ := List.mem_iff_getElem?.1 he
  have hjl : j < l.length := by have := (List.getElem?_eq_some_iff.1 hj).1; rw [hr.1] at this; exact this
  exact (hr.2.2 j e _ hj (List.getElem?_eq_getElem hjl)).ones
set_option maxHeartbeats 1000000 in
theorem InsertN (h : Base) (kind : Int) (v : Value) (l : List PCell) (cc : List Value) (c : PCell) (hv : CellsV h v l) (hc : CellC h cc c) (h0 : 0 < l.length) (hl : l.length ≤ 100000) (h4 : kind = 3 → ∀ x ∈ l, 4 ≤ x.data.length) (h4c : kind = 3 → 4 ≤ c.data.length) :
    Tr Try.prog 65 [.int .i64 kind, v, .agg cc.toArray] h [] (fun u h' H' => H' = [] ∧ ∃ w, u = .tuple #[w, .int .i64 (atQ kind l c)] ∧ CellsV h' w (insQ kind l c)) := by
  obtain ⟨es, hs, hrow⟩ := CellsV.row hv
  have hel := hrow.1
  obtain ⟨ao, ca, rfl⟩ := hs.len
  rw [hel] at hs ⊢
  have hc0 := hc
  obtain ⟨hkl, hdl, ao3, ca3, rfl, hbv⟩ := hc
  refine K.enter Try.func65 rfl (Nat.le_of_ble_eq_true rfl) (fun F => ?_)
  (repeat' (first | refine X.rq ?_ | (refine X.rc ?_ ?_ <;> intro hc <;> first | (exfalso; omega) | skip)))
  refine K.l_box rfl rfl rfl (fun B5 => ?_)
  refine K.s_pure (K.p_assign rfl) rfl (K.s_pure (K.p_assign rfl) rfl (K.l_nil (K.a_then (K.c_seq (K.c_region ?_)))))
  refine K.s_pure (K.p_assign rfl) rfl (K.l_nil (K.a_then ?_))
  refine K.c_cut (σ := Unit) (fun _ => [(1, .slice ao l.length ca), (5, .pointer (some ⟨B5, 0, none⟩)), (8, .int .i64 (atQ kind l c))]) (fun _ => h) (fun _ => blk B5 52 [.bool c.used, .int .u32 c.killer, .slice ao3 c.data.length ca3] :: F) (fun _ => True) ?_ (fun KJ hJ => ?_)
  · rintro _ -
    have hat : atQ kind l c ≤ l.length := (List.takeWhile_sublist _).length_le
    have h1 := RowC.ones hrow
    have hins := fun (b3 cap3 Bv : Nat) (hc : es.length ≤ cap3) => InsertC h b3 es (atQ kind l c) cap3 Bv [.bool c.used, .int .u32 c.killer, .slice ao3 c.data.length ca3] (by omega) (by omega) (by omega) hrow.2.1 rfl h1 rfl
    have hcln := CloneCells h _ es hs (by omega) (by omega) h1
    simp only [hel] at hins hcln
    refine K.c_seq ?_
    refine X.drawJ ([blk B5 52 [.bool c.used, .int .u32 c.killer, .slice ao3 c.data.length ca3]]) [] (.pu 0 (.pu 2 (.pu 6 (.st 3 (.alt 1 (.on 4 (.on 5 (.pu 7 (.pu 8 .nil)))) (.on 4 (.on 1 (.on 5 (.pu 7 (.pu 8 .nil)))))))))) (fun r : Option Nat × Nat => [(6, bufV r.1 (l.length + 1) r.2), (7, .int .i64 (atQ kind l c))]) (fun _ => h) (fun r => bufA 52 3 r.1 (l.length + 1) r.2 (es.take (atQ kind l c) ++ [.bool c.used, .int .u32 c.killer, .slice ao3 c.data.length ca3] :: es.drop (atQ kind l c)).flatten :: blk B5 52 [.bool c.used, .int .u32 c.killer, .slice ao3 c.data.length ca3] :: F) ?_ ?_
    · refine K.d_pu rfl (fun _ _ => X.mv) rfl ?_
      refine K.d_pu rfl (fun _ _ => X.mv) rfl ?_
      refine K.d_pu rfl (fun _ _ => X.mv) rfl ?_
      refine K.d_st rfl X.ld rfl ?_
      refine K.d_alt ?_ ?_
      · refine K.d_on rfl (fun KK hKK => ?_)
        refine K.l_call (Fx.cal rfl) rfl hcln (K.pp [] rfl) rfl ?_
        rintro w3 h3 H' - ⟨e3, b3, cap3, hcap3, rfl, rfl⟩
        obtain rfl := e3.symm
        simp only [List.cons_append, List.nil_append]
        refine K.l_nil ?_
        refine X.onE hKK ?_
        refine K.d_on rfl (fun KK hKK => ?_)
        refine X.bs (fun B => ?_)
        refine K.l_nil ?_
        refine X.onE hKK ?_
        refine K.d_on rfl (fun KK hKK => ?_)
        refine K.l_call (Fx.cal rfl) rfl (hins b3 cap3 _ hcap3) (by first | exact K.pp [0, 0] rfl | exact K.pp [1, 0] rfl) rfl ?_
        rintro w4 h4 H' - ⟨e4, b4, cap4, rfl, rfl⟩
        obtain rfl := e4.symm
        simp only [List.cons_append, List.nil_append]
        refine K.l_nil ?_
        refine X.onE hKK ?_
        refine K.d_pu rfl (fun _ _ => X.sg) rfl ?_
        refine K.d_pu rfl (fun _ _ => X.sg) rfl ?_
        refine K.d_nil ?_
        exact K.joined (b4, cap4) (by repeat (first | exact K.Sub.nil _ | refine K.Sub.cons rfl ?_)) rfl rfl
      refine K.d_on rfl (fun KK hKK => ?_)
      refine X.bs (fun B => ?_)
      refine K.l_nil ?_
      refine X.onE hKK ?_
      refine K.d_on rfl (fun KK hKK => ?_)
      refine K.l_call (Fx.cal rfl) rfl hcln (K.pp [] rfl) rfl ?_
      rintro w3 h3 H' - ⟨e3, b3, cap3, hcap3, rfl, rfl⟩
      obtain rfl := e3.symm
      simp only [List.cons_append, List.nil_append]
      refine K.l_nil ?_
      refine X.onE hKK ?_
      refine K.d_on rfl (fun KK hKK => ?_)
      refine K.l_call (Fx.cal rfl) rfl (hins b3 cap3 _ hcap3) (by first | exact K.pp [0, 0] rfl | exact K.pp [1, 0] rfl) rfl ?_
      rintro w4 h4 H' - ⟨e4, b4, cap4, rfl, rfl⟩
      obtain rfl := e4.symm
      simp only [List.cons_append, List.nil_append]
      refine K.l_nil ?_
      refine X.onE hKK ?_
      refine K.d_pu rfl (fun _ _ => X.sg) rfl ?_
      refine K.d_pu rfl (fun _ _ => X.sg) rfl ?_
      refine K.d_nil ?_
      exact K.joined (b4, cap4) (by repeat (first | exact K.Sub.nil _ | refine K.Sub.cons rfl ?_)) rfl rfl
    refine fun r => ?_
    obtain ⟨b4, cap4⟩ := r
    have hrr := RowC.ins hrow hc0 (atQ kind l c) hat
    have hzz : l.length + 1 = (es.take (atQ kind l c) ++ [.bool c.used, .int .u32 c.killer, .slice ao3 c.data.length ca3] :: es.drop (atQ kind l c)).length := by simp; omega
    dsimp only
    rw [hzz]
    (repeat' (first | refine X.rq ?_ | (refine X.rc ?_ ?_ <;> intro hc <;> first | (exfalso; omega) | skip)))
    refine K.AT.freezeRow hrr.2.1 (fun h1 le1 hs1 _ => ?_)
    exact K.doneC (vs := [_, .int .i64 (atQ kind l c)]) (by first | exact Or.inl rfl | exact Or.inr rfl) (.tmp rfl (.tmp rfl .nil)) le1 (D := [_]) (H' := []) rfl ⟨rfl, _, rfl, CellsV.of hs1 (hrr.le le1)⟩
  (repeat' (first | refine X.rq ?_ | (refine X.rc ?_ ?_ <;> intro hc <;> first | (exfalso; omega) | skip)))
  refine K.c_loop (σ := Nat) (fun j => [(0, .int .i64 kind), (1, .slice ao l.length ca), (5, .pointer (some ⟨B5, 0, none⟩)), (6, .slice none 0 0), (7, .int .i64 0), (8, .int .i64 j)]) (fun _ => h) (fun _ => blk B5 52 [.bool c.used, .int .u32 c.killer, .slice ao3 c.data.length ca3] :: F)
    (fun j => j ≤ l.length ∧ ∀ (i : Nat) y, i < j → l[i]? = some y → lt8 (keyQ kind y) (keyQ kind c) = true) (fun j => l.length - j) 0 ⟨Nat.zero_le _, fun i y hi => by omega⟩ (by repeat (first | exact K.Sub.nil _ | refine K.Sub.cons rfl ?_)) rfl rfl ?_
  rintro j ⟨hj, hno⟩ KL hKL
  by_cases hjl : j < l.length
  · have hc1 : es[j]? = some (es[j]'(by omega)) := List.getElem?_eq_getElem (by omega)
    have hcz : es[((j : Nat) : Int).toNat]? = some (es[j]'(by omega)) := by rw [Int.toNat_natCast]; exact hc1
    have he1 : l[j]? = some l[j] := List.getElem?_eq_getElem hjl
    have hx4 := fun h3 => h4 h3 _ (List.getElem_mem hjl)
    generalize es[j]'(by omega) = ec at hc1 hcz
    generalize l[j] = x at he1 hx4
    have hcc := hrow.2.2 j ec x hc1 he1
    have hcc0 := hcc
    obtain ⟨hk2, hd2, ao4, ca4, rfl, hb2⟩ := hcc
    (repeat' (first | refine X.rq ?_ | (refine X.rc ?_ ?_ <;> intro hc <;> first | (exfalso; omega) | skip)))
    refine X.draw ([blk B5 52 [.bool c.used, .int .u32 c.killer, .slice ao3 c.data.length ca3]]) [] (.pu 0 (.pu 1 (.pu 2 (.pu 3 (.pu 4 (.pu 5 (.pu 6 (.pu 7 (.pu 11 (.st 8 (.st 9 (.st 12 (.on 10 (.on 13 (.pu 14 (.pu 15 .nil)))))))))))))))) ?_
    refine K.d_pu rfl (fun _ _ => X.mv) rfl ?_
    refine K.d_pu rfl (fun _ _ => X.mv) rfl ?_
    refine K.d_pu rfl (fun _ _ => X.len) rfl ?_
    refine K.d_pu rfl (fun _ _ => X.blss) rfl ?_
    rw [decide_eq_true (show (j : Int) < (l.length : Int) by omega)]
    refine K.d_pu rfl (fun _ _ => X.mv) rfl ?_
    first | refine K.d_skip rfl rfl rfl rfl ?_ | refine K.d_skipU rfl rfl rfl rfl rfl ?_ | refine K.d_puG rfl rfl rfl (fun _ _ => X.mv) rfl ?_
    first | refine K.d_skip rfl rfl rfl rfl ?_ | refine K.d_skipU rfl rfl rfl rfl rfl ?_ | refine K.d_puG rfl rfl rfl (fun _ _ => X.mv) rfl ?_
    first | refine K.d_skip rfl rfl rfl rfl ?_ | refine K.d_skipU rfl rfl rfl rfl rfl ?_ | refine K.d_puG rfl rfl rfl (fun _ _ => X.mv) rfl ?_
    first | refine K.d_skip rfl rfl rfl rfl ?_ | refine K.d_skipU rfl rfl rfl rfl rfl ?_ | refine K.d_puG rfl rfl rfl (fun _ _ => X.mv) rfl ?_
    refine K.d_stGE rfl rfl rfl (K.p_indexL hs (Fx.und rfl) (Fx.sz rfl) rfl rfl (by omega) hcz) rfl ?_
    rintro v2 ⟨b, o, rfl, hcel⟩
    refine K.d_stG rfl rfl rfl (K.p_loadM (Fx.agg rfl) rfl (Cels.up hcel) (Fx.sz rfl) rfl) rfl ?_
    first | refine K.d_skipS rfl rfl rfl rfl ?_ | refine K.d_skipUS rfl rfl rfl rfl rfl ?_ | refine K.d_stG rfl rfl rfl X.ld rfl ?_
    refine K.d_on rfl (fun KK hKK => ?_)
    refine K.s_take rfl rfl ?_
    refine K.l_callV (Fx.cal rfl) rfl (KeyC h kind _ x hcc0 hx4) (K.pp [] rfl) rfl rfl ?_
    simp only [List.nil_append]
    refine K.l_nil ?_
    refine X.onE hKK ?_
    refine K.d_on rfl (fun KK hKK => ?_)
    refine K.s_take rfl rfl ?_
    refine K.l_callV (Fx.cal rfl) rfl (KeyC h kind _ c hc0 h4c) (K.pp [] rfl) rfl rfl ?_
    simp only [List.nil_append]
    refine K.l_nil ?_
    refine X.onE hKK ?_
    first | refine K.d_skip rfl rfl rfl rfl ?_ | refine K.d_skipU rfl rfl rfl rfl rfl ?_ | refine K.d_puG rfl rfl rfl (fun _ _ => X.blss) rfl ?_
    refine K.d_pu rfl (fun _ _ => X.pk) rfl ?_
    refine K.d_nil ?_
    rw [txt_lt]
    cases hb : lt8 (keyQ kind x) (keyQ kind c) with
    | true =>
      (repeat' (first | refine X.rq ?_ | (refine X.rc ?_ ?_ <;> intro hc <;> first | (exfalso; omega) | skip)))
      refine K.a_round hKL (j + 1) ⟨by omega, fun i y hi hy => ?_⟩ (by repeat (first | exact K.Sub.nil _ | refine K.Sub.cons rfl ?_)) rfl rfl (by omega)
      by_cases hij : i < j
      · exact hno i y hij hy
      · obtain rfl : i = j := by omega
        rw [he1] at hy; cases hy; exact hb
    | false =>
      have hat : atQ kind l c = j := tw_len (by omega) hno (fun y hy => by rw [he1] at hy; cases hy; exact hb)
      (repeat' (first | refine X.rq ?_ | (refine X.rc ?_ ?_ <;> intro hc <;> first | (exfalso; omega) | skip)))
      exact K.a_cut hJ () trivial (by rw [hat]; exact (by repeat (first | exact K.Sub.nil _ | refine K.Sub.cons rfl ?_))) rfl rfl
  · obtain rfl : j = l.length := by omega
    have hat : atQ kind l c = l.length := tw_len (Nat.le_refl _) hno (fun y hy => by simp at hy)
    (repeat' (first | refine X.rq ?_ | (refine X.rc ?_ ?_ <;> intro hc <;> first | (exfalso; omega) | skip)))
    refine X.draw ([blk B5 52 [.bool c.used, .int .u32 c.killer, .slice ao3 c.data.length ca3]]) [] (.pu 0 (.pu 1 (.pu 2 (.pu 3 (.pu 4 (.pu 5 (.pu 6 (.pu 7 (.pu 11 (.st 8 (.st 9 (.st 12 (.on 10 (.on 13 (.pu 14 (.pu 15 .nil)))))))))))))))) ?_
    refine K.d_pu rfl (fun _ _ => X.mv) rfl ?_
    refine K.d_pu rfl (fun _ _ => X.mv) rfl ?_
    refine K.d_pu rfl (fun _ _ => X.len) rfl ?_
    refine K.d_pu rfl (fun _ _ => X.blss) rfl ?_
    rw [decide_eq_false (show ¬ (l.length : Int) < (l.length : Int) by omega)]
    refine K.d_pu rfl (fun _ _ => X.mv) rfl ?_
    first | refine K.d_skip rfl rfl rfl rfl ?_ | refine K.d_skipU rfl rfl rfl rfl rfl ?_ | refine K.d_puG rfl rfl rfl (fun _ _ => X.mv) rfl ?_
    first | refine K.d_skip rfl rfl rfl rfl ?_ | refine K.d_skipU rfl rfl rfl rfl rfl ?_ | refine K.d_puG rfl rfl rfl (fun _ _ => X.mv) rfl ?_
    first | refine K.d_skip rfl rfl rfl rfl ?_ | refine K.d_skipU rfl rfl rfl rfl rfl ?_ | refine K.d_puG rfl rfl rfl (fun _ _ => X.mv) rfl ?_
    first | refine K.d_skip rfl rfl rfl rfl ?_ | refine K.d_skipU rfl rfl rfl rfl rfl ?_ | refine K.d_puG rfl rfl rfl (fun _ _ => X.mv) rfl ?_
    first | refine K.d_skipS rfl rfl rfl rfl ?_ | refine K.d_skipUS rfl rfl rfl rfl rfl ?_ | refine K.d_stG rfl rfl rfl X.ia rfl ?_
    first | refine K.d_skipS rfl rfl rfl rfl ?_ | refine K.d_skipUS rfl rfl rfl rfl rfl ?_ | refine K.d_stG rfl rfl rfl X.ld rfl ?_
    first | refine K.d_skipS rfl rfl rfl rfl ?_ | refine K.d_skipUS rfl rfl rfl rfl rfl ?_ | refine K.d_stG rfl rfl rfl X.ld rfl ?_
    refine K.d_on rfl (fun KK hKK => ?_)
    first | refine K.s_skip rfl rfl rfl ?_ | refine K.s_skipU rfl rfl rfl rfl ?_
    refine K.l_nil ?_
    refine X.onE hKK ?_
    refine K.d_on rfl (fun KK hKK => ?_)
    first | refine K.s_skip rfl rfl rfl ?_ | refine K.s_skipU rfl rfl rfl rfl ?_
    refine K.l_nil ?_
    refine X.onE hKK ?_
    first | refine K.d_skip rfl rfl rfl rfl ?_ | refine K.d_skipU rfl rfl rfl rfl rfl ?_ | refine K.d_puG rfl rfl rfl (fun _ _ => X.blss) rfl ?_
    refine K.d_pu rfl (fun _ _ => X.pk) rfl ?_
    refine K.d_nil ?_
    (repeat' (first | refine X.rq ?_ | (refine X.rc ?_ ?_ <;> intro hc <;> first | (exfalso; omega) | skip)))
    exact K.a_cut hJ () trivial (by rw [hat]; exact (by repeat (first | exact K.Sub.nil _ | refine K.Sub.cons rfl ?_))) rfl rfl
end Go.Proofs.Ytahdbncfegedjaa.Nd
