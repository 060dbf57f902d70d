/-
  CatalogRows, CatalogRead. Conditions: each theorem's own.
-/
import Derived.Test.YtdjacjhojbkgjaaWh

namespace Go.Proofs.Ytdjacjhojbkgjaa.Ct
open Go Go.K Go.Proofs Go.Proofs.Ytdjacjhojbkgjaa Go.Proofs.Ytdjacjhojbkgjaa.Rw
set_option linter.unusedVariables false
set_option linter.unusedSimpArgs false
set_option maxRecDepth 10000

theorem SchC.form {h : Base} {s : PSch} {cs : List Value} (hs : SchC h s cs) : ∃ a k a2 k2, cs = [.slice a s.tabs.length k, .slice a2 s.idxs.length k2] := by
  obtain ⟨vt, vi, ts, is, rfl, h1, h2, h3, h4⟩ := hs
  obtain ⟨a, k, rfl⟩ := h1.len
  obtain ⟨a2, k2, rfl⟩ := h3.len
  exact ⟨a, k, a2, k2, by rw [h2.len, h4.len]⟩
theorem copied {h : Base} {s : PSch} {a : Option Nat} {k : Nat} {a2 : Option Nat} {k2 : Nat} {es es2 : List (List Value)} (h1 : SL h 4 (bufV a s.tabs.length k) es) (h2 : Each (TabC h) es s.tabs) (h3 : SL h 6 (bufV a2 s.idxs.length k2) es2) (h4 : Each (IdxC h) es2 s.idxs) : SchC h s [bufV a s.tabs.length k, bufV a2 s.idxs.length k2] := ⟨_, _, _, _, rfl, h1, h2, h3, h4⟩
set_option maxHeartbeats 4000000 in
theorem CatalogRowsW (h : Base) (cs : List Value) (s : PSch) (hs : SchC h s cs) (hw : wfS s) :
    Tr Try.prog 3 [.agg cs.toArray] h [] (fun u h' H' => u = .bool true ∧ H' = []) := by
  obtain ⟨a, k, a2, k2, rfl⟩ := hs.form
  refine K.enter Try.func3 rfl (Nat.le_of_ble_eq_true rfl) (fun F => ?_)
  simp only [List.nil_append, List.cons_append]
  (repeat' (first | refine X.rq ?_ | (refine X.rc ?_ ?_ <;> intro hc <;> first | (exfalso; omega) | skip)))
  refine K.l_box rfl rfl rfl (fun B1 => ?_)
  (repeat' (first | refine X.rq ?_ | (refine X.rc ?_ ?_ <;> intro hc <;> first | (exfalso; omega) | skip)))
  refine K.l_call (Fx.cal rfl) rfl (RCopy h _ s hs hw) (K.pp [] rfl) rfl ?_
  rintro u h1 H' hle1 ⟨a3, k3, a4, k4, es, es2, rfl, hes, hes2, rfl⟩
  simp only [List.set_cons_zero, List.set_cons_succ, List.eraseIdx_cons_zero, List.eraseIdx_cons_succ, List.cons_append, List.nil_append]
  refine K.WL.freezeRowN hes.len.symm (Each.all hes fun x c hc => hc.four) (fun h2 hle2 hs2 => ?_)
  refine K.WL.freezeRowN hes2.len.symm (Each.all hes2 fun x c hc => hc.six) (fun h3 hle3 hs3 => ?_)
  have hcp := copied (hs2.le hle3) (hes.mono fun x c hc => hc.le (hle2.trans hle3)) hs3 (hes2.mono fun x c hc => hc.le (hle2.trans hle3))
  have hle := hle1.trans (hle2.trans hle3)
  (repeat' (first | refine X.rq ?_ | (refine X.rc ?_ ?_ <;> intro hc <;> first | (exfalso; omega) | skip)))
  refine K.l_alloc (Fx.zr rfl) rfl rfl (fun B3 => ?_)
  refine X.stw ?_
  simp only [List.set_cons_zero, List.set_cons_succ, List.eraseIdx_cons_zero, List.eraseIdx_cons_succ, List.cons_append, List.nil_append]
  (repeat' (first | refine X.rq ?_ | (refine X.rc ?_ ?_ <;> intro hc <;> first | (exfalso; omega) | skip)))
  refine K.l_call (Fx.cal rfl) rfl (MayS h3 _ s hcp hw) (K.pp [] rfl) rfl ?_
  rintro u h4 H' hle4 ⟨rfl, rfl⟩
  simp only [List.set_cons_zero, List.set_cons_succ, List.eraseIdx_cons_zero, List.eraseIdx_cons_succ, List.cons_append, List.nil_append]
  (repeat' (first | refine X.rq ?_ | (refine X.rc ?_ ?_ <;> intro hc <;> first | (exfalso; omega) | skip)))
  refine K.l_call (Fx.cal rfl) rfl (Rows h4 _ s (hcp.le hle4) hw) (K.pp [] rfl) rfl ?_
  rintro u h5 H' hle5 ⟨rfl, v5, rfl, hr5⟩
  simp only [List.set_cons_zero, List.set_cons_succ, List.eraseIdx_cons_zero, List.eraseIdx_cons_succ, List.cons_append, List.nil_append]
  (repeat' (first | refine X.rq ?_ | (refine X.rc ?_ ?_ <;> intro hc <;> first | (exfalso; omega) | skip)))
  have hle5' := hle.trans (hle4.trans hle5)
  refine K.l_call (Fx.cal rfl) rfl (RMay h5 _ s (hs.le hle5') hw) (K.pp [] rfl) rfl ?_
  rintro u h6 H' hle6 ⟨rfl, rfl⟩
  have hle6' := hle5'.trans hle6
  simp only [List.set_cons_zero, List.set_cons_succ, List.eraseIdx_cons_zero, List.eraseIdx_cons_succ, List.cons_append, List.nil_append]
  have hbb : (!(mayS s == mayS s)) = false := by simp
  (repeat' (first | refine X.rq ?_ | (refine X.rc ?_ ?_ <;> intro hc <;> first | (exfalso; omega) | skip)))
  all_goals first | (exfalso; simp_all; done) | skip
  refine K.l_callV (Fx.cal rfl) rfl (SameS h6 _ _ s s (hcp.le (hle4.trans (hle5.trans hle6))) (hs.le hle6') hw hw) (K.pp [] rfl) rfl rfl ?_
  simp only [List.nil_append, decide_true]
  (repeat' (first | refine X.rq ?_ | (refine X.rc ?_ ?_ <;> intro hc <;> first | (exfalso; omega) | skip)))
  refine K.l_call (Fx.cal rfl) rfl (Cols h6) (K.pp [] rfl) rfl ?_
  rintro u h7 H' hle7 ⟨rfl, ac, rfl, hcs⟩
  have hle7' := hle6'.trans hle7
  simp only [List.set_cons_zero, List.set_cons_succ, List.eraseIdx_cons_zero, List.eraseIdx_cons_succ, List.cons_append, List.nil_append]
  obtain ⟨b0, o0, e0, hc0⟩ := hcs.at (j := 0) (c := cC ⟨⟨#[119, 104, 97, 116]⟩, 1, true⟩) rfl
  obtain ⟨b3, o3, e3, hc3⟩ := hcs.at (j := 3) (c := cC ⟨⟨#[110, 97, 109, 101]⟩, 2, false⟩) rfl
  obtain ⟨bc, rfl⟩ : ∃ b, ac = some b := by
    cases ac with
    | none => cases e0
    | some b => exact ⟨_, rfl⟩
  cases e0
  cases e3
  (repeat' (first | refine X.rq ?_ | (refine X.rc ?_ ?_ <;> intro hc <;> first | (exfalso; omega) | skip)))
  refine K.s_pure (K.p_loadM (Fx.agg rfl) rfl (Cels.up hc3) (Fx.sz rfl) rfl) rfl ?_
  (repeat' (first | refine X.rq ?_ | (refine X.rc ?_ ?_ <;> intro hc <;> first | (exfalso; omega) | skip)))
  refine K.s_pure (K.p_loadM (Fx.agg rfl) rfl (Cels.up hc0) (Fx.sz rfl) rfl) rfl ?_
  cases hm : mayS s with
  | false =>
    rw [hm] at hr5
    simp only [Bool.false_eq_true, if_false] at hr5 ⊢
    obtain ⟨av, cv, rfl⟩ : ∃ a c, v5 = .slice a 0 c := by
      obtain ⟨es5, h51, h52⟩ := hr5
      obtain ⟨a, c, e⟩ := h51.len
      exact ⟨a, c, by rw [e, h52.len]; rfl⟩
    (repeat' (first | refine X.rq ?_ | (refine X.rc ?_ ?_ <;> intro hc <;> first | (exfalso; omega) | skip)))
    refine K.l_call (Fx.cal rfl) rfl (Awake h7) (K.pp [] rfl) rfl ?_
    rintro u h8 H' hle8 ⟨rfl, rfl⟩
    simp only [List.set_cons_zero, List.set_cons_succ, List.eraseIdx_cons_zero, List.eraseIdx_cons_succ, List.cons_append, List.nil_append]
    (repeat' (first | refine X.rq ?_ | (refine X.rc ?_ ?_ <;> intro hc <;> first | (exfalso; omega) | skip)))
    refine K.AT.dropsA (A := [_, _]) ?_
    refine K.done (.inl rfl) rfl (hle7'.trans hle8) (H' := []) rfl ⟨rfl, rfl⟩
  | true =>
    rw [hm] at hr5
    simp only [if_true] at hr5 ⊢
    have hrn := rows_len hm
    (repeat' (first | refine X.rq ?_ | (refine X.rc ?_ ?_ <;> intro hc <;> first | (exfalso; omega) | skip)))
    refine K.l_call (Fx.cal rfl) rfl (RRows h7 _ s (hs.le hle7') hw hm) (K.pp [] rfl) rfl ?_
    rintro u h8 H' hle8 ⟨rfl, hr8⟩
    simp only [List.set_cons_zero, List.set_cons_succ, List.eraseIdx_cons_zero, List.eraseIdx_cons_succ, List.cons_append, List.nil_append]
    have hr58 := hr5.le (hle6.trans (hle7.trans hle8))
    obtain ⟨es5, h51, h52⟩ := hr58
    obtain ⟨es8, h81, h82⟩ := hr8
    obtain ⟨a5, k5, rfl⟩ := h51.len
    obtain ⟨a8, k8, rfl⟩ := h81.len
    (repeat' (first | refine X.rq ?_ | (refine X.rc ?_ ?_ <;> intro hc <;> first | (exfalso; omega) | skip)))
    refine K.l_callV (Fx.cal rfl) rfl (SameRows h8 _ _ es5 es8 (rowsQ s) (rowsQ s) h51 h52 h81 h82 (fun r hr => by have := rows_six r hr; omega) (fun r hr => by have := rows_six r hr; omega) (by omega) (by omega)) (K.pp [] rfl) rfl rfl ?_
    simp only [List.nil_append, decide_true]
    (repeat' (first | refine X.rq ?_ | (refine X.rc ?_ ?_ <;> intro hc <;> first | (exfalso; omega) | skip)))
    refine K.l_call (Fx.cal rfl) rfl (Awake h8) (K.pp [] rfl) rfl ?_
    rintro u h9 H' hle9 ⟨rfl, rfl⟩
    simp only [List.set_cons_zero, List.set_cons_succ, List.eraseIdx_cons_zero, List.eraseIdx_cons_succ, List.cons_append, List.nil_append]
    (repeat' (first | refine X.rq ?_ | (refine X.rc ?_ ?_ <;> intro hc <;> first | (exfalso; omega) | skip)))
    refine K.AT.dropsA (A := [_, _]) ?_
    refine K.done (.inl rfl) rfl (hle7'.trans (hle8.trans hle9)) (H' := []) rfl ⟨rfl, rfl⟩
set_option maxHeartbeats 4000000 in
theorem CatalogReadW (h : Base) (v : Value) (l : List (List Val)) (hv : RowsV h l v) (hw : ∀ r ∈ l, ∀ x ∈ r, wfV x) (hrl : ∀ r ∈ l, r.length ≤ 4398046511104) (hl : l.length ≤ 9223372036854775807) :
    Tr Try.prog 4 [v] h [] (fun u h' H' => u = .bool true ∧ H' = []) := by
  have hv0 := hv
  obtain ⟨es, hvl, hes⟩ := hv
  obtain ⟨ao, ca, rfl⟩ := hvl.len
  rw [hes.len] at hvl hv0 ⊢
  refine K.enter Try.func4 rfl (Nat.le_of_ble_eq_true rfl) (fun F => ?_)
  simp only [List.nil_append, List.cons_append]
  by_cases hbig : 1000 < l.length
  · (repeat' (first | refine X.rq ?_ | (refine X.rc ?_ ?_ <;> intro hc <;> first | (exfalso; omega) | skip)))
    all_goals first | (exfalso; omega) | skip
    refine K.l_call (Fx.cal rfl) rfl (Awake h) (K.pp [] rfl) rfl ?_
    rintro u h8 H' hle8 ⟨rfl, rfl⟩
    simp only [List.set_cons_zero, List.set_cons_succ, List.eraseIdx_cons_zero, List.eraseIdx_cons_succ, List.cons_append, List.nil_append]
    (repeat' (first | refine X.rq ?_ | (refine X.rc ?_ ?_ <;> intro hc <;> first | (exfalso; omega) | skip)))
    refine K.done (.inl rfl) rfl hle8 (H' := []) rfl ⟨rfl, rfl⟩
  have hrl2 : ∀ r ∈ l, r.length ≤ 9223372036854775807 := fun r hr => by have := hrl r hr; omega
  (repeat' (first | refine X.rq ?_ | (refine X.rc ?_ ?_ <;> intro hc <;> first | (exfalso; omega) | skip)))
  all_goals first | (exfalso; omega) | skip
  refine K.l_call (Fx.cal rfl) rfl (OwnRows h _ l hv0 hrl (by omega)) (K.pp [] rfl) rfl ?_
  rintro u h1 H' hle1 ⟨rfl, hr1⟩
  obtain ⟨a1, c1, rfl⟩ : ∃ a c, u = .slice a l.length c := by
    obtain ⟨es5, h51, h52⟩ := hr1
    obtain ⟨a, c, e⟩ := h51.len
    exact ⟨a, c, by rw [e, h52.len]⟩
  simp only [List.set_cons_zero, List.set_cons_succ, List.eraseIdx_cons_zero, List.eraseIdx_cons_succ, List.cons_append, List.nil_append]
  (repeat' (first | refine X.rq ?_ | (refine X.rc ?_ ?_ <;> intro hc <;> first | (exfalso; omega) | skip)))
  refine K.l_call (Fx.cal rfl) rfl (Read h1 _ l hr1 hw hrl2 (by omega)) (K.pp [] rfl) rfl ?_
  rintro u h2 H' hle2 ⟨rfl, ok2, s2, cs2, rfl, hs2, hw2, hp2⟩
  obtain ⟨a2, k2, a2', k2', rfl⟩ := hs2.form
  simp only [List.set_cons_zero, List.set_cons_succ, List.eraseIdx_cons_zero, List.eraseIdx_cons_succ, List.cons_append, List.nil_append]
  (repeat' (first | refine X.rq ?_ | (refine X.rc ?_ ?_ <;> intro hc <;> first | (exfalso; omega) | skip)))
  refine K.l_alloc (Fx.zr rfl) rfl rfl (fun B4 => ?_)
  refine X.stw ?_
  simp only [List.set_cons_zero, List.set_cons_succ, List.eraseIdx_cons_zero, List.eraseIdx_cons_succ, List.cons_append, List.nil_append]
  (repeat' (first | refine X.rq ?_ | (refine X.rc ?_ ?_ <;> intro hc <;> first | (exfalso; omega) | skip)))
  refine K.l_call (Fx.cal rfl) rfl (RRead h2 _ l (hv0.le (hle1.trans hle2)) hw hrl2 (by omega)) (K.pp [] rfl) rfl ?_
  rintro u h3 H' hle3 ⟨rfl, ok3, s3, cs3, rfl, hs3, hw3, hp3⟩
  obtain ⟨rfl, rfl⟩ := read_one hp3 hp2 hw3 hw2
  obtain ⟨a3, k3, a3', k3', rfl⟩ := hs3.form
  unfold eV
  generalize (if ok3 = true then (0 : Int) else 5) = ee
  simp only [List.set_cons_zero, List.set_cons_succ, List.eraseIdx_cons_zero, List.eraseIdx_cons_succ, List.cons_append, List.nil_append]
  (repeat' (first | refine X.rq ?_ | (refine X.rc ?_ ?_ <;> intro hc <;> first | (exfalso; omega) | skip)))
  refine K.l_alloc (Fx.zr rfl) rfl rfl (fun B6 => ?_)
  refine X.stw ?_
  simp only [List.set_cons_zero, List.set_cons_succ, List.eraseIdx_cons_zero, List.eraseIdx_cons_succ, List.cons_append, List.nil_append]
  (repeat' (first | refine X.rq ?_ | (refine X.rc ?_ ?_ <;> intro hc <;> first | (exfalso; omega) | skip)))
  all_goals first | (exfalso; omega) | skip
  refine K.l_callV (Fx.cal rfl) rfl (SameS h3 _ _ s3 s3 (hs2.le hle3) hs3 hw2 hw2) (K.pp [] rfl) rfl rfl ?_
  simp only [List.nil_append, decide_true]
  (repeat' (first | refine X.rq ?_ | (refine X.rc ?_ ?_ <;> intro hc <;> first | (exfalso; omega) | skip)))
  obtain ⟨es5, h51, h52⟩ := hr1.le (hle2.trans hle3)
  refine K.l_callV (Fx.cal rfl) rfl (SameRows h3 _ _ es5 es l l h51 h52 (hvl.le (hle1.trans (hle2.trans hle3))) (hes.mono fun r c hc => RowC.le hc (hle1.trans (hle2.trans hle3))) hrl2 hrl2 (by omega) (by omega)) (K.pp [] rfl) rfl rfl ?_
  simp only [List.nil_append, decide_true]
  (repeat' (first | refine X.rq ?_ | (refine X.rc ?_ ?_ <;> intro hc <;> first | (exfalso; omega) | skip)))
  refine K.l_call (Fx.cal rfl) rfl (Awake h3) (K.pp [] rfl) rfl ?_
  rintro u h9 H' hle9 ⟨rfl, rfl⟩
  simp only [List.set_cons_zero, List.set_cons_succ, List.eraseIdx_cons_zero, List.eraseIdx_cons_succ, List.cons_append, List.nil_append]
  (repeat' (first | refine X.rq ?_ | (refine X.rc ?_ ?_ <;> intro hc <;> first | (exfalso; omega) | skip)))
  refine K.AT.dropsA (A := [_, _]) ?_
  refine K.done (.inl rfl) rfl (hle1.trans (hle2.trans (hle3.trans hle9))) (H' := []) rfl ⟨rfl, rfl⟩
end Go.Proofs.Ytdjacjhojbkgjaa.Ct
