/-
  What an iterator yields, collected; a schema's rows: the code's. Conditions: each theorem's own.
-/
import Derived.Test.YtdjacjhojbkgjaaGreatQ24
namespace Go.Proofs.YtdjacjhojbkgjaaGreat.Ct
open Go Go.K Go.Proofs Go.Proofs.YtdjacjhojbkgjaaGreat Go.Proofs.YtdjacjhojbkgjaaGreat.Rw
set_option linter.unusedVariables false
set_option linter.unusedSimpArgs false
set_option maxRecDepth 10000

theorem RowC.le {h h' : Base} {r : List Val} {c : List Value} (hc : RowC h r c) (hle : h.le h') : RowC h' r c := by
  obtain ⟨v, e, hs⟩ := hc
  exact ⟨v, e, hs.le hle⟩
theorem RowC.one {h : Base} {r : List Val} {c : List Value} (hc : RowC h r c) : c.length = 1 := by
  obtain ⟨v, rfl, hs⟩ := hc
  rfl
set_option maxHeartbeats 2000000 in
theorem AppendSeq (h : Base) (gf : FuncId) (lb : List Value) (Pre : List Asrt) (xs : List (List Val)) (hit : IterK Tryz.prog gf lb EncR h Pre xs) (hcal : Callable Tryz.prog gf) (hx : xs.length ≤ 1000000) :
    Tr Tryz.prog 71 [.slice none 0 0, .func (.func gf) #[] lb.toArray] h Pre (fun u h' H' => ∃ a k es, u = bufV a xs.length k ∧ Each (RowC h') es xs ∧ H' = bufA 72 1 a xs.length k es.flatten :: Pre) := by
  refine K.enterM Tryz.func71 rfl (Nat.le_of_ble_eq_true rfl) (fun F => ?_)
  (repeat' (first | refine X.rq ?_ | (refine X.rc ?_ ?_ <;> intro hc <;> first | (exfalso; omega) | skip)))
  refine K.l_box rfl rfl rfl (fun B2 => ?_)
  refine K.WL.nilBuf 72 1 ?_
  (repeat' (first | refine X.rq ?_ | (refine X.rc ?_ ?_ <;> intro hc <;> first | (exfalso; omega) | skip)))
  refine K.WC.close [_, _] ?_
  refine K.c_range (A0 := all [bufA 72 1 none 0 0 [], blk B2 50 [bufV none 0 0]]) (Pre := Pre) (F := F)
    (fun pre hb A => ∃ a k es, A = all [bufA 72 1 a pre.length k es.flatten, blk B2 50 [bufV a pre.length k]] ∧ Each (RowC hb) es pre)
    (fun c pre _ A => False)
    (fun x args => [(5, args.headD (.bool false)), (2, .pointer (some ⟨B2, 0, none⟩))]) hit rfl hcal (fun h x args ⟨v, e, _⟩ => by rw [e]; rfl) rfl rfl (fun _ _ _ _ hle ⟨a, k, es, e, he⟩ => ⟨a, k, es, e, he.mono fun _ _ x => x.le hle⟩) (fun _ _ _ _ _ _ x => x) ?_ ⟨none, 0, [], rfl, Each.nil⟩ ?_ ?_ ?_ ?_
  · exact (List.perm_middle (l₁ := Pre)).symm
  · rintro l x h' args A R hle ⟨v, rfl, hv⟩
    refine K.r_region rfl (fun _ _ x => x) ?_
    refine K.s_pure (K.p_assign rfl) rfl (K.l_nil (K.a_AP (by repeat (first | exact K.Sub.nil _ | refine K.Sub.cons rfl ?_))))
  · rintro l pre x h' args A R hle hpre ⟨v, rfl, hv⟩ ⟨a, k, es, rfl, hes⟩
    have hpl : pre.length < xs.length := by
      have := hpre.length_le
      simp at this
      omega
    obtain ⟨av, cv, rfl⟩ := hv.len
    refine K.WR.open ?_
    simp only [List.set_cons_zero, List.set_cons_succ, List.eraseIdx_cons_zero, List.eraseIdx_cons_succ, List.cons_append, List.nil_append]
    refine K.r_block (K.r_region rfl (fun _ _ x => x) ?_)
    (repeat' (first | refine X.rq ?_ | (refine X.rc ?_ ?_ <;> intro hc <;> first | (exfalso; omega) | skip)))
    refine K.l_buildSlice (Fx.und rfl) (Fx.sz rfl) rfl (Fx.zr rfl) rfl rfl rfl rfl rfl (fun B => ?_)
    refine K.l_append_at 1 rfl (Fx.und rfl) (Fx.und rfl) rfl (Fx.sz rfl) (Fx.zr rfl) rfl (Fx.byt rfl) rfl rfl (K.src_cells (K.cels_own (pre := []) (cs := [.slice av _ cv]) (post := []) 0 rfl rfl) rfl (by simp [oneCell])) (by omega) (by omega) rfl (fun a3 k3 => ?_)
    simp only [List.set_cons_zero, List.set_cons_succ, List.eraseIdx_cons_zero, List.eraseIdx_cons_succ, List.cons_append, List.nil_append]
    (repeat' (first | refine X.rq ?_ | (refine X.rc ?_ ?_ <;> intro hc <;> first | (exfalso; omega) | skip)))
    refine X.sto ?_
    simp only [List.set_cons_zero, List.set_cons_succ, List.eraseIdx_cons_zero, List.eraseIdx_cons_succ, List.cons_append, List.nil_append]
    (repeat' (first | refine X.rq ?_ | (refine X.rc ?_ ?_ <;> intro hc <;> first | (exfalso; omega) | skip)))
    refine K.AT.sel [0] rfl ?_
    refine K.AT.closed (K.pp [0, 0] rfl) (K.a_RP (K.Base.le.refl _) ⟨a3, k3, es ++ [[.slice av _ cv]], ?_, Each.snoc hes ⟨_, rfl, hv⟩⟩ (List.Perm.refl _))
    rw [List.length_append, List.flatten_append]
    simp only [List.flatten_cons, List.flatten_nil, List.append_nil]
    rfl
  · rintro D h' A' hle ⟨a, k, es, rfl, hes⟩
    refine K.AT.perm (List.perm_middle (l₁ := objA D (.deferred (some [])) :: Pre)) (K.AT.open ?_)
    simp only [List.set_cons_zero, List.set_cons_succ, List.eraseIdx_cons_zero, List.eraseIdx_cons_succ, List.cons_append, List.nil_append]
    (repeat' (first | refine X.rq ?_ | (refine X.rc ?_ ?_ <;> intro hc <;> first | (exfalso; omega) | skip)))
    refine K.AT.perm (K.pp [2, 1, 0] rfl) ?_
    exact K.doneM (vs := [bufV a xs.length k]) rfl (.inl rfl) (K.pp1 0 rfl) (.tmp rfl .nil) hle (D := [_]) (H' := bufA 72 1 a xs.length k es.flatten :: Pre) rfl ⟨a, k, es, rfl, hes, rfl⟩
  · rintro D c pre h' A' hle hpre hf
    exact hf.elim
theorem Collect (h : Base) (gf : FuncId) (lb : List Value) (Pre : List Asrt) (xs : List (List Val)) (hit : IterK Tryz.prog gf lb EncR h Pre xs) (hcal : Callable Tryz.prog gf) (hx : xs.length ≤ 1000000) :
    Tr Tryz.prog 45 [.func (.func gf) #[] lb.toArray] h Pre (fun u h' H' => ∃ a k es, u = bufV a xs.length k ∧ Each (RowC h') es xs ∧ H' = bufA 72 1 a xs.length k es.flatten :: Pre) := by
  refine K.enter Tryz.func45 rfl (Nat.le_of_ble_eq_true rfl) (fun F => ?_)
  (repeat' (first | refine X.rq ?_ | (refine X.rc ?_ ?_ <;> intro hc <;> first | (exfalso; omega) | skip)))
  refine K.l_call (Fx.cal rfl) rfl (AppendSeq h gf lb Pre xs hit hcal hx) (List.Perm.refl _) rfl ?_
  rintro u h' H' hle ⟨a, k, es, rfl, hes, rfl⟩
  (repeat' (first | refine X.rq ?_ | (refine X.rc ?_ ?_ <;> intro hc <;> first | (exfalso; omega) | skip)))
  refine K.done (by first | exact Or.inl rfl | exact Or.inr rfl) rfl (by first | exact K.Base.le.refl _ | assumption) (H' := _ :: Pre) rfl ⟨a, k, es, rfl, hes, rfl⟩
def RowsV (h : Base) (l : List (List Val)) (v : Value) : Prop := ∃ es, SL h 1 v es ∧ Each (RowC h) es l
theorem rows_len {s : PSch} (hm : mayS s = true) : (rowsQ s).length ≤ 1632 := by
  simp only [mayS, Bool.and_eq_true, decide_eq_true_eq] at hm
  obtain ⟨h1, h2, _, _, h3, h4⟩ := hm
  have e1 : ∀ l : List PTab, (∀ t ∈ l, t.cols.length ≤ 16) → (l.flatMap tabRows).length ≤ l.length * 17 := fun l => by
    induction l with
    | nil => intro _; exact Nat.le_refl _
    | cons t r ih =>
      intro hl
      rw [List.flatMap_cons, List.length_append, List.length_cons, Nat.add_mul]
      have := ih fun x hx => hl x (List.mem_cons_of_mem _ hx)
      have := hl t List.mem_cons_self
      have : (tabRows t).length = t.cols.length + 1 := by simp [tabRows]
      omega
  have e2 : ∀ l : List PIdx, (∀ t ∈ l, t.cols.length ≤ 16) → (l.flatMap idxRows).length ≤ l.length * 17 := fun l => by
    induction l with
    | nil => intro _; exact Nat.le_refl _
    | cons t r ih =>
      intro hl
      rw [List.flatMap_cons, List.length_append, List.length_cons, Nat.add_mul]
      have := ih fun x hx => hl x (List.mem_cons_of_mem _ hx)
      have := hl t List.mem_cons_self
      have : (idxRows t).length = t.cols.length + 1 := by simp [idxRows]
      omega
  have g1 := e1 s.tabs fun t ht => by
    obtain ⟨j, hj⟩ := List.mem_iff_getElem?.1 ht
    have := allB_iff.1 h3 j t hj
    simp only [tabB, Bool.and_eq_true] at this
    exact (mayB_len16 this.2.2.1).2
  have g2 := e2 s.idxs fun x hx => by
    obtain ⟨j, hj⟩ := List.mem_iff_getElem?.1 hx
    have := allB_iff.1 h4 j x hj
    simp only [idxB, Bool.and_eq_true] at this
    have h5 := this.2.2.1
    simp only [plcB] at h5
    cases ho : s.tabs.find? (fun t => decide (t.id = x.table)) with
    | none => rw [ho] at h5; cases h5
    | some t =>
      rw [ho] at h5
      simp only [placesB, Bool.and_eq_true, decide_eq_true_eq] at h5
      exact h5.2.1
  rw [rowsQ, List.length_append]
  omega
set_option maxHeartbeats 1000000 in
theorem Rows (h : Base) (cs : List Value) (s : PSch) (hs : SchC h s cs) (hw : wfS s) :
    Tr Tryz.prog 19 [.agg cs.toArray] h [] (fun u h' H' => H' = [] ∧ ∃ v, u = .tuple #[v, .int .i64 (if mayS s then 0 else 1)] ∧ RowsV h' (if mayS s then rowsQ s else []) v) := by
  have hs' := hs
  obtain ⟨vt, vi, ts, is, rfl, hvt, ht, hvi, hi⟩ := hs
  refine K.enter Tryz.func19 rfl (Nat.le_of_ble_eq_true rfl) (fun F => ?_)
  simp only [List.nil_append, List.cons_append]
  obtain ⟨ao, ca, rfl⟩ := hvt.len
  obtain ⟨ai, ci, rfl⟩ := hvi.len
  (repeat' (first | refine X.rq ?_ | (refine X.rc ?_ ?_ <;> intro hc <;> first | (exfalso; omega) | skip)))
  refine K.l_box rfl rfl rfl (fun BS => ?_)
  (repeat' (first | refine X.rq ?_ | (refine X.rc ?_ ?_ <;> intro hc <;> first | (exfalso; omega) | skip)))
  refine K.l_call (Fx.cal rfl) rfl (MayS h _ s hs' hw) (K.pp [] rfl) rfl ?_
  rintro u h1 H' hle ⟨rfl, rfl⟩
  simp only [List.nil_append]
  cases hm : mayS s with
  | false =>
    (repeat' (first | refine X.rq ?_ | (refine X.rc ?_ ?_ <;> intro hc <;> first | (exfalso; omega) | skip)))
    refine K.AT.sel [0] rfl ?_
    refine K.done (by first | exact Or.inl rfl | exact Or.inr rfl) rfl (by first | exact K.Base.le.refl _ | assumption) (H' := []) rfl ⟨rfl, _, rfl, [], .inl ⟨none, 0, rfl, rfl⟩, Each.nil⟩
  | true =>
    have hrl := rows_len hm
    (repeat' (first | refine X.rq ?_ | (refine X.rc ?_ ?_ <;> intro hc <;> first | (exfalso; omega) | skip)))
    refine K.l_call (Fx.cal rfl) rfl (All h1 _) (K.pp [] rfl) rfl ?_
    rintro u h' H' - ⟨e, B1, rfl, rfl⟩
    obtain rfl := e.symm
    simp only [List.set_cons_zero, List.set_cons_succ, List.eraseIdx_cons_zero, List.eraseIdx_cons_succ, List.cons_append, List.nil_append]
    (repeat' (first | refine X.rq ?_ | (refine X.rc ?_ ?_ <;> intro hc <;> first | (exfalso; omega) | skip)))
    refine K.l_call (Fx.cal rfl) rfl (Collect h1 _ [.pointer (some ⟨B1, 0, none⟩)] _ (rowsQ s) (AllI h1 _ s B1 (hs'.le hle) hw) (Fx.cal rfl) (by omega)) (K.pp [0] rfl) rfl ?_
    rintro u h2 H' hle2 ⟨a, k, es, rfl, hes, rfl⟩
    simp only [List.set_cons_zero, List.set_cons_succ, List.eraseIdx_cons_zero, List.eraseIdx_cons_succ, List.cons_append, List.nil_append]
    (repeat' (first | refine X.rq ?_ | (refine X.rc ?_ ?_ <;> intro hc <;> first | (exfalso; omega) | skip)))
    rw [← hes.len]
    refine K.AT.freezeRow (Each.all hes fun x c hc => hc.one) (fun h3 hle3 hs3 _ => ?_)
    refine K.AT.sel [0, 0] rfl ?_
    refine K.done (.inl rfl) rfl (hle.trans (hle2.trans hle3)) (H' := []) rfl ⟨rfl, _, rfl, es, hs3, Each.mono (fun x c hc => hc.le hle3) hes⟩
end Go.Proofs.YtdjacjhojbkgjaaGreat.Ct
