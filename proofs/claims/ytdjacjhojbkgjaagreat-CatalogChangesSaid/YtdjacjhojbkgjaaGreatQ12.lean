/-
  A table by its name or its number, an index by its name, in memory of its own: the code's. Conditions: each theorem's own.
-/
import Derived.Test.YtdjacjhojbkgjaaGreatQ11
namespace Go.Proofs.YtdjacjhojbkgjaaGreat.Ct
open Go Go.K Go.Proofs Go.Proofs.YtdjacjhojbkgjaaGreat Go.Proofs.YtdjacjhojbkgjaaGreat.Rw
set_option linter.unusedVariables false
set_option linter.unusedSimpArgs false
set_option maxRecDepth 10000

def FindT (h h' : Base) (o : Option PTab) (u : Value) : Prop := ∃ v, u = .tuple #[.agg (cTab (o.getD zTab) v).toArray, .bool o.isSome] ∧ SL h' 3 v ((o.getD zTab).cols.map cC) ∧ Fsh h h' 3 v
def FindI (h h' : Base) (o : Option PIdx) (u : Value) : Prop := ∃ v, u = .tuple #[.agg (cIdx (o.getD zIdx) v).toArray, .bool o.isSome] ∧ SL h' 1 v (rowN (o.getD zIdx).cols) ∧ Fsh h h' 1 v
theorem Named1 (h : Base) (B3 : Nat) (name : ByteArray) (t : PTab) (c : List Value) (hc : TabC h t c) : TrV Tryz.prog 67 [.agg c.toArray, .pointer (some ⟨B3, 0, none⟩)] h [blk B3 9 [.string name]] (.bool (decide (t.name = name))) [blk B3 9 [.string name]] := by
  obtain ⟨v, rfl, hv⟩ := hc
  obtain ⟨av, cv, rfl⟩ := hv.len
  refine K.enter Tryz.func67 rfl (Nat.le_of_ble_eq_true rfl) (fun F => ?_)
  simp only [List.nil_append, List.cons_append]
  (repeat' (first | refine X.rq ?_ | (refine X.rc ?_ ?_ <;> intro hc <;> first | (exfalso; omega) | skip)))
  refine K.l_box rfl rfl rfl (fun B2 => ?_)
  (repeat' (first | refine X.rq ?_ | (refine X.rc ?_ ?_ <;> intro hc <;> first | (exfalso; omega) | skip)))
  refine K.AT.sel [0] rfl ?_
  refine K.done (by first | exact Or.inl rfl | exact Or.inr rfl) rfl (by first | exact K.Base.le.refl _ | assumption) (H' := [_]) rfl ⟨rfl, rfl, rfl⟩
theorem Table1 (h : Base) (B3 : Nat) (id : Nat) (t : PTab) (c : List Value) (hc : TabC h t c) : TrV Tryz.prog 84 [.agg c.toArray, .pointer (some ⟨B3, 0, none⟩)] h [blk B3 28 [.int .u32 id]] (.bool (decide (t.id = id))) [blk B3 28 [.int .u32 id]] := by
  obtain ⟨v, rfl, hv⟩ := hc
  obtain ⟨av, cv, rfl⟩ := hv.len
  refine K.enter Tryz.func84 rfl (Nat.le_of_ble_eq_true rfl) (fun F => ?_)
  simp only [List.nil_append, List.cons_append]
  (repeat' (first | refine X.rq ?_ | (refine X.rc ?_ ?_ <;> intro hc <;> first | (exfalso; omega) | skip)))
  refine K.l_box rfl rfl rfl (fun B2 => ?_)
  have hdd : decide (t.id = id) = decide ((t.id : Int) = (id : Int)) := by rw [decide_eq_decide]; omega
  rw [hdd]
  (repeat' (first | refine X.rq ?_ | (refine X.rc ?_ ?_ <;> intro hc <;> first | (exfalso; omega) | skip)))
  refine K.AT.sel [0] rfl ?_
  refine K.done (by first | exact Or.inl rfl | exact Or.inr rfl) rfl (by first | exact K.Base.le.refl _ | assumption) (H' := [_]) rfl ⟨rfl, rfl, rfl⟩
theorem Index1 (h : Base) (B3 : Nat) (name : ByteArray) (t : PIdx) (c : List Value) (hc : IdxC h t c) : TrV Tryz.prog 58 [.agg c.toArray, .pointer (some ⟨B3, 0, none⟩)] h [blk B3 9 [.string name]] (.bool (decide (t.name = name))) [blk B3 9 [.string name]] := by
  obtain ⟨v, rfl, hv⟩ := hc
  obtain ⟨av, cv, rfl⟩ := hv.len
  refine K.enter Tryz.func58 rfl (Nat.le_of_ble_eq_true rfl) (fun F => ?_)
  simp only [List.nil_append, List.cons_append]
  (repeat' (first | refine X.rq ?_ | (refine X.rc ?_ ?_ <;> intro hc <;> first | (exfalso; omega) | skip)))
  refine K.l_box rfl rfl rfl (fun B2 => ?_)
  (repeat' (first | refine X.rq ?_ | (refine X.rc ?_ ?_ <;> intro hc <;> first | (exfalso; omega) | skip)))
  refine K.AT.sel [0] rfl ?_
  refine K.done (by first | exact Or.inl rfl | exact Or.inr rfl) rfl (by first | exact K.Base.le.refl _ | assumption) (H' := [_]) rfl ⟨rfl, rfl, rfl⟩
theorem got_len {s : PSch} (hw : wfS s) (q : PTab → Bool) : ((s.tabs.find? q).getD zTab).cols.length ≤ 4398046511104 := by
  cases hf : s.tabs.find? q with
  | none => exact Nat.zero_le _
  | some t => exact (hw.tabs t (List.mem_of_find?_eq_some hf)).len
theorem got_leni {s : PSch} (hw : wfS s) (q : PIdx → Bool) : ((s.idxs.find? q).getD zIdx).cols.length ≤ 17592186044416 := by
  cases hf : s.idxs.find? q with
  | none => exact Nat.zero_le _
  | some t => exact (hw.idxs t (List.mem_of_find?_eq_some hf)).len
set_option maxHeartbeats 1000000 in
theorem Named (h : Base) (cs : List Value) (s : PSch) (key : ByteArray) (hs : SchC h s cs) (hw : wfS s) :
    Tr Tryz.prog 27 [.agg cs.toArray, .string key] h [] (fun u h' H' => H' = [] ∧ FindT h h' (s.tabs.find? fun t => decide (t.name = key)) u) := by
  obtain ⟨vt, vi, ts, is, rfl, hvt, ht, hvi, hi⟩ := hs
  obtain ⟨ao, ca, rfl⟩ := hvt.len
  obtain ⟨ai, ci, rfl⟩ := hvi.len
  refine K.enter Tryz.func27 rfl (Nat.le_of_ble_eq_true rfl) (fun F => ?_)
  simp only [List.nil_append, List.cons_append]
  (repeat' (first | refine X.rq ?_ | (refine X.rc ?_ ?_ <;> intro hc <;> first | (exfalso; omega) | skip)))
  refine K.l_box rfl rfl rfl (fun B2 => ?_)
  refine K.l_box rfl rfl rfl (fun B3 => ?_)
  refine K.l_alloc (Fx.zr rfl) rfl rfl (fun B4 => ?_)
  (repeat' (first | refine X.rq ?_ | (refine X.rc ?_ ?_ <;> intro hc <;> first | (exfalso; omega) | skip)))
  refine K.s_pure (K.p_makeFunc rfl) rfl ?_
  have hf := FirstT h [blk B3 9 [.string key]] 67 [.pointer (some ⟨B3, 0, none⟩)] (Fx.cal rfl) _ ts s.tabs (fun t => decide (t.name = key)) hvt ht (Nat.le_trans hw.lt (by decide)) (fun x c _ hc => Named1 h B3 key x c hc)
  refine K.l_call (Fx.cal rfl) rfl hf (K.pp [1] rfl) rfl ?_
  rintro u h' H' - ⟨e, rfl, c, rfl, hc⟩
  obtain rfl := e.symm
  simp only [List.nil_append, List.cons_append]
  have hgl := got_len hw fun t => decide (t.name = key)
  generalize s.tabs.find? (fun t => decide (t.name = key)) = o at hc hgl ⊢
  simp only [List.set_cons_zero, List.set_cons_succ, List.eraseIdx_cons_zero, List.eraseIdx_cons_succ, List.cons_append, List.nil_append]
  (repeat' (first | refine X.rq ?_ | (refine X.rc ?_ ?_ <;> intro hc <;> first | (exfalso; omega) | skip)))
  refine K.l_call (Fx.cal rfl) rfl (OwnTable h _ c o.isSome hc hgl) (K.pp [] rfl) rfl ?_
  rintro u h' H' hle ⟨rfl, v, rfl, hv2, hf2⟩
  simp only [List.nil_append, List.cons_append]
  obtain ⟨av, cv, rfl⟩ := hv2.len
  (repeat' (first | refine X.rq ?_ | (refine X.rc ?_ ?_ <;> intro hc <;> first | (exfalso; omega) | skip)))
  refine X.stw ?_
  simp only [List.set_cons_zero, List.set_cons_succ, List.eraseIdx_cons_zero, List.eraseIdx_cons_succ, List.cons_append, List.nil_append]
  (repeat' (first | refine X.rq ?_ | (refine X.rc ?_ ?_ <;> intro hc <;> first | (exfalso; omega) | skip)))
  refine K.doneC (by first | exact Or.inl rfl | exact Or.inr rfl) (.cell rfl (Fx.agg rfl) (Fx.sz rfl) (by first | exact K.cels_own (pre := []) (post := []) 0 rfl rfl | exact K.cels_own (pre := []) (post := []) 1 rfl rfl | exact K.cels_own (pre := []) (post := []) 2 rfl rfl | exact K.cels_own (pre := []) (post := []) 3 rfl rfl | exact K.cels_own (pre := []) (post := []) 4 rfl rfl | exact K.cels_own (pre := []) (post := []) 5 rfl rfl) (.tmp rfl .nil)) (by first | exact K.Base.le.refl _ | assumption) (vs := [.agg (cTab (o.getD zTab) (.slice av _ cv)).toArray, .bool o.isSome]) (D := [_, _, _]) (H' := []) rfl ⟨rfl, _, rfl, hv2, hf2⟩
set_option maxHeartbeats 1000000 in
theorem Table (h : Base) (cs : List Value) (s : PSch) (key : Nat) (hs : SchC h s cs) (hw : wfS s) :
    Tr Tryz.prog 62 [.agg cs.toArray, .int .u32 key] h [] (fun u h' H' => H' = [] ∧ FindT h h' (s.tabs.find? fun t => decide (t.id = key)) u) := by
  obtain ⟨vt, vi, ts, is, rfl, hvt, ht, hvi, hi⟩ := hs
  obtain ⟨ao, ca, rfl⟩ := hvt.len
  obtain ⟨ai, ci, rfl⟩ := hvi.len
  refine K.enter Tryz.func62 rfl (Nat.le_of_ble_eq_true rfl) (fun F => ?_)
  simp only [List.nil_append, List.cons_append]
  (repeat' (first | refine X.rq ?_ | (refine X.rc ?_ ?_ <;> intro hc <;> first | (exfalso; omega) | skip)))
  refine K.l_box rfl rfl rfl (fun B2 => ?_)
  refine K.l_box rfl rfl rfl (fun B3 => ?_)
  refine K.l_alloc (Fx.zr rfl) rfl rfl (fun B4 => ?_)
  (repeat' (first | refine X.rq ?_ | (refine X.rc ?_ ?_ <;> intro hc <;> first | (exfalso; omega) | skip)))
  refine K.s_pure (K.p_makeFunc rfl) rfl ?_
  have hf := FirstT h [blk B3 28 [.int .u32 key]] 84 [.pointer (some ⟨B3, 0, none⟩)] (Fx.cal rfl) _ ts s.tabs (fun t => decide (t.id = key)) hvt ht (Nat.le_trans hw.lt (by decide)) (fun x c _ hc => Table1 h B3 key x c hc)
  refine K.l_call (Fx.cal rfl) rfl hf (K.pp [1] rfl) rfl ?_
  rintro u h' H' - ⟨e, rfl, c, rfl, hc⟩
  obtain rfl := e.symm
  simp only [List.nil_append, List.cons_append]
  have hgl := got_len hw fun t => decide (t.id = key)
  generalize s.tabs.find? (fun t => decide (t.id = key)) = o at hc hgl ⊢
  simp only [List.set_cons_zero, List.set_cons_succ, List.eraseIdx_cons_zero, List.eraseIdx_cons_succ, List.cons_append, List.nil_append]
  (repeat' (first | refine X.rq ?_ | (refine X.rc ?_ ?_ <;> intro hc <;> first | (exfalso; omega) | skip)))
  refine K.l_call (Fx.cal rfl) rfl (OwnTable h _ c o.isSome hc hgl) (K.pp [] rfl) rfl ?_
  rintro u h' H' hle ⟨rfl, v, rfl, hv2, hf2⟩
  simp only [List.nil_append, List.cons_append]
  obtain ⟨av, cv, rfl⟩ := hv2.len
  (repeat' (first | refine X.rq ?_ | (refine X.rc ?_ ?_ <;> intro hc <;> first | (exfalso; omega) | skip)))
  refine X.stw ?_
  simp only [List.set_cons_zero, List.set_cons_succ, List.eraseIdx_cons_zero, List.eraseIdx_cons_succ, List.cons_append, List.nil_append]
  (repeat' (first | refine X.rq ?_ | (refine X.rc ?_ ?_ <;> intro hc <;> first | (exfalso; omega) | skip)))
  refine K.doneC (by first | exact Or.inl rfl | exact Or.inr rfl) (.cell rfl (Fx.agg rfl) (Fx.sz rfl) (by first | exact K.cels_own (pre := []) (post := []) 0 rfl rfl | exact K.cels_own (pre := []) (post := []) 1 rfl rfl | exact K.cels_own (pre := []) (post := []) 2 rfl rfl | exact K.cels_own (pre := []) (post := []) 3 rfl rfl | exact K.cels_own (pre := []) (post := []) 4 rfl rfl | exact K.cels_own (pre := []) (post := []) 5 rfl rfl) (.tmp rfl .nil)) (by first | exact K.Base.le.refl _ | assumption) (vs := [.agg (cTab (o.getD zTab) (.slice av _ cv)).toArray, .bool o.isSome]) (D := [_, _, _]) (H' := []) rfl ⟨rfl, _, rfl, hv2, hf2⟩
set_option maxHeartbeats 1000000 in
theorem Index (h : Base) (cs : List Value) (s : PSch) (key : ByteArray) (hs : SchC h s cs) (hw : wfS s) :
    Tr Tryz.prog 22 [.agg cs.toArray, .string key] h [] (fun u h' H' => H' = [] ∧ FindI h h' (s.idxs.find? fun t => decide (t.name = key)) u) := by
  obtain ⟨vt, vi, ts, is, rfl, hvt, ht, hvi, hi⟩ := hs
  obtain ⟨ao, ca, rfl⟩ := hvt.len
  obtain ⟨ai, ci, rfl⟩ := hvi.len
  refine K.enter Tryz.func22 rfl (Nat.le_of_ble_eq_true rfl) (fun F => ?_)
  simp only [List.nil_append, List.cons_append]
  (repeat' (first | refine X.rq ?_ | (refine X.rc ?_ ?_ <;> intro hc <;> first | (exfalso; omega) | skip)))
  refine K.l_box rfl rfl rfl (fun B2 => ?_)
  refine K.l_box rfl rfl rfl (fun B3 => ?_)
  refine K.l_alloc (Fx.zr rfl) rfl rfl (fun B4 => ?_)
  (repeat' (first | refine X.rq ?_ | (refine X.rc ?_ ?_ <;> intro hc <;> first | (exfalso; omega) | skip)))
  refine K.s_pure (K.p_makeFunc rfl) rfl ?_
  have hf := FirstI h [blk B3 9 [.string key]] 58 [.pointer (some ⟨B3, 0, none⟩)] (Fx.cal rfl) _ is s.idxs (fun t => decide (t.name = key)) hvi hi (Nat.le_trans hw.li (by decide)) (fun x c _ hc => Index1 h B3 key x c hc)
  refine K.l_call (Fx.cal rfl) rfl hf (K.pp [1] rfl) rfl ?_
  rintro u h' H' - ⟨e, rfl, c, rfl, hc⟩
  obtain rfl := e.symm
  simp only [List.nil_append, List.cons_append]
  have hgl := got_leni hw fun t => decide (t.name = key)
  generalize s.idxs.find? (fun t => decide (t.name = key)) = o at hc hgl ⊢
  simp only [List.set_cons_zero, List.set_cons_succ, List.eraseIdx_cons_zero, List.eraseIdx_cons_succ, List.cons_append, List.nil_append]
  (repeat' (first | refine X.rq ?_ | (refine X.rc ?_ ?_ <;> intro hc <;> first | (exfalso; omega) | skip)))
  refine K.l_call (Fx.cal rfl) rfl (OwnIndex h _ c o.isSome hc hgl) (K.pp [] rfl) rfl ?_
  rintro u h' H' hle ⟨rfl, v, rfl, hv2, hf2⟩
  simp only [List.nil_append, List.cons_append]
  obtain ⟨av, cv, rfl⟩ := hv2.len
  (repeat' (first | refine X.rq ?_ | (refine X.rc ?_ ?_ <;> intro hc <;> first | (exfalso; omega) | skip)))
  refine X.stw ?_
  simp only [List.set_cons_zero, List.set_cons_succ, List.eraseIdx_cons_zero, List.eraseIdx_cons_succ, List.cons_append, List.nil_append]
  (repeat' (first | refine X.rq ?_ | (refine X.rc ?_ ?_ <;> intro hc <;> first | (exfalso; omega) | skip)))
  refine K.doneC (by first | exact Or.inl rfl | exact Or.inr rfl) (.cell rfl (Fx.agg rfl) (Fx.sz rfl) (by first | exact K.cels_own (pre := []) (post := []) 0 rfl rfl | exact K.cels_own (pre := []) (post := []) 1 rfl rfl | exact K.cels_own (pre := []) (post := []) 2 rfl rfl | exact K.cels_own (pre := []) (post := []) 3 rfl rfl | exact K.cels_own (pre := []) (post := []) 4 rfl rfl | exact K.cels_own (pre := []) (post := []) 5 rfl rfl) (.tmp rfl .nil)) (by first | exact K.Base.le.refl _ | assumption) (vs := [.agg (cIdx (o.getD zIdx) (.slice av _ cv)).toArray, .bool o.isSome]) (D := [_, _, _]) (H' := []) rfl ⟨rfl, _, rfl, hv2, hf2⟩
end Go.Proofs.YtdjacjhojbkgjaaGreat.Ct
