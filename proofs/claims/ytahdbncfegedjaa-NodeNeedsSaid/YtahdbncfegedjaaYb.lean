/-
  Trees of pages: Check; the tree of one leaf; what is alive. Conditions: each theorem's own.
-/
import Derived.Test.YtahdbncfegedjaaYa

namespace Go.Proofs.Ytahdbncfegedjaa.Nd
open Go Go.K Go.Proofs Go.Proofs.Ytahdbncfegedjaa Go.Proofs.Ytahdbncfegedjaa.Pg
set_option linter.unusedVariables false
set_option linter.unusedSimpArgs false
set_option maxRecDepth 10000

def errOf {α : Type} : Except Int α → Int
  | .ok _ => 0
  | .error e => e
set_option maxHeartbeats 1000000 in
theorem Check (h : Base) (gv : Value) (G : Option GetQ) (hG : FewG G) (root : Nat) (hg : GetV h gv G) (hr : root < 4294967296) :
    Tr Try.prog 18 [gv, uV root] h [] (fun v h' H' => H' = [] ∧ v = .int .i64 (errOf (checkQ G root))) := by
  have h1 := hg.one
  refine K.enter Try.func18 rfl (Nat.le_of_ble_eq_true rfl) (fun F => ?_)
  (repeat' (first | refine X.rq ?_ | (refine X.rc ?_ ?_ <;> intro hc <;> first | (exfalso; omega) | skip)))
  refine K.l_box rfl h1 rfl (fun B0 => ?_)
  refine K.l_box rfl rfl rfl (fun B1 => ?_)
  simp only [List.set_cons_zero, List.set_cons_succ, List.eraseIdx_cons_zero, List.eraseIdx_cons_succ, List.cons_append, List.nil_append]
  (repeat' (first | refine X.rq ?_ | (refine X.rc ?_ ?_ <;> intro hc <;> first | (exfalso; omega) | skip)))
  refine K.s_pure (K.p_makeFunc rfl) rfl ?_
  have ht := TryI h 42 _ _ _ _ (Fx.cal rfl) (fun l u h' H' hr => ⟨_, hr.2⟩) (CheckC h gv G hG root B0 B1 hg hr)
  refine K.l_call (F := F) (Fx.cal rfl) rfl ht (K.pp [1, 0] rfl) rfl ?_
  rintro v h' H' hle (⟨l, u, hr, rfl, rfl, rfl⟩ | ⟨e, hr, rfl, rfl⟩)
  · simp only [List.set_cons_zero, List.set_cons_succ, List.eraseIdx_cons_zero, List.eraseIdx_cons_succ, List.cons_append, List.nil_append]
    (repeat' (first | refine X.rq ?_ | (refine X.rc ?_ ?_ <;> intro hc <;> first | (exfalso; omega) | skip)))
    exact K.doneC (vs := [.int .i64 0]) (by first | exact Or.inl rfl | exact Or.inr rfl) (.tmp rfl .nil) hle (D := []) (H' := []) rfl ⟨rfl, by rw [hr]; rfl⟩
  · simp only [List.set_cons_zero, List.set_cons_succ, List.eraseIdx_cons_zero, List.eraseIdx_cons_succ, List.cons_append, List.nil_append]
    (repeat' (first | refine X.rq ?_ | (refine X.rc ?_ ?_ <;> intro hc <;> first | (exfalso; omega) | skip)))
    exact K.doneC (vs := [.int .i64 e]) (by first | exact Or.inl rfl | exact Or.inr rfl) (.tmp rfl .nil) hle (D := []) (H' := []) rfl ⟨rfl, by rw [hr]; rfl⟩
theorem page_find {t : PTree} {n : Nat} {p : Pag} (h : pageQ (some (treeG t)) n = .ok p) : n ∈ t.pages.map (·.page) := by
  have hg : treeG t n = .ok p := by
    unfold pageQ at h
    split at h
    · cases h
    · dsimp only at h
      split at h
      · cases h
      · rename_i q hq
        split at h
        · cases h; exact hq
        · cases h
  unfold treeG at hg
  split at hg
  · cases hg
  · split at hg
    · rename_i x hx
      rw [List.mem_map]
      exact ⟨x, List.mem_of_find?_eq_some hx, by have := List.find?_some hx; simpa using this⟩
    · cases hg
theorem few_tree {t : PTree} (h : t.pages.length ≤ 1000000) : FewG (some (treeG t)) := fun l hl => by
  have := K.nodup_le hl.1 (m := t.pages.map (·.page)) fun n hn => by
    obtain ⟨p, hp⟩ := hl.2 n hn
    exact page_find hp
  rw [List.length_map] at this
  omega
def smallP : Pag := ⟨2, 0, 0, [⟨true, 0, [98]⟩, ⟨true, 0, [100]⟩]⟩
def smallT : PTree := ⟨[⟨7, smallP⟩], 0, 0⟩
theorem small_path : pathQ (some (treeG smallT)) 7 [99] = .ok [7] := by rfl
theorem small_seek : seekQ (some (treeG smallT)) 7 [99] = .ok (7, 1) := by rfl
theorem small_needs : needsQ (some (treeG smallT)) [7] [99] = .ok 0 := by rfl
theorem small_there : needsQ (some (treeG smallT)) [7] [98] = .error 7 := by rfl
theorem small_cells : cellsQ (some (treeG smallT)) 7 = .ok smallP.cells := by rfl
theorem small_check : checkQ (some (treeG smallT)) 7 = .ok 0 := by rfl
theorem small_check0 : checkQ (some (treeG smallT)) 0 = .error 1 := by rfl
set_option maxHeartbeats 1000000 in
theorem Small (h : Base) : Tr Try.prog 21 [] h [] (fun v h' H' => H' = [] ∧ ∃ cs, v = .agg cs.toArray ∧ TreeC h' cs smallT) := by
  refine K.enter Try.func21 rfl (Nat.le_of_ble_eq_true rfl) (fun F => ?_)
  simp only [List.nil_append, List.cons_append]
  (repeat' (first | refine X.rq ?_ | (refine X.rc ?_ ?_ <;> intro hc <;> first | (exfalso; omega) | skip)))
  refine K.l_alloc (Fx.zr rfl) rfl rfl (fun B0 => ?_)
  (repeat' (first | refine X.rq ?_ | (refine X.rc ?_ ?_ <;> intro hc <;> first | (exfalso; omega) | skip)))
  refine K.l_buildSlice (Fx.und rfl) (Fx.sz rfl) rfl (Fx.zr rfl) rfl rfl rfl rfl rfl (fun B2 => ?_)
  refine K.l_mark (Fx.und rfl) (Fx.und rfl) rfl rfl (by unfold maxLen; omega) rfl ?_
  refine K.WL.freezeBuf (l := [98]) (fun h1 le1 hb1 => ?_)
  obtain ⟨ao1, ca1, e1⟩ : ∃ ao1 ca1, bufV (some B2) [(98 : UInt8)].length 1 = .slice ao1 1 ca1 := ⟨_, _, rfl⟩
  have e1' : bufV (some B2) 1 1 = .slice ao1 1 ca1 := e1
  rw [e1] at hb1
  rw [e1']
  (repeat' (first | refine X.rq ?_ | (refine X.rc ?_ ?_ <;> intro hc <;> first | (exfalso; omega) | skip)))
  refine K.l_buildSlice (Fx.und rfl) (Fx.sz rfl) rfl (Fx.zr rfl) rfl rfl rfl rfl rfl (fun B3 => ?_)
  refine K.l_mark (Fx.und rfl) (Fx.und rfl) rfl rfl (by unfold maxLen; omega) rfl ?_
  refine K.WL.freezeBuf (l := [100]) (fun h2 le2 hb2 => ?_)
  obtain ⟨ao2, ca2, e2⟩ : ∃ ao1 ca1, bufV (some B3) [(100 : UInt8)].length 1 = .slice ao1 1 ca1 := ⟨_, _, rfl⟩
  have e2' : bufV (some B3) 1 1 = .slice ao2 1 ca2 := e2
  rw [e2] at hb2
  rw [e2']
  (repeat' (first | refine X.rq ?_ | (refine X.rc ?_ ?_ <;> intro hc <;> first | (exfalso; omega) | skip)))
  refine K.l_buildSlice (Fx.und rfl) (Fx.sz rfl) rfl (Fx.zr rfl) rfl rfl rfl rfl rfl (fun B4 => ?_)
  refine K.WL.bufOf (m := 2) (s := 3) rfl (by unfold maxLen; omega) ?_
  refine K.WL.freezeRowN (es := [[.bool true, .int .u32 0, .slice ao1 1 ca1], [.bool true, .int .u32 0, .slice ao2 1 ca2]]) rfl (fun e he => by
    rcases List.mem_cons.1 he with rfl | he
    · rfl
    · rw [List.mem_singleton.1 he]; rfl) (fun h3 le3 hs3 => ?_)
  obtain ⟨ao3, ca3, e3⟩ : ∃ ao1 ca1, bufV (some B4) 2 2 = .slice ao1 2 ca1 := ⟨_, _, rfl⟩
  rw [e3] at hs3
  have e3' : Value.slice (some ⟨B4, 0, none⟩) 2 2 = .slice ao3 2 ca3 := e3
  rw [e3']
  have hp : PagC h3 (cP smallP (.slice ao3 2 ca3)) smallP := ⟨⟨by decide, by decide, by decide, by decide⟩, _, rfl, _, hs3, rfl, fun j c x hj hx => by
    match j with
    | 0 => cases hj; cases hx; exact ⟨by decide, by decide, ao1, ca1, rfl, hb1.le (le2.trans le3)⟩
    | 1 => cases hj; cases hx; exact ⟨by decide, by decide, ao2, ca2, rfl, hb2.le le3⟩
    | j + 2 => simp at hj⟩
  (repeat' (first | refine X.rq ?_ | (refine X.rc ?_ ?_ <;> intro hc <;> first | (exfalso; omega) | skip)))
  refine K.l_alloc (Fx.zr rfl) rfl rfl (fun B5 => ?_)
  refine X.stw ?_
  simp only [List.set_cons_zero, List.set_cons_succ, List.eraseIdx_cons_zero, List.eraseIdx_cons_succ, List.cons_append, List.nil_append]
  (repeat' (first | refine X.rq ?_ | (refine X.rc ?_ ?_ <;> intro hc <;> first | (exfalso; omega) | skip)))
  refine K.l_buildSlice (Fx.und rfl) (Fx.sz rfl) rfl (Fx.zr rfl) rfl rfl rfl rfl rfl (fun B6 => ?_)
  refine K.WL.bufOf (m := 1) (s := 5) rfl (by unfold maxLen; omega) ?_
  refine K.WL.freezeRowN (es := [.int .u32 7 :: cP smallP (.slice ao3 2 ca3)]) rfl (fun e he => by
    rw [List.mem_singleton.1 he]; rfl) (fun h4 le4 hs4 => ?_)
  obtain ⟨ao4, ca4, e4⟩ : ∃ ao1 ca1, bufV (some B6) 1 1 = .slice ao1 1 ca1 := ⟨_, _, rfl⟩
  rw [e4] at hs4
  have e4' : Value.slice (some ⟨B6, 0, none⟩) 1 1 = .slice ao4 1 ca4 := e4
  rw [e4']
  have ht : TreeC h4 (cT smallT (.slice ao4 1 ca4)) smallT := ⟨by decide, by decide, by decide, _, rfl, _, hs4, rfl, fun j c x hj hx => by
    match j with
    | 0 => cases hj; cases hx; exact ⟨by decide, _, rfl, hp.le le4⟩
    | j + 1 => simp at hj⟩
  (repeat' (first | refine X.rq ?_ | (refine X.rc ?_ ?_ <;> intro hc <;> first | (exfalso; omega) | skip)))
  refine X.stw ?_
  simp only [List.set_cons_zero, List.set_cons_succ, List.eraseIdx_cons_zero, List.eraseIdx_cons_succ, List.cons_append, List.nil_append]
  (repeat' (first | refine X.rq ?_ | (refine X.rc ?_ ?_ <;> intro hc <;> first | (exfalso; omega) | skip)))
  exact K.doneC (vs := [.agg (cT smallT (.slice ao4 1 ca4)).toArray]) (by first | exact Or.inl rfl | exact Or.inr rfl) (.cell rfl (Fx.agg rfl) (Fx.sz rfl) (K.cels_own (pre := []) (post := []) 1 rfl rfl) .nil) (le1.trans (le2.trans (le3.trans le4))) (D := [_, _]) (H' := []) rfl ⟨rfl, _, rfl, ht⟩
end Go.Proofs.Ytahdbncfegedjaa.Nd
