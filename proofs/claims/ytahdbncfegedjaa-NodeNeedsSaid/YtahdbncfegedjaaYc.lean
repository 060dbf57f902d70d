/-
  Trees of pages: what is alive; ways and seeks. Conditions: each theorem's own.
-/
import Derived.Test.YtahdbncfegedjaaYb

namespace Go.Proofs.Ytahdbncfegedjaa.Nd
open Go Go.K Go.Proofs Go.Proofs.Ytahdbncfegedjaa Go.Proofs.Ytahdbncfegedjaa.Pg
set_option linter.unusedVariables false
set_option linter.unusedSimpArgs false
set_option maxRecDepth 10000

theorem way_ok {h : Base} {r : Except Int (List Nat)} {v : Value} {l : List Nat} (hw : WayR h r v) (hr : r = .ok l) : ∃ sv, v = .tuple #[sv, .int .i64 0] ∧ U32s h sv l := by
  obtain ⟨sv, l', e, rfl, hu, ⟨rfl, h1⟩ | ⟨h1, h2⟩⟩ := hw
  · rw [hr] at h1; cases h1; exact ⟨sv, rfl, hu⟩
  · rw [hr] at h1; cases h1
theorem seek_ok {r : Except Int (Nat × Int)} {v : Value} {n : Nat} {i : Int} (hw : SeekR r v) (hr : r = .ok (n, i)) : v = .tuple #[uV n, .int .i64 i, .int .i64 0] := by
  obtain ⟨n', i', e, rfl, hn, ⟨rfl, h1⟩ | ⟨h1, h2⟩⟩ := hw
  · rw [hr] at h1; cases h1; rfl
  · rw [hr] at h1; cases h1
theorem need_ok {r : Except Int Nat} {v : Value} {k : Nat} (hw : NeedR r v) (hr : r = .ok k) : v = .tuple #[.int .i64 k, .int .i64 0] := by
  obtain ⟨k', e, rfl, ⟨h1, rfl⟩ | ⟨h1, h2⟩⟩ := hw
  · rw [hr] at h1; cases h1; rfl
  · rw [hr] at h1; cases h1
theorem need_no {r : Except Int Nat} {v : Value} {e : Int} (hw : NeedR r v) (hr : r = .error e) : v = .tuple #[.int .i64 (0 : Nat), .int .i64 e] := by
  obtain ⟨k', e', rfl, ⟨h1, rfl⟩ | ⟨h1, rfl⟩⟩ := hw
  · rw [hr] at h1; cases h1
  · rw [hr] at h1; cases h1; rfl
theorem cells_ok {r : Except Int (List PCell)} {v : Value} {h : Base} {H : List Asrt} {l : List PCell} (hw : CellsR r v h H) (hr : r = .ok l) : ∃ u, v = .tuple #[u, .int .i64 0] ∧ RowO h l u H := by
  obtain ⟨u, l', e, rfl, ho, ⟨h1, rfl⟩ | ⟨h1, h2⟩⟩ := hw
  · rw [hr] at h1; cases h1; exact ⟨u, rfl, ho⟩
  · rw [hr] at h1; cases h1
set_option maxHeartbeats 2000000 in
theorem Alive (h : Base) : Tr Try.prog 7 [] h [] (fun v h' H' => H' = [] ∧ v = .bool true) := by
  refine K.enter Try.func7 rfl (Nat.le_of_ble_eq_true rfl) (fun F => ?_)
  simp only [List.nil_append]
  (repeat' (first | refine X.rq ?_ | (refine X.rc ?_ ?_ <;> intro hc <;> first | (exfalso; omega) | skip)))
  refine K.l_call (Fx.cal rfl) rfl (Small h) (K.pp [] rfl) rfl ?_
  rintro v h1 H' hle ⟨rfl, cs, rfl, hT⟩
  obtain ⟨hb0, he0, hl0, pv, rfl, hiv⟩ := id hT
  obtain ⟨es, hv, _⟩ := hiv
  obtain ⟨ao, ca, rfl⟩ := hv.len
  simp only [List.set_cons_zero, List.set_cons_succ, List.eraseIdx_cons_zero, List.eraseIdx_cons_succ, List.cons_append, List.nil_append]
  refine K.l_alloc (Fx.zr rfl) rfl rfl (fun B1 => ?_)
  refine X.stw ?_
  simp only [List.set_cons_zero, List.set_cons_succ, List.eraseIdx_cons_zero, List.eraseIdx_cons_succ, List.cons_append, List.nil_append]
  have hG := few_tree (t := smallT) (by decide)
  (repeat' (first | refine X.rq ?_ | (refine X.rc ?_ ?_ <;> intro hc <;> first | (exfalso; omega) | skip)))
  refine K.s_pure (K.p_makeFuncB rfl rfl) rfl ?_
  refine K.l_call (Fx.cal rfl) rfl (Path h1 _ (some (treeG smallT)) 7 [99] (getV_tree hT) (by decide)) (K.pp [] rfl) rfl ?_
  rintro v h2 H' le2 ⟨rfl, hw⟩
  obtain ⟨sv, rfl, hu⟩ := way_ok hw small_path
  obtain ⟨ao2, sn2, sc2, rfl⟩ := hu.shape
  simp only [List.set_cons_zero, List.set_cons_succ, List.eraseIdx_cons_zero, List.eraseIdx_cons_succ, List.cons_append, List.nil_append]
  (repeat' (first | refine X.rq ?_ | (refine X.rc ?_ ?_ <;> intro hc <;> first | (exfalso; omega) | skip)))
  refine K.s_pure (K.p_makeFuncB rfl rfl) rfl ?_
  refine K.l_call (Fx.cal rfl) rfl (Seek h2 _ (some (treeG smallT)) 7 [99] (getV_tree (hT.le le2)) (by decide)) (K.pp [] rfl) rfl ?_
  rintro v h3 H' le3 ⟨rfl, hw⟩
  obtain rfl := seek_ok hw small_seek
  simp only [List.set_cons_zero, List.set_cons_succ, List.eraseIdx_cons_zero, List.eraseIdx_cons_succ, List.cons_append, List.nil_append]
  (repeat' (first | refine X.rq ?_ | (refine X.rc ?_ ?_ <;> intro hc <;> first | (exfalso; omega) | skip)))
  refine K.s_pure (K.p_makeFuncB rfl rfl) rfl ?_
  refine K.l_buildSlice (Fx.und rfl) (Fx.sz rfl) rfl (Fx.zr rfl) rfl rfl rfl rfl rfl (fun B3 => ?_)
  refine K.WL.bufOf (m := 1) (s := 1) rfl (by unfold maxLen; omega) ?_
  refine K.WL.freezeRowN (es := [[.int .u32 7]]) rfl (fun e he => by rw [List.mem_singleton.1 he]; rfl) (fun h4 le4 hs4 => ?_)
  have hu4 : U32s h4 (.slice (some ⟨B3, 0, none⟩) 1 1) [7] := ⟨hs4, by decide⟩
  have le24 := le2.trans (le3.trans le4)
  refine K.l_call (Fx.cal rfl) rfl (Needs h4 _ (some (treeG smallT)) _ [7] [99] (getV_tree (hT.le le24)) hu4 (by decide)) (K.pp [] rfl) rfl ?_
  rintro v h5 H' le5 ⟨rfl, hw⟩
  obtain rfl := need_ok hw small_needs
  simp only [List.set_cons_zero, List.set_cons_succ, List.eraseIdx_cons_zero, List.eraseIdx_cons_succ, List.cons_append, List.nil_append]
  (repeat' (first | refine X.rq ?_ | (refine X.rc ?_ ?_ <;> intro hc <;> first | (exfalso; omega) | skip)))
  refine K.s_pure (K.p_makeFuncB rfl rfl) rfl ?_
  refine K.l_buildSlice (Fx.und rfl) (Fx.sz rfl) rfl (Fx.zr rfl) rfl rfl rfl rfl rfl (fun B4 => ?_)
  refine K.WL.bufOf (m := 1) (s := 1) rfl (by unfold maxLen; omega) ?_
  refine K.WL.freezeRowN (es := [[.int .u32 7]]) rfl (fun e he => by rw [List.mem_singleton.1 he]; rfl) (fun h6 le6 hs6 => ?_)
  have hu6 : U32s h6 (.slice (some ⟨B4, 0, none⟩) 1 1) [7] := ⟨hs6, by decide⟩
  have le26 := le24.trans (le5.trans le6)
  refine K.l_call (Fx.cal rfl) rfl (Needs h6 _ (some (treeG smallT)) _ [7] [98] (getV_tree (hT.le le26)) hu6 (by decide)) (K.pp [] rfl) rfl ?_
  rintro v h7 H' le7 ⟨rfl, hw⟩
  obtain rfl := need_no hw small_there
  simp only [List.set_cons_zero, List.set_cons_succ, List.eraseIdx_cons_zero, List.eraseIdx_cons_succ, List.cons_append, List.nil_append]
  (repeat' (first | refine X.rq ?_ | (refine X.rc ?_ ?_ <;> intro hc <;> first | (exfalso; omega) | skip)))
  refine K.s_pure (K.p_makeFuncB rfl rfl) rfl ?_
  have le27 := le26.trans le7
  refine K.l_call (Fx.cal rfl) rfl (All h7 _ (some (treeG smallT)) hG 7 (getV_tree (hT.le le27)) (by decide)) (K.pp [] rfl) rfl ?_
  rintro v h8 H' le8 hw
  obtain ⟨u8, rfl, a8, k8, e8, rfl, hr8, rfl⟩ := cells_ok hw small_cells
  simp only [List.set_cons_zero, List.set_cons_succ, List.eraseIdx_cons_zero, List.eraseIdx_cons_succ, List.cons_append, List.nil_append]
  (repeat' (first | refine X.rq ?_ | (refine X.rc ?_ ?_ <;> intro hc <;> first | (exfalso; omega) | skip)))
  refine K.l_buildSlice (Fx.und rfl) (Fx.sz rfl) rfl (Fx.zr rfl) rfl rfl rfl rfl rfl (fun B5 => ?_)
  refine K.WL.bufOf (m := 1) (s := 1) rfl (by unfold maxLen; omega) ?_
  refine K.WL.freezeRowN (es := [[.int .u32 7]]) rfl (fun e he => by rw [List.mem_singleton.1 he]; rfl) (fun h9 le9 hs9 => ?_)
  have hu9 : U32s h9 (.slice (some ⟨B5, 0, none⟩) 1 1) [7] := ⟨hs9, by decide⟩
  have le89 := le3.trans (le4.trans (le5.trans (le6.trans (le7.trans (le8.trans le9)))))
  try refine K.s_take rfl rfl ?_
  refine K.l_callV (Fx.cal rfl) rfl (Numbers h9 _ _ [7] (hu.le le89) hu9 (by decide)) (K.pp [] rfl) rfl rfl ?_
  simp only [List.set_cons_zero, List.set_cons_succ, List.eraseIdx_cons_zero, List.eraseIdx_cons_succ, List.cons_append, List.nil_append]
  (repeat' (first | refine X.rq ?_ | (refine X.rc ?_ ?_ <;> intro hc <;> first | (exfalso; omega) | skip)))
  refine K.s_pure (K.p_makeFuncB rfl rfl) rfl ?_
  have le29 := le27.trans (le8.trans le9)
  try refine K.s_take rfl rfl ?_
  refine K.l_call (Fx.cal rfl) rfl (Check h9 _ (some (treeG smallT)) hG 7 (getV_tree (hT.le le29)) (by decide)) (K.pp [] rfl) rfl ?_
  rintro v h10 H' le10 ⟨rfl, rfl⟩
  rw [small_check]
  dsimp only [errOf]
  simp only [List.set_cons_zero, List.set_cons_succ, List.eraseIdx_cons_zero, List.eraseIdx_cons_succ, List.cons_append, List.nil_append]
  (repeat' (first | refine X.rq ?_ | (refine X.rc ?_ ?_ <;> intro hc <;> first | (exfalso; omega) | skip)))
  refine K.s_pure (K.p_makeFuncB rfl rfl) rfl ?_
  try refine K.s_take rfl rfl ?_
  refine K.l_call (Fx.cal rfl) rfl (Check h10 _ (some (treeG smallT)) hG 0 (getV_tree (hT.le (le29.trans le10))) (by decide)) (K.pp [] rfl) rfl ?_
  rintro v h11 H' le11 ⟨rfl, rfl⟩
  rw [small_check0]
  dsimp only [errOf]
  simp only [List.set_cons_zero, List.set_cons_succ, List.eraseIdx_cons_zero, List.eraseIdx_cons_succ, List.cons_append, List.nil_append]
  (repeat' (first | refine X.rq ?_ | (refine X.rc ?_ ?_ <;> intro hc <;> first | (exfalso; omega) | skip)))
  have leA := hle.trans (le29.trans (le10.trans le11))
  exact K.doneC (vs := [.bool true]) (by first | exact Or.inl rfl | exact Or.inr rfl) (.tmp rfl .nil) leA (D := [_, _]) (H' := []) rfl ⟨rfl, rfl⟩
end Go.Proofs.Ytahdbncfegedjaa.Nd
