/-
  Trees of pages: ways and seeks: the law's walk. Conditions: each theorem's own.
-/
import Derived.Test.YtahdbncfegedjaaYc

namespace Go.Proofs.Ytahdbncfegedjaa.Nd
open Go Go.K Go.Proofs Go.Proofs.Ytahdbncfegedjaa Go.Proofs.Ytahdbncfegedjaa.Pg
set_option linter.unusedVariables false
set_option linter.unusedSimpArgs false
set_option maxRecDepth 10000

theorem short_small {t : PTree} (h : ShortT t) : ∀ x ∈ t.pages, small x.to.cells := fun x hx => by
  obtain ⟨h1, h2⟩ := h.2 x hx
  exact ⟨by omega, fun c hc => by have := h2 c hc; omega⟩
theorem way_two {h : Base} {r : Except Int (List Nat)} {v w : Value} (hv : WayR h r v) (hw : WayR h r w) : ∃ sv sw l e, v = .tuple #[sv, .int .i64 e] ∧ w = .tuple #[sw, .int .i64 e] ∧ U32s h sv l ∧ U32s h sw l ∧ (r = .ok l ∨ l = []) := by
  obtain ⟨sv, l, e, rfl, hu, h1⟩ := hv
  obtain ⟨sw, m, f, rfl, hu2, h2⟩ := hw
  rcases h1 with ⟨rfl, h1⟩ | ⟨h1, rfl⟩ <;> rcases h2 with ⟨rfl, h2⟩ | ⟨h2, rfl⟩ <;> rw [h1] at h2 <;> cases h2
  · exact ⟨_, _, l, 0, rfl, rfl, hu, hu2, .inl h1⟩
  · exact ⟨_, _, [], e, rfl, rfl, hu, hu2, .inr rfl⟩
theorem seek_two {r : Except Int (Nat × Int)} {v w : Value} (hv : SeekR r v) (hw : SeekR r w) : ∃ (n : Nat) (i e : Int), v = .tuple #[uV n, .int .i64 i, .int .i64 e] ∧ w = .tuple #[uV n, .int .i64 i, .int .i64 e] := by
  obtain ⟨n, i, e, rfl, _, h1⟩ := hv
  obtain ⟨m, k, f, rfl, _, h2⟩ := hw
  rcases h1 with ⟨rfl, h1⟩ | ⟨h1, rfl, rfl⟩ <;> rcases h2 with ⟨rfl, h2⟩ | ⟨h2, rfl, rfl⟩ <;> rw [h1] at h2 <;> cases h2
  · exact ⟨_, _, _, rfl, rfl⟩
  · exact ⟨_, _, _, rfl, rfl⟩
theorem WayR.le {h h' : Base} {r : Except Int (List Nat)} {v : Value} (hv : WayR h r v) (hle : h.le h') : WayR h' r v := by
  obtain ⟨sv, l, e, rfl, hu, h1⟩ := hv
  exact ⟨sv, l, e, rfl, hu.le hle, h1⟩
theorem path_len {G : Option GetQ} {root : Nat} {s : List UInt8} {l : List Nat} (h : pathQ G root s = .ok l) : l.length ≤ 8 := by
  unfold pathQ at h
  split at h
  · cases h
  · exact way_len h
set_option maxHeartbeats 2000000 in
theorem NodePathsW (h : Base) (cs : List Value) (t : PTree) (root : Nat) (s : List UInt8) (hx : TreeC h cs t) (hr : root < 4294967296) :
    Tr Try.prog 3 [.agg cs.toArray, uV root, txt s] h [] (fun u h' H' => u = .bool true ∧ H' = []) := by
  have hsz := txt_size s
  have hal := Alive h
  obtain ⟨hb0, he0, hl0, pv, rfl, hiv⟩ := id hx
  obtain ⟨es, hv, _⟩ := id hiv
  obtain ⟨ao, ca, rfl⟩ := hv.len
  refine K.enter Try.func3 rfl (Nat.le_of_ble_eq_true rfl) (fun F => ?_)
  simp only [List.nil_append]
  (repeat' (first | refine X.rq ?_ | (refine X.rc ?_ ?_ <;> intro hc <;> first | (exfalso; omega) | skip)))
  refine K.l_box rfl rfl rfl (fun B3 => ?_)
  (repeat' (first | refine X.rq ?_ | (refine X.rc ?_ ?_ <;> intro hc <;> first | (exfalso; omega) | skip)))
  refine K.l_call (Fx.cal rfl) rfl (LongT h _ t hx) (K.pp [] rfl) rfl ?_
  rintro v h' H' - ⟨e, rfl, b, rfl, hb⟩
  obtain rfl := e.symm
  simp only [List.set_cons_zero, List.set_cons_succ, List.eraseIdx_cons_zero, List.eraseIdx_cons_succ, List.cons_append, List.nil_append]
  cases b with
  | true =>
    (repeat' (first | refine X.rq ?_ | (refine X.rc ?_ ?_ <;> intro hc <;> first | (exfalso; omega) | skip)))
    refine K.l_call (Fx.cal rfl) rfl hal (K.pp [] rfl) rfl ?_
    rintro v h2 H' le2 ⟨rfl, rfl⟩
    simp only [List.set_cons_zero, List.set_cons_succ, List.eraseIdx_cons_zero, List.eraseIdx_cons_succ, List.cons_append, List.nil_append]
    (repeat' (first | refine X.rq ?_ | (refine X.rc ?_ ?_ <;> intro hc <;> first | (exfalso; omega) | skip)))
    exact K.doneC (vs := [.bool true]) (by first | exact Or.inl rfl | exact Or.inr rfl) (.tmp rfl .nil) le2 (D := [_]) (H' := []) rfl ⟨rfl, rfl⟩
  | false =>
    have hsh := hb rfl
    have hsm := short_small hsh
    have h300 := hsh.1
    (repeat' (first | refine X.rq ?_ | (refine X.rc ?_ ?_ <;> intro hc <;> first | (exfalso; omega) | skip)))
    · refine K.l_call (Fx.cal rfl) rfl hal (K.pp [] rfl) rfl ?_
      rintro v h2 H' le2 ⟨rfl, rfl⟩
      simp only [List.set_cons_zero, List.set_cons_succ, List.eraseIdx_cons_zero, List.eraseIdx_cons_succ, List.cons_append, List.nil_append]
      (repeat' (first | refine X.rq ?_ | (refine X.rc ?_ ?_ <;> intro hc <;> first | (exfalso; omega) | skip)))
      exact K.doneC (vs := [.bool true]) (by first | exact Or.inl rfl | exact Or.inr rfl) (.tmp rfl .nil) le2 (D := [_]) (H' := []) rfl ⟨rfl, rfl⟩
    refine K.l_call (Fx.cal rfl) rfl (Copied h _ t hx hsm (by omega)) (K.pp [] rfl) rfl ?_
    rintro v h1 H' le1 ⟨rfl, ds, rfl, hy⟩
    obtain ⟨_, _, _, pv2, rfl, hiv2⟩ := id hy
    obtain ⟨es2, hv2, _⟩ := id hiv2
    obtain ⟨ao2, ca2, rfl⟩ := hv2.len
    simp only [List.set_cons_zero, List.set_cons_succ, List.eraseIdx_cons_zero, List.eraseIdx_cons_succ, List.cons_append, List.nil_append]
    refine K.l_alloc (Fx.zr rfl) rfl rfl (fun B7 => ?_)
    refine X.stw ?_
    simp only [List.set_cons_zero, List.set_cons_succ, List.eraseIdx_cons_zero, List.eraseIdx_cons_succ, List.cons_append, List.nil_append]
    (repeat' (first | refine X.rq ?_ | (refine X.rc ?_ ?_ <;> intro hc <;> first | (exfalso; omega) | skip)))
    refine K.s_pure (K.p_makeFuncB rfl rfl) rfl ?_
    (repeat' (first | refine X.rq ?_ | (refine X.rc ?_ ?_ <;> intro hc <;> first | (exfalso; omega) | skip)))
    refine K.l_call (Fx.cal rfl) rfl (Path h1 _ (some (treeG t)) root s (getV_tree (hx.le le1)) hr) (K.pp [] rfl) rfl ?_
    rintro v h2 H' le2 ⟨rfl, hw1⟩
    obtain ⟨sv1, l1, e1, rfl, hu1, _⟩ := id hw1
    obtain ⟨a1, n1, c1, rfl⟩ := hu1.shape
    simp only [List.set_cons_zero, List.set_cons_succ, List.eraseIdx_cons_zero, List.eraseIdx_cons_succ, List.cons_append, List.nil_append]
    (repeat' (first | refine X.rq ?_ | (refine X.rc ?_ ?_ <;> intro hc <;> first | (exfalso; omega) | skip)))
    refine K.l_call (Fx.cal rfl) rfl (RPath h2 _ t root s (hy.le le2) hr) (K.pp [] rfl) rfl ?_
    rintro v h3 H' le3 ⟨rfl, hw2⟩
    obtain ⟨sv, sw, l, e, ev1, rfl, hv1', hv2', hq⟩ := way_two (hw1.le le3) hw2
    simp only [Value.tuple.injEq, Array.mk.injEq, List.cons.injEq, Value.int.injEq, true_and, and_true] at ev1
    obtain ⟨rfl, rfl⟩ := ev1
    obtain ⟨a3, n3, c3, rfl⟩ := hv2'.shape
    simp only [List.set_cons_zero, List.set_cons_succ, List.eraseIdx_cons_zero, List.eraseIdx_cons_succ, List.cons_append, List.nil_append]
    (repeat' (first | refine X.rq ?_ | (refine X.rc ?_ ?_ <;> intro hc <;> first | (exfalso; omega) | skip)))
    refine K.s_pure (K.p_makeFuncB rfl rfl) rfl ?_
    (repeat' (first | refine X.rq ?_ | (refine X.rc ?_ ?_ <;> intro hc <;> first | (exfalso; omega) | skip)))
    refine K.l_call (Fx.cal rfl) rfl (Seek h3 _ (some (treeG t)) root s (getV_tree (hx.le (le1.trans (le2.trans le3)))) hr) (K.pp [] rfl) rfl ?_
    rintro v h4 H' le4 ⟨rfl, hs1⟩
    obtain ⟨nn, ii, ee, rfl, _, _⟩ := id hs1
    simp only [List.set_cons_zero, List.set_cons_succ, List.eraseIdx_cons_zero, List.eraseIdx_cons_succ, List.cons_append, List.nil_append]
    (repeat' (first | refine X.rq ?_ | (refine X.rc ?_ ?_ <;> intro hc <;> first | (exfalso; omega) | skip)))
    refine K.l_call (Fx.cal rfl) rfl (RSeek h4 _ t root s (hy.le (le2.trans (le3.trans le4))) hr) (K.pp [] rfl) rfl ?_
    rintro v h5 H' le5 ⟨rfl, hs2⟩
    obtain ⟨n6, i6, e6, ev2, rfl⟩ := seek_two hs1 hs2
    simp only [Value.tuple.injEq, Array.mk.injEq, List.cons.injEq, Value.int.injEq, true_and, and_true] at ev2
    obtain ⟨hnn, rfl, rfl⟩ := ev2
    obtain rfl : nn = n6 := by omega
    simp only [List.set_cons_zero, List.set_cons_succ, List.eraseIdx_cons_zero, List.eraseIdx_cons_succ, List.cons_append, List.nil_append]
    (repeat' (first | refine X.rq ?_ | (refine X.rc ?_ ?_ <;> intro hc <;> first | (exfalso; omega) | skip)))
    have hll : l.length ≤ 8 := by
      rcases hq with h | h
      · exact path_len h
      · rw [h]; exact Nat.zero_le _
    refine K.l_callV (Fx.cal rfl) rfl (Numbers h5 _ _ l (hv1'.le (le4.trans le5)) (hv2'.le (le4.trans le5)) (by omega)) (K.pp [] rfl) rfl rfl ?_
    simp only [List.set_cons_zero, List.set_cons_succ, List.eraseIdx_cons_zero, List.eraseIdx_cons_succ, List.cons_append, List.nil_append]
    (repeat' (first | refine X.rq ?_ | (refine X.rc ?_ ?_ <;> intro hc <;> first | (exfalso; omega) | skip)))
    all_goals try (exfalso; omega)
    refine K.l_callV (Fx.cal rfl) rfl (Alike h5 _ _ t (hx.le (le1.trans (le2.trans (le3.trans (le4.trans le5))))) (hy.le (le2.trans (le3.trans (le4.trans le5)))) (by omega)) (K.pp [] rfl) rfl rfl ?_
    simp only [List.set_cons_zero, List.set_cons_succ, List.eraseIdx_cons_zero, List.eraseIdx_cons_succ, List.cons_append, List.nil_append]
    (repeat' (first | refine X.rq ?_ | (refine X.rc ?_ ?_ <;> intro hc <;> first | (exfalso; omega) | skip)))
    refine K.l_call (Fx.cal rfl) rfl (Alive h5) (K.pp [] rfl) rfl ?_
    rintro v h6 H' le6 ⟨rfl, rfl⟩
    simp only [List.set_cons_zero, List.set_cons_succ, List.eraseIdx_cons_zero, List.eraseIdx_cons_succ, List.cons_append, List.nil_append]
    (repeat' (first | refine X.rq ?_ | (refine X.rc ?_ ?_ <;> intro hc <;> first | (exfalso; omega) | skip)))
    exact K.doneC (vs := [.bool true]) (by first | exact Or.inl rfl | exact Or.inr rfl) (.tmp rfl .nil) (le1.trans (le2.trans (le3.trans (le4.trans (le5.trans le6))))) (D := [_, _]) (H' := []) rfl ⟨rfl, rfl⟩
theorem NodePathsB (h : Base) (cs : List Value) (t : PTree) (root : Nat) (s : ByteArray) (hx : TreeC h cs t) (hr : root < 4294967296) :
    Tr Try.prog 3 [.agg cs.toArray, uV root, .string s] h [] (fun u h' H' => u = .bool true ∧ H' = []) := by
  have := NodePathsW h cs t root s.data.toList hx hr
  rwa [show txt s.data.toList = Value.string s from by cases s; simp [txt]] at this
end Go.Proofs.Ytahdbncfegedjaa.Nd
