/-
  Trees of pages: how many fresh pages a Split wants; the code's. Conditions: each theorem's own.
-/
import Derived.Test.YtahdbncfegedjaaXu

namespace Go.Proofs.Ytahdbncfegedjaa.Nd
open Go Go.K Go.Proofs Go.Proofs.Ytahdbncfegedjaa Go.Proofs.Ytahdbncfegedjaa.Pg
set_option linter.unusedVariables false
set_option linter.unusedSimpArgs false
set_option maxRecDepth 10000

def needsQ (G : Option GetQ) (path : List Nat) (s : List UInt8) : Except Int Nat := match startQ G path s with
  | .error e => .error e
  | .ok _ => match planQ G path s [] with
    | .error e => .error e
    | .ok st => .ok st.cnt
theorem U32s.zero (h : Base) : U32s h (.slice none 0 0) [] := U32s.nil
set_option maxHeartbeats 1000000 in
theorem NeedsC (h : Base) (gv : Value) (G : Option GetQ) (v : Value) (path : List Nat) (s : List UInt8) (B0 B1 B2 : Nat) (hg : GetV h gv G) (hv : U32s h v path) (hl : path.length ≤ 1000000) :
    TrX Try.prog 38 [.pointer (some ⟨B0, 0, none⟩), .pointer (some ⟨B1, 0, none⟩), .pointer (some ⟨B2, 0, none⟩)] h [blk B0 61 [gv], blk B1 30 [v], blk B2 9 [txt s]]
      (fun v h' H' => ∃ l, needsQ G path s = .ok l ∧ (H' = [] ∧ v = .int .i64 l)) (UpE (needsQ G path s)) := by
  obtain ⟨ao, ca, rfl⟩ := hv.len
  refine K.enterX Try.func38 rfl (Nat.le_of_ble_eq_true rfl) (fun F => ?_)
  simp only [List.cons_append, List.nil_append]
  (repeat' (first | refine X.rq ?_ | (refine X.rc ?_ ?_ <;> intro hc <;> first | (exfalso; omega) | skip)))
  refine K.l_callX (Fx.cal rfl) rfl (Start h gv G _ path s hg hv hl) (K.pp [] rfl) rfl ?_ ?_
  · rintro v h' H' hle ⟨rfl, e, rfl, he⟩
    repeat (first | with_reducible refine K.a_then_panic ?_ | with_reducible refine K.a_block_panic ?_)
    exact K.upXD (D := [_, _, _]) (H' := []) hle rfl ⟨rfl, e, rfl, by rw [needsQ, he]⟩
  rintro v h' H' hle ⟨rfl, hq⟩
  obtain ⟨-, hs, hpo⟩ := start_ok hq
  simp only [List.set_cons_zero, List.set_cons_succ, List.eraseIdx_cons_zero, List.eraseIdx_cons_succ, List.cons_append, List.nil_append]
  (repeat' (first | refine X.rq ?_ | (refine X.rc ?_ ?_ <;> intro hc <;> first | (exfalso; omega) | skip)))
  refine K.l_callX (Fx.cal rfl) rfl (PPlan h' gv G _ path s _ [] (hg.le hle) (hv.le hle) hpo hs (U32s.zero h') (Nat.zero_le _)) (K.pp [] rfl) rfl ?_ ?_
  · rintro v h2 H' hle2 ⟨rfl, e, rfl, he⟩
    repeat (first | with_reducible refine K.a_then_panic ?_ | with_reducible refine K.a_block_panic ?_)
    exact K.upXD (D := [_, _, _]) (H' := []) (hle.trans hle2) rfl ⟨rfl, e, rfl, by rw [needsQ, hq]; dsimp only; rw [he]⟩
  rintro u h2 H' hle2 ⟨st, he, Bw, a, cap, rows, fv', rfl, rfl, hr, hf⟩
  simp only [List.set_cons_zero, List.set_cons_succ, List.eraseIdx_cons_zero, List.eraseIdx_cons_succ, List.cons_append, List.nil_append]
  (repeat' (first | refine X.rq ?_ | (refine X.rc ?_ ?_ <;> intro hc <;> first | (exfalso; omega) | skip)))
  exact K.doneXC (vs := [.int .i64 st.cnt]) (by first | exact Or.inl rfl | exact Or.inr rfl) (.tmp rfl .nil) (hle.trans hle2) (D := [_, _, _, _, _]) (H' := []) rfl ⟨st.cnt, by rw [needsQ, hq]; dsimp only; rw [he], rfl, rfl⟩
def NeedR (r : Except Int Nat) (v : Value) : Prop := ∃ (k : Nat) (e : Int), v = .tuple #[.int .i64 k, .int .i64 e] ∧ ((r = .ok k ∧ e = 0) ∨ (r = .error e ∧ k = 0))
set_option maxHeartbeats 1000000 in
theorem Needs (h : Base) (gv : Value) (G : Option GetQ) (v : Value) (path : List Nat) (s : List UInt8) (hg : GetV h gv G) (hv : U32s h v path) (hl : path.length ≤ 1000000) :
    Tr Try.prog 16 [gv, v, txt s] h [] (fun v h' H' => H' = [] ∧ NeedR (needsQ G path s) v) := by
  have hv0 := hv
  obtain ⟨ao, ca, rfl⟩ := hv.len
  have h1 := hg.one
  refine K.enter Try.func16 rfl (Nat.le_of_ble_eq_true rfl) (fun F => ?_)
  (repeat' (first | refine X.rq ?_ | (refine X.rc ?_ ?_ <;> intro hc <;> first | (exfalso; omega) | skip)))
  refine K.l_box rfl h1 rfl (fun B0 => ?_)
  refine K.l_box rfl rfl rfl (fun B1 => ?_)
  refine K.l_box rfl rfl rfl (fun B2 => ?_)
  simp only [List.set_cons_zero, List.set_cons_succ, List.eraseIdx_cons_zero, List.eraseIdx_cons_succ, List.cons_append, List.nil_append]
  (repeat' (first | refine X.rq ?_ | (refine X.rc ?_ ?_ <;> intro hc <;> first | (exfalso; omega) | skip)))
  refine K.s_pure (K.p_makeFunc rfl) rfl ?_
  have ht := TryI h 38 _ _ _ _ (Fx.cal rfl) (fun l u h' H' hr => ⟨_, hr.2⟩) (NeedsC h gv G _ path s B0 B1 B2 hg hv0 hl)
  refine K.l_call (F := F) (Fx.cal rfl) rfl ht (K.pp [2, 1, 0] rfl) rfl ?_
  rintro v h' H' hle (⟨l, u, hr, rfl, rfl, rfl⟩ | ⟨e, hr, rfl, rfl⟩)
  · simp only [List.set_cons_zero, List.set_cons_succ, List.eraseIdx_cons_zero, List.eraseIdx_cons_succ, List.cons_append, List.nil_append]
    (repeat' (first | refine X.rq ?_ | (refine X.rc ?_ ?_ <;> intro hc <;> first | (exfalso; omega) | skip)))
    exact K.doneC (vs := [.int .i64 l, .int .i64 0]) (by first | exact Or.inl rfl | exact Or.inr rfl) (.tmp rfl (.tmp rfl .nil)) hle (D := []) (H' := []) rfl ⟨rfl, l, 0, rfl, .inl ⟨hr, rfl⟩⟩
  · simp only [List.set_cons_zero, List.set_cons_succ, List.eraseIdx_cons_zero, List.eraseIdx_cons_succ, List.cons_append, List.nil_append]
    (repeat' (first | refine X.rq ?_ | (refine X.rc ?_ ?_ <;> intro hc <;> first | (exfalso; omega) | skip)))
    exact K.doneC (vs := [.int .i64 0, .int .i64 e]) (by first | exact Or.inl rfl | exact Or.inr rfl) (.tmp rfl (.tmp rfl .nil)) hle (D := []) (H' := []) rfl ⟨rfl, 0, e, rfl, .inr ⟨hr, rfl⟩⟩
end Go.Proofs.Ytahdbncfegedjaa.Nd
