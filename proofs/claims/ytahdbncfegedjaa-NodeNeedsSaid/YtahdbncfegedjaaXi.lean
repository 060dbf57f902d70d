/-
  Trees of pages: a cell put among others; the code's. Conditions: each theorem's own.
-/
import Derived.Test.YtahdbncfegedjaaXh
import Derived.Test.YtahdbncfegedjaaKU
import Derived.Test.YtahdbncfegedjaaFk

namespace Go.Proofs.Ytahdbncfegedjaa.Nd
open Go Go.K Go.Proofs Go.Proofs.Ytahdbncfegedjaa Go.Proofs.Ytahdbncfegedjaa.Pg
set_option linter.unusedVariables false
set_option linter.unusedSimpArgs false
set_option maxRecDepth 10000

theorem CloneCells (h : Base) (v : Value) (es : List (List Value)) (hv : SL h 3 v es) (h0 : 0 < es.length) (hl : es.length ≤ 1000000) (h1 : ∀ e ∈ es, ones e = true) :
    Tr Try.prog 85 [v] h [] (fun v h' H' => h' = h ∧ ∃ b cap, es.length ≤ cap ∧ v = bufV (some b) es.length cap ∧ H' = [bufA 52 3 (some b) es.length cap es.flatten]) := by
  have hv0 := hv
  rcases hv with ⟨_, _, rfl, rfl⟩ | ⟨bb, o, ca, rfl, hca, hcs⟩
  · exact absurd h0 (by decide)
  refine K.enter Try.func85 rfl (Nat.le_of_ble_eq_true rfl) (fun F => ?_)
  (repeat' (first | refine X.rq ?_ | (refine X.rc ?_ ?_ <;> intro hc <;> first | (exfalso; omega) | skip)))
  refine K.l_buildSlice (Fx.und rfl) (Fx.sz rfl) rfl (Fx.zr rfl) rfl rfl rfl rfl rfl (fun B => ?_)
  refine K.WL.bufOf (m := 0) (s := 3) rfl (by unfold maxLen; omega) ?_
  (repeat' (first | refine X.rq ?_ | (refine X.rc ?_ ?_ <;> intro hc <;> first | (exfalso; omega) | skip)))
  refine K.l_append_at 0 rfl (Fx.und rfl) (Fx.und rfl) rfl (Fx.sz rfl) (Fx.zr rfl) rfl (Fx.byt rfl) rfl rfl (K.SL.src hv0 h1) (by omega) (by omega) rfl (fun a' cap' => ?_)
  refine K.WL.someBuf 0 rfl (by omega) (fun b e => ?_)
  subst e
  rw [Nat.zero_add]
  simp only [List.set_cons_zero, List.set_cons_succ, List.eraseIdx_cons_zero, List.eraseIdx_cons_succ, List.cons_append, List.nil_append]
  refine K.WL.capB 0 rfl (fun hcap => ?_)
  (repeat' (first | refine X.rq ?_ | (refine X.rc ?_ ?_ <;> intro hc <;> first | (exfalso; omega) | skip)))
  refine K.done (by first | exact Or.inl rfl | exact Or.inr rfl) rfl (by first | exact K.Base.le.refl _ | assumption) (H' := [bufA 52 3 (some b) es.length cap' es.flatten]) rfl ⟨rfl, b, cap', hcap, rfl, rfl⟩
set_option maxHeartbeats 4000000 in
theorem InsertC (h : Base) (B3 : Nat) (l : List (List Value)) (i cap Bv : Nat) (c : List Value) (hi : i ≤ l.length) (hcap : l.length ≤ cap) (hc1 : l.length ≤ 1000000) (hz : ∀ e ∈ l, e.length = 3) (hc3 : c.length = 3) (h1 : ∀ e ∈ l, ones e = true) (hco : ones c = true) :
    Tr Try.prog 84 [bufV (some B3) l.length cap, .int .i64 i, .slice (some ⟨Bv, 0, none⟩) 1 1] h [bufA 52 3 (some B3) l.length cap l.flatten, blk Bv 52 c]
      (fun v h' H' => h' = h ∧ ∃ b cap', v = bufV b (l.length + 1) cap' ∧ H' = [bufA 52 3 b (l.length + 1) cap' (l.take i ++ c :: l.drop i).flatten]) := by
  by_cases hroom : l.length + 1 ≤ cap
  · exact Insert h B3 l i cap Bv c hi hroom hc1 hz hc3 h1 hco
  obtain rfl : cap = l.length := by omega
  refine K.enter Try.func84 rfl (Nat.le_of_ble_eq_true rfl) (fun F => ?_)
  simp only [List.cons_append, List.nil_append]
  (repeat' (first | refine X.rq ?_ | (refine X.rc ?_ ?_ <;> intro hc <;> first | (exfalso; omega) | skip)))
  refine K.s_pure (K.p_slice (k1 := .i64) (k2 := .i64) (l := i) (u := l.length) (Fx.und rfl) (Fx.sz rfl) rfl ⟨_, rfl, rfl⟩ rfl (by omega) (by omega) rfl) rfl ?_
  (repeat' (first | refine X.rq ?_ | (refine X.rc ?_ ?_ <;> intro hc <;> first | (exfalso; omega) | skip)))
  · have hil : i = l.length := by omega
    subst hil
    refine K.l_append_at 0 rfl (Fx.und rfl) (Fx.und rfl) rfl (Fx.sz rfl) (Fx.zr rfl) rfl (Fx.byt rfl) rfl rfl (K.src_cells (s := 3) (m := 1) (K.cels_own (pre := []) (cs := c) (post := []) 0 (by rw [List.nil_append, List.append_nil]; rfl) rfl) (by omega) (by simpa [ones] using hco)) (by omega) (by omega) rfl (fun b' cap' => ?_)
    simp only [List.set_cons_zero, List.set_cons_succ, List.eraseIdx_cons_zero, List.eraseIdx_cons_succ, List.cons_append, List.nil_append]
    (repeat' (first | refine X.rq ?_ | (refine X.rc ?_ ?_ <;> intro hc <;> first | (exfalso; omega) | skip)))
    refine K.AT.perm (K.pp [1] rfl) ?_
    simp only [List.set_cons_zero, List.set_cons_succ, List.eraseIdx_cons_zero, List.eraseIdx_cons_succ, List.cons_append, List.nil_append]
    refine K.AT.drop ?_
    refine K.done (by first | exact Or.inl rfl | exact Or.inr rfl) rfl (by first | exact K.Base.le.refl _ | assumption) (H' := [bufA 52 3 b' (l.length + 1) cap' (l.flatten ++ c)]) rfl ⟨rfl, b', cap', rfl, by simp⟩
  · have hil : i < l.length := by omega
    obtain ⟨p1, p2⟩ := three_of hz i
    rw [List.length_take, Nat.min_eq_left (by omega)] at p1
    rw [List.length_drop] at p2
    refine K.WL.perm (K.pp [0] rfl) ?_
    refine K.o_buf (fun e _ _ _ => by cases e) ?_
    rintro bb sp fz e g2 g3 g4 g5 g6
    cases e
    rw [flat_at l i] at g2 g3 ⊢
    have hres : (l.take i ++ c :: l.drop i).flatten = (l.take i).flatten ++ c ++ (l.drop i).flatten := by simp
    have hA1 := ones_flat (l := l.take i) fun e he => h1 e (List.mem_of_mem_take he)
    have hD1 := ones_flat (l := l.drop i) fun e he => h1 e (List.mem_of_mem_drop he)
    generalize (l.take i).flatten = A at *
    generalize (l.drop i).flatten = D at *
    have hsp : sp = [] := List.eq_nil_of_length_eq_zero (by rw [List.length_append] at g3; omega)
    subst hsp
    rw [List.append_nil]
    refine K.s_pure (K.p_capS (Fx.und rfl) rfl) rfl ?_
    (repeat' (first | refine X.rq ?_ | (refine X.rc ?_ ?_ <;> intro hc <;> first | (exfalso; omega) | skip)))
    refine K.s_pure (K.p_slice (k1 := .i64) (k2 := .i64) (l := 0) (u := i) (ao := some ⟨B3, 0, none⟩) (Fx.und rfl) (Fx.sz rfl) rfl rfl ⟨_, rfl, by omega⟩ (by omega) (by omega) (by split <;> simp)) rfl ?_
    rw [Nat.sub_zero, Nat.sub_zero]
    (repeat' (first | refine X.rq ?_ | (refine X.rc ?_ ?_ <;> intro hc <;> first | (exfalso; omega) | skip)))
    refine K.l_appendMake (k := l.length + 1 - i) (old := A) (Fx.und rfl) (Fx.und rfl) (Fx.sz rfl) (Fx.zr rfl) rfl (Fx.byt rfl) (by omega) rfl (by rw [show ((l.length + 1 - i : Nat) : Int) = (l.length : Int) + 1 - i by omega]; rfl) (K.cels_own (pre := []) (post := D) 0 (by rw [List.nil_append]; rfl) rfl) p1 (by omega) (by omega) (by omega) (by omega) rfl (fun BN cap' more k1 k2 k3 => ?_)
    rw [show i + (l.length + 1 - i) = l.length + 1 by omega]
    have hm3 : more.length = 3 + (D.length + (cap' - (l.length + 1)) * 3) := by omega
    obtain ⟨m1, m2, m3, hl1, hl2, rfl⟩ : ∃ m1 m2 m3, m1.length = 3 ∧ m2.length = D.length ∧ more = m1 ++ (m2 ++ m3) :=
      ⟨more.take 3, (more.drop 3).take D.length, (more.drop 3).drop D.length, by rw [List.length_take]; omega, by rw [List.length_take, List.length_drop]; omega, by rw [List.take_append_drop, List.take_append_drop]⟩
    simp only [List.length_append] at hm3
    rw [show A ++ (m1 ++ (m2 ++ m3)) = A ++ m1 ++ (m2 ++ m3) by simp]
    (repeat' (first | refine X.rq ?_ | (refine X.rc ?_ ?_ <;> intro hc <;> first | (exfalso; omega) | skip)))
    refine K.s_pure (K.p_slice (k1 := .i64) (k2 := .i64) (l := i) (u := l.length + 1) (ao := some ⟨BN, 0 + i * 3, none⟩) (Fx.und rfl) (Fx.sz rfl) rfl ⟨_, rfl, by omega⟩ rfl (by omega) (by omega) (by rw [if_neg (by omega)])) rfl ?_
    (repeat' (first | refine X.rq ?_ | (refine X.rc ?_ ?_ <;> intro hc <;> first | (exfalso; omega) | skip)))
    refine K.l_copy (k := 1) (xs := c) (Fx.und rfl) (Fx.sz rfl) rfl rfl (by first | exact (Nat.min_eq_left (by omega)).trans (by omega) | exact (Nat.min_eq_right (by omega)).trans (by omega)) (K.src_cells (K.cels_own (pre := []) (cs := c) (post := []) 2 (by rw [List.nil_append, List.append_nil]; rfl) rfl) (by omega) (by simpa [ones] using hco)) (by omega) (by omega) (K.Free.zero _) rfl ?_
    rw [show A ++ c ++ (m2 ++ m3) = (A ++ c) ++ m2 ++ m3 by simp]
    (repeat' (first | refine X.rq ?_ | (refine X.rc ?_ ?_ <;> intro hc <;> first | (exfalso; omega) | skip)))
    refine X.draw ([]) [] (.pu 0 (.pu 1 (.pu 2 (.pu 3 (.pu 4 (.pu 5 (.pu 6 (.pu 7 (.on 8 .nil))))))))) ?_
    refine K.d_pu rfl (fun _ _ => X.mv) rfl ?_
    refine K.d_pu rfl (fun _ _ => X.mv) rfl ?_
    refine K.d_pu rfl (fun _ _ => X.mv) rfl ?_
    refine K.d_pu rfl (fun _ _ => X.badd) rfl ?_
    refine K.d_pu rfl (fun _ _ => K.p_slice (k1 := .i64) (k2 := .i64) (l := i + 1) (u := l.length + 1) (ao := some ⟨BN, 0 + (i + 1) * 3, none⟩) (Fx.und rfl) (Fx.sz rfl) rfl ⟨_, rfl, by omega⟩ rfl (by omega) (by omega) (by rw [if_neg (by omega)])) rfl ?_
    refine K.d_pu rfl (fun _ _ => X.mv) rfl ?_
    refine K.d_pu rfl (fun _ _ => X.mv) rfl ?_
    refine K.d_pu rfl (fun _ _ => K.p_slice (k1 := .i64) (k2 := .i64) (l := i) (u := l.length) (ao := some ⟨B3, 0 + i * 3, none⟩) (Fx.und rfl) (Fx.sz rfl) rfl ⟨_, rfl, by omega⟩ rfl (by omega) (by omega) (by rw [if_neg (by omega)])) rfl ?_
    refine K.d_on rfl (fun KK hKK => ?_)
    refine K.l_copy (k := l.length - i) (xs := D) (Fx.und rfl) (Fx.sz rfl) rfl rfl (by first | exact (Nat.min_eq_left (by omega)).trans (by omega) | exact (Nat.min_eq_right (by omega)).trans (by omega)) (K.src_cells (K.cels_own (pre := A) (cs := D) (post := []) 1 (by rw [List.append_nil]; rfl) (by omega)) (by omega) hD1) (by omega) (by rw [List.length_append]; omega) (K.Free.zero _) rfl ?_
    refine K.l_nil ?_
    refine X.onE hKK ?_
    refine K.d_nil ?_
    (repeat' (first | refine X.rq ?_ | (refine X.rc ?_ ?_ <;> intro hc <;> first | (exfalso; omega) | skip)))
    refine K.AT.shut (s := 3) (m := l.length + 1) (cap := cap') (by simp only [List.length_append]; omega) (by simp only [List.length_append]; omega) (by omega) k2 (K.Free.zero _) ?_
    refine K.AT.sel [1, 1] rfl ?_
    refine K.done (by first | exact Or.inl rfl | exact Or.inr rfl) rfl (by first | exact K.Base.le.refl _ | assumption) (H' := [bufA 52 3 (some BN) (l.length + 1) cap' (A ++ c ++ D)]) rfl ⟨rfl, some BN, cap', rfl, by rw [hres]⟩
end Go.Proofs.Ytahdbncfegedjaa.Nd
