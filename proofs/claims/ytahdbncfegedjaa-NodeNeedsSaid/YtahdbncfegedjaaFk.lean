/-
  Rows of cells: one put between, one taken out. Conditions: each theorem's own.
-/
import Derived.Test.YtahdbncfegedjaaFj
import Derived.Test.YtahdbncfegedjaaKY

namespace Go.Proofs.Ytahdbncfegedjaa.Pg
open Go Go.K Go.Proofs Go.Proofs.Ytahdbncfegedjaa
set_option linter.unusedVariables false
set_option linter.unusedSimpArgs false
set_option maxRecDepth 10000

theorem flat_at (l : List (List Value)) (i : Nat) : l.flatten = (l.take i).flatten ++ (l.drop i).flatten := by rw [← List.flatten_append, List.take_append_drop]
theorem three_of {l : List (List Value)} (hz : ∀ e ∈ l, e.length = 3) (i : Nat) : (l.take i).flatten.length = (l.take i).length * 3 ∧ (l.drop i).flatten.length = (l.drop i).length * 3 :=
  ⟨K.flatten_len _ fun e he => hz e (List.mem_of_mem_take he), K.flatten_len _ fun e he => hz e (List.mem_of_mem_drop he)⟩
theorem ones_flat {l : List (List Value)} (h1 : ∀ e ∈ l, ones e = true) : ∀ u ∈ l.flatten, oneCell u = true := fun u hu => by
  obtain ⟨e, he, hu⟩ := List.mem_flatten.1 hu
  have := h1 e he
  unfold ones at this
  exact List.all_eq_true.1 this u hu
set_option maxHeartbeats 2000000 in
theorem Insert (h : Base) (B3 : Nat) (l : List (List Value)) (i cap Bv : Nat) (c : List Value) (hi : i ≤ l.length) (hcap : l.length + 1 ≤ cap) (hc1 : l.length ≤ 1000000) (hz : ∀ e ∈ l, e.length = 3) (hc3 : c.length = 3) (h1 : ∀ e ∈ l, ones e = true) (hco : ones c = true) :
    Tr Try.prog 84 [bufV (some B3) l.length cap, .int .i64 i, .slice (some ⟨Bv, 0, none⟩) 1 1] h [bufA 52 3 (some B3) l.length cap l.flatten, blk Bv 52 c]
      (fun v h' H' => h' = h ∧ ∃ b cap', v = bufV b (l.length + 1) cap' ∧ H' = [bufA 52 3 b (l.length + 1) cap' (l.take i ++ c :: l.drop i).flatten]) := by
  refine K.enter Try.func84 rfl (Nat.le_of_ble_eq_true rfl) (fun F => ?_)
  simp only [List.cons_append, List.nil_append]
  (repeat' (first | refine X.rq ?_ | (refine X.rc ?_ ?_ <;> intro hc <;> first | (exfalso; omega) | skip)))
  refine K.s_pure (K.p_slice (k1 := .i64) (k2 := .i64) (l := i) (u := l.length) (Fx.und rfl) (Fx.sz rfl) rfl ⟨_, rfl, rfl⟩ rfl (by omega) (by omega) rfl) rfl ?_
  (repeat' (first | refine X.rq ?_ | (refine X.rc ?_ ?_ <;> intro hc <;> first | (exfalso; omega) | skip)))
  · have hil : i = l.length := by omega
    subst hil
    refine K.l_append_at 0 rfl (Fx.und rfl) (Fx.und rfl) rfl (Fx.sz rfl) (Fx.zr rfl) rfl (Fx.byt rfl) rfl rfl (K.src_cells (s := 3) (m := 1) (K.cels_own (pre := []) (cs := c) (post := []) 0 (by rw [List.nil_append, List.append_nil]; rfl) rfl) (by omega) (by simpa [ones] using hco)) (by omega) (by omega) rfl (fun b' cap' => ?_)
    simp only [List.set_cons_zero, List.set_cons_succ, List.eraseIdx_cons_zero, List.eraseIdx_cons_succ, List.cons_append, List.nil_append]
    (repeat' (first | refine X.rq ?_ | (refine X.rc ?_ ?_ <;> intro hc <;> first | (exfalso; omega) | skip)))
    refine K.AT.perm (K.pp [1] rfl) ?_
    simp only [List.set_cons_zero, List.set_cons_succ, List.eraseIdx_cons_zero, List.eraseIdx_cons_succ, List.cons_append, List.nil_append]
    refine K.AT.drop ?_
    refine K.done (by first | exact Or.inl rfl | exact Or.inr rfl) rfl (by first | exact K.Base.le.refl _ | assumption) (H' := [bufA 52 3 b' (l.length + 1) cap' (l.flatten ++ c)]) rfl ⟨rfl, b', cap', rfl, by simp⟩
  · have hil : i < l.length := by omega
    obtain ⟨p1, p2⟩ := three_of hz i
    rw [List.length_take, Nat.min_eq_left (by omega)] at p1
    rw [List.length_drop] at p2
    refine K.WL.perm (K.pp [0] rfl) ?_
    refine K.o_buf (fun e _ _ _ => by cases e) ?_
    rintro bb sp fz e g2 g3 g4 g5 g6
    cases e
    rw [flat_at l i] at g2 g3 ⊢
    have hres : (l.take i ++ c :: l.drop i).flatten = (l.take i).flatten ++ c ++ (l.drop i).flatten := by simp
    have hA1 := ones_flat (l := l.take i) fun e he => h1 e (List.mem_of_mem_take he)
    have hD1 := ones_flat (l := l.drop i) fun e he => h1 e (List.mem_of_mem_drop he)
    generalize (l.take i).flatten = A at *
    generalize (l.drop i).flatten = D at *
    have hsp : 3 ≤ sp.length := by
      rw [List.length_append, g2] at g3
      have : (l.length + 1) * 3 ≤ cap * 3 := Nat.mul_le_mul_right _ hcap
      omega
    obtain ⟨s3, sp', hs3, rfl⟩ : ∃ s3 sp', s3.length = 3 ∧ sp = s3 ++ sp' := ⟨sp.take 3, sp.drop 3, by rw [List.length_take]; omega, (List.take_append_drop 3 sp).symm⟩
    obtain ⟨D1, D2, hD3, rfl⟩ : ∃ D1 D2, D1.length = 3 ∧ D = D1 ++ D2 := ⟨D.take 3, D.drop 3, by rw [List.length_take]; omega, (List.take_append_drop 3 D).symm⟩
    rw [List.length_append, hD3] at p2
    have e1 : A ++ (D1 ++ D2) ++ (s3 ++ sp') = (A ++ D1) ++ (D2 ++ s3) ++ sp' := by simp
    have e2 : A ++ (D1 ++ D2) ++ (s3 ++ sp') = A ++ (D1 ++ D2) ++ (s3 ++ sp') := rfl
    refine K.s_pure (K.p_capS (Fx.und rfl) rfl) rfl ?_
    (repeat' (first | refine X.rq ?_ | (refine X.rc ?_ ?_ <;> intro hc <;> first | (exfalso; omega) | skip)))
    refine K.s_pure (K.p_slice (k1 := .i64) (k2 := .i64) (l := 0) (u := l.length + 1) (ao := some ⟨B3, 0, none⟩) (Fx.und rfl) (Fx.sz rfl) rfl rfl ⟨_, rfl, by omega⟩ (by omega) (by omega) (by split <;> simp)) rfl ?_
    rw [Nat.sub_zero, Nat.sub_zero]
    (repeat' (first | refine X.rq ?_ | (refine X.rc ?_ ?_ <;> intro hc <;> first | (exfalso; omega) | skip)))
    refine K.s_pure (K.p_slice (k1 := .i64) (k2 := .i64) (l := i + 1) (u := l.length + 1) (ao := some ⟨B3, 0 + (i + 1) * 3, none⟩) (Fx.und rfl) (Fx.sz rfl) rfl ⟨_, rfl, by omega⟩ rfl (by omega) (by omega) (by rw [if_neg (by omega)])) rfl ?_
    simp only [List.set_cons_zero, List.set_cons_succ, List.eraseIdx_cons_zero, List.eraseIdx_cons_succ, List.cons_append, List.nil_append]
    refine K.l_overlaps (tS := 46) (tR := 4) (e := 52) (s := 3) Try.func95 (by kernel_rfl) (by kernel_rfl) (by kernel_rfl) (by kernel_rfl) (Fx.und rfl) (Fx.sz rfl) rfl (by simp only [List.length_append]; omega) rfl ?_
    (repeat' (first | refine X.rq ?_ | (refine X.rc ?_ ?_ <;> intro hc <;> first | (exfalso; omega) | skip)))
    rw [e1]
    have hfz : Free fz (0 + (i + 1) * 3 + (D1 ++ D2).length) := fun o ho => g6 o (by
      have : (l.length + 1) * 3 ≤ cap * 3 := Nat.mul_le_mul_right _ hcap
      rw [List.length_append, hD3] at ho; omega)
    refine X.draw ([]) [] (.pu 0 (.pu 1 (.pu 2 (.pu 3 (.pu 4 (.pu 5 (.pu 6 (.pu 7 (.on 8 .nil))))))))) ?_
    refine K.d_pu rfl (fun _ _ => X.mv) rfl ?_
    refine K.d_pu rfl (fun _ _ => X.mv) rfl ?_
    refine K.d_pu rfl (fun _ _ => X.mv) rfl ?_
    refine K.d_pu rfl (fun _ _ => X.badd) rfl ?_
    refine K.d_pu rfl (fun _ _ => K.p_slice (k1 := .i64) (k2 := .i64) (l := i + 1) (u := l.length + 1) (ao := some ⟨B3, 0 + (i + 1) * 3, none⟩) (Fx.und rfl) (Fx.sz rfl) rfl ⟨_, rfl, by omega⟩ rfl (by omega) (by omega) (by rw [if_neg (by omega)])) rfl ?_
    refine K.d_pu rfl (fun _ _ => X.mv) rfl ?_
    refine K.d_pu rfl (fun _ _ => X.mv) rfl ?_
    refine K.d_pu rfl (fun _ _ => K.p_slice (k1 := .i64) (k2 := .i64) (l := i) (u := l.length + 1) (ao := some ⟨B3, 0 + i * 3, none⟩) (Fx.und rfl) (Fx.sz rfl) rfl ⟨_, rfl, by omega⟩ rfl (by omega) (by omega) (by rw [if_neg (by omega)])) rfl ?_
    refine K.d_on rfl (fun KK hKK => ?_)
    refine K.l_copy (k := l.length - i) (xs := D1 ++ D2) (Fx.und rfl) (Fx.sz rfl) rfl rfl (by first | exact (Nat.min_eq_left (by omega)).trans (by omega) | exact (Nat.min_eq_right (by omega)).trans (by omega)) (K.src_cells (K.cels_own (pre := A) (cs := D1 ++ D2) (post := s3 ++ sp') 0 (by rw [← e1]; rfl) (by omega)) (by rw [List.length_append]; omega) hD1) (by simp only [List.length_append]; omega) (by rw [List.length_append]; omega) hfz rfl ?_
    rw [show A ++ D1 ++ (D1 ++ D2) ++ sp' = A ++ D1 ++ (D1 ++ D2 ++ sp') by simp]
    refine K.l_nil ?_
    refine X.onE hKK ?_
    refine K.d_nil ?_
    (repeat' (first | refine X.rq ?_ | (refine X.rc ?_ ?_ <;> intro hc <;> first | (exfalso; omega) | skip)))
    refine K.s_pure (K.p_slice (k1 := .i64) (k2 := .i64) (l := i) (u := l.length + 1) (ao := some ⟨B3, 0 + i * 3, none⟩) (Fx.und rfl) (Fx.sz rfl) rfl ⟨_, rfl, by omega⟩ rfl (by omega) (by omega) (by rw [if_neg (by omega)])) rfl ?_
    (repeat' (first | refine X.rq ?_ | (refine X.rc ?_ ?_ <;> intro hc <;> first | (exfalso; omega) | skip)))
    refine K.l_copy (k := 1) (xs := c) (Fx.und rfl) (Fx.sz rfl) rfl rfl (by first | exact (Nat.min_eq_left (by omega)).trans (by omega) | exact (Nat.min_eq_right (by omega)).trans (by omega)) (K.src_cells (K.cels_own (pre := []) (cs := c) (post := []) 1 (by rw [List.nil_append, List.append_nil]; rfl) rfl) (by omega) (by simpa [ones] using hco)) (by omega) (by omega) (fun o ho => g6 o (by
      have : (l.length + 1) * 3 ≤ cap * 3 := Nat.mul_le_mul_right _ hcap
      omega)) rfl ?_
    (repeat' (first | refine X.rq ?_ | (refine X.rc ?_ ?_ <;> intro hc <;> first | (exfalso; omega) | skip)))
    rw [show A ++ c ++ (D1 ++ D2 ++ sp') = (A ++ c ++ (D1 ++ D2)) ++ sp' by simp]
    refine K.AT.shut (s := 3) (m := l.length + 1) (cap := cap) (by simp only [List.length_append]; omega) (by rw [← g3]; simp only [List.length_append]; omega) hcap g5 g6 ?_
    refine K.AT.perm (K.pp [1] rfl) ?_
    simp only [List.set_cons_zero, List.set_cons_succ, List.eraseIdx_cons_zero, List.eraseIdx_cons_succ, List.cons_append, List.nil_append]
    refine K.AT.drop ?_
    refine K.done (by first | exact Or.inl rfl | exact Or.inr rfl) rfl (by first | exact K.Base.le.refl _ | assumption) (H' := [bufA 52 3 (some B3) (l.length + 1) cap (A ++ c ++ (D1 ++ D2))]) rfl ⟨rfl, some B3, cap, rfl, by rw [hres]⟩
set_option maxHeartbeats 2000000 in
theorem Delete (h : Base) (B3 : Nat) (l : List (List Value)) (i cap : Nat) (hi : i < l.length) (hcap : l.length ≤ cap) (hc1 : l.length ≤ 1000000) (hz : ∀ e ∈ l, e.length = 3) (h1 : ∀ e ∈ l, ones e = true) :
    Tr Try.prog 87 [bufV (some B3) l.length cap, .int .i64 i, .int .i64 ((i : Int) + 1)] h [bufA 52 3 (some B3) l.length cap l.flatten]
      (fun v h' H' => h' = h ∧ v = bufV (some B3) (l.length - 1) cap ∧ H' = [bufA 52 3 (some B3) (l.length - 1) cap (l.take i ++ l.drop (i + 1)).flatten]) := by
  obtain ⟨p1, p2⟩ := three_of hz i
  obtain ⟨_, p3⟩ := three_of hz (i + 1)
  rw [List.length_take, Nat.min_eq_left (by omega)] at p1
  rw [List.length_drop] at p2 p3
  have hr3 : l[i].length = 3 := hz _ (List.getElem_mem hi)
  have hD1 := ones_flat (l := l.drop (i + 1)) fun e he => h1 e (List.mem_of_mem_drop he)
  have hfl : l.flatten = (l.take i).flatten ++ (l[i] ++ (l.drop (i + 1)).flatten) := by
    rw [flat_at l i, List.drop_eq_getElem_cons hi, List.flatten_cons]
  have hres : (l.take i ++ l.drop (i + 1)).flatten = (l.take i).flatten ++ (l.drop (i + 1)).flatten := by simp
  rw [hres, hfl]
  generalize (l.take i).flatten = A at *
  generalize (l.drop (i + 1)).flatten = D at *
  generalize l[i] = r at *
  refine K.enter Try.func87 rfl (Nat.le_of_ble_eq_true rfl) (fun F => ?_)
  simp only [List.cons_append, List.nil_append]
  refine K.oc_buf (fun e _ _ _ => by cases e) ?_
  rintro bb sp fz e g2 g3 g4 g5 g6
  cases e
  (repeat' (first | refine X.rq ?_ | (refine X.rc ?_ ?_ <;> intro hc <;> first | (exfalso; omega) | skip)))
  refine K.s_pure (K.p_slice3 (k1 := .i64) (k2 := .i64) (k3 := .i64) (l := i) (u := i + 1) (m := l.length) (Fx.und rfl) (Fx.sz rfl) rfl rfl rfl rfl (by omega) (by omega) (by omega) rfl) rfl ?_
  (repeat' (first | refine X.rq ?_ | (refine X.rc ?_ ?_ <;> intro hc <;> first | (exfalso; omega) | skip)))
  obtain ⟨E1, E2, hE1, hE2, hE⟩ : ∃ E1 E2 : List Value, E1.length = D.length ∧ E2.length = 3 ∧ r ++ D = E1 ++ E2 := ⟨(r ++ D).take D.length, (r ++ D).drop D.length, by rw [List.length_take, List.length_append]; omega, by rw [List.length_drop, List.length_append]; omega, (List.take_append_drop _ _).symm⟩
  have e1 : A ++ (r ++ D) ++ sp = A ++ E1 ++ (E2 ++ sp) := by rw [hE]; simp
  have e2 : A ++ E1 ++ (E2 ++ sp) = (A ++ r) ++ D ++ sp := by rw [← e1]; simp
  rw [e1]
  have hle : l.length * 3 ≤ cap * 3 := Nat.mul_le_mul_right _ hcap
  by_cases hlast : i + 1 = l.length
  · have hD0 : D = [] := List.eq_nil_of_length_eq_zero (by omega)
    subst hD0
    have hE10 : E1 = [] := List.eq_nil_of_length_eq_zero hE1
    subst hE10
    refine X.draw ([]) [] (.pu 0 (.pu 1 (.pu 2 (.pu 3 (.pu 4 (.pu 5 (.on 6 (.pu 7 .nil)))))))) ?_
    refine K.d_pu rfl (fun _ _ => X.mv) rfl ?_
    refine K.d_pu rfl (fun _ _ => X.mv) rfl ?_
    refine K.d_pu rfl (fun _ _ => K.p_slice (k1 := .i64) (k2 := .i64) (l := 0) (u := i) (ao := some ⟨B3, 0, none⟩) (Fx.und rfl) (Fx.sz rfl) rfl rfl ⟨_, rfl, rfl⟩ (by omega) (by omega) (by split <;> simp)) rfl ?_
    rw [Nat.sub_zero, Nat.sub_zero]
    refine K.d_pu rfl (fun _ _ => X.mv) rfl ?_
    refine K.d_pu rfl (fun _ _ => X.mv) rfl ?_
    refine K.d_pu rfl (fun _ _ => K.p_slice (k1 := .i64) (k2 := .i64) (l := i + 1) (u := l.length) (ao := if cap = i + 1 then some ⟨B3, 0, none⟩ else some ⟨B3, 0 + (i + 1) * 3, none⟩) (Fx.und rfl) (Fx.sz rfl) rfl ⟨_, rfl, by omega⟩ rfl (by omega) (by omega) rfl) rfl ?_
    rw [show l.length - (i + 1) = 0 by omega]
    refine K.d_on rfl (fun KK hKK => ?_)
    refine K.l_appendRoom (m := 0) (xs := []) (Fx.und rfl) (Fx.und rfl) rfl (Fx.sz rfl) rfl rfl K.src_empty (by omega) rfl (by omega) (fun o ho => g6 o (by rw [List.length_nil] at ho; omega)) rfl ?_
    rw [show i + 0 = l.length - 1 by omega]
    refine K.l_nil ?_
    refine X.onE hKK ?_
    refine K.d_pu rfl (fun _ _ => X.sg) rfl ?_
    refine K.d_nil ?_
    (repeat' (first | refine X.rq ?_ | (refine X.rc ?_ ?_ <;> intro hc <;> first | (exfalso; omega) | skip)))
    refine K.s_pure (K.p_slice (k1 := .i64) (k2 := .i64) (l := l.length - 1) (u := l.length) (ao := some ⟨B3, 0 + (l.length - 1) * 3, none⟩) (Fx.und rfl) (Fx.sz rfl) rfl ⟨_, rfl, by omega⟩ ⟨_, rfl, rfl⟩ (by omega) (by omega) (by rw [if_neg (by omega)])) rfl ?_
    rw [show l.length - (l.length - 1) = 1 by omega]
    rw [show A ++ [] ++ (E2 ++ sp) = A ++ E2 ++ sp by simp]
    (repeat' (first | refine X.rq ?_ | (refine X.rc ?_ ?_ <;> intro hc <;> first | (exfalso; omega) | skip)))
    refine K.l_clear1 (s := 3) (z := .agg zrow.toArray) (zs := zrow) (pre := A) (cs := E2) (post := sp) (Fx.und rfl) (Fx.zr rfl) rfl rfl rfl (by rw [hE2]; rfl) (by omega) (fun o ho => g6 o (by rw [show zrow.length = 3 from rfl] at ho; omega)) ?_
    (repeat' (first | refine X.rq ?_ | (refine X.rc ?_ ?_ <;> intro hc <;> first | (exfalso; omega) | skip)))
    rw [show A ++ zrow ++ sp = A ++ (zrow ++ sp) by simp]
    refine K.AT.shut (s := 3) (m := l.length - 1) (cap := cap) (by omega) (by rw [← g3, e1]; simp only [List.length_append, List.length_nil, hE2, show zrow.length = 3 from rfl]; omega) (by omega) g5 g6 ?_
    refine K.done (by first | exact Or.inl rfl | exact Or.inr rfl) rfl (by first | exact K.Base.le.refl _ | assumption) (H' := [bufA 52 3 (some B3) (l.length - 1) cap A]) rfl ⟨rfl, rfl, by simp⟩
  · refine X.draw ([]) [] (.pu 0 (.pu 1 (.pu 2 (.pu 3 (.pu 4 (.pu 5 (.on 6 (.pu 7 .nil)))))))) ?_
    refine K.d_pu rfl (fun _ _ => X.mv) rfl ?_
    refine K.d_pu rfl (fun _ _ => X.mv) rfl ?_
    refine K.d_pu rfl (fun _ _ => K.p_slice (k1 := .i64) (k2 := .i64) (l := 0) (u := i) (ao := some ⟨B3, 0, none⟩) (Fx.und rfl) (Fx.sz rfl) rfl rfl ⟨_, rfl, rfl⟩ (by omega) (by omega) (by split <;> simp)) rfl ?_
    rw [Nat.sub_zero, Nat.sub_zero]
    refine K.d_pu rfl (fun _ _ => X.mv) rfl ?_
    refine K.d_pu rfl (fun _ _ => X.mv) rfl ?_
    refine K.d_pu rfl (fun _ _ => K.p_slice (k1 := .i64) (k2 := .i64) (l := i + 1) (u := l.length) (ao := some ⟨B3, 0 + (i + 1) * 3, none⟩) (Fx.und rfl) (Fx.sz rfl) rfl ⟨_, rfl, by omega⟩ rfl (by omega) (by omega) (by rw [if_neg (by omega)])) rfl ?_
    refine K.d_on rfl (fun KK hKK => ?_)
    refine K.l_appendRoom (m := l.length - (i + 1)) (xs := D) (Fx.und rfl) (Fx.und rfl) rfl (Fx.sz rfl) rfl rfl (K.src_cells (K.cels_own (pre := A ++ r) (cs := D) (post := sp) 0 (by rw [← e2]; rfl) (by rw [List.length_append]; omega)) (by omega) hD1) (by omega) (by omega) (by omega) (fun o ho => g6 o (by omega)) rfl ?_
    rw [show i + (l.length - (i + 1)) = l.length - 1 by omega]
    refine K.l_nil ?_
    refine X.onE hKK ?_
    refine K.d_pu rfl (fun _ _ => X.sg) rfl ?_
    refine K.d_nil ?_
    (repeat' (first | refine X.rq ?_ | (refine X.rc ?_ ?_ <;> intro hc <;> first | (exfalso; omega) | skip)))
    refine K.s_pure (K.p_slice (k1 := .i64) (k2 := .i64) (l := l.length - 1) (u := l.length) (ao := some ⟨B3, 0 + (l.length - 1) * 3, none⟩) (Fx.und rfl) (Fx.sz rfl) rfl ⟨_, rfl, by omega⟩ ⟨_, rfl, rfl⟩ (by omega) (by omega) (by rw [if_neg (by omega)])) rfl ?_
    rw [show l.length - (l.length - 1) = 1 by omega]
    rw [show A ++ D ++ (E2 ++ sp) = (A ++ D) ++ E2 ++ sp by simp]
    (repeat' (first | refine X.rq ?_ | (refine X.rc ?_ ?_ <;> intro hc <;> first | (exfalso; omega) | skip)))
    refine K.l_clear1 (s := 3) (z := .agg zrow.toArray) (zs := zrow) (pre := A ++ D) (cs := E2) (post := sp) (Fx.und rfl) (Fx.zr rfl) rfl rfl rfl (by rw [hE2]; rfl) (by rw [List.length_append]; omega) (fun o ho => g6 o (by rw [show zrow.length = 3 from rfl] at ho; omega)) ?_
    (repeat' (first | refine X.rq ?_ | (refine X.rc ?_ ?_ <;> intro hc <;> first | (exfalso; omega) | skip)))
    rw [show (A ++ D) ++ zrow ++ sp = (A ++ D) ++ (zrow ++ sp) by simp]
    refine K.AT.shut (s := 3) (m := l.length - 1) (cap := cap) (by rw [List.length_append]; omega) (by rw [← g3, e1]; simp only [List.length_append, hE1, hE2, show zrow.length = 3 from rfl]) (by omega) g5 g6 ?_
    refine K.done (by first | exact Or.inl rfl | exact Or.inr rfl) rfl (by first | exact K.Base.le.refl _ | assumption) (H' := [bufA 52 3 (some B3) (l.length - 1) cap (A ++ D)]) rfl ⟨rfl, rfl, rfl⟩
end Go.Proofs.Ytahdbncfegedjaa.Pg
