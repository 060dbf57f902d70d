/-
  Values compared and joined: the code's; and the document's operations. Conditions: each theorem's own.
-/
import Derived.Test.YtmkhejdamjibgaaEb
import Derived.Test.YtmkhejdamjibgaaKY

namespace Go.Proofs.Ytmkhejdamjibgaa.Rw
open Go Go.K Go.Proofs Go.Proofs.Ytmkhejdamjibgaa
set_option linter.unusedVariables false
set_option linter.unusedSimpArgs false
set_option maxRecDepth 10000

theorem CmpExt (h : Base) (a b : ByteArray) : TrV Try.prog 91 [.string a, .string b] h [] (.int .i64 (Lib.compareBytes a.data.toList b.data.toList)) [] := by
  refine K.enter Try.func91 rfl (Nat.le_of_ble_eq_true rfl) (fun F => ?_)
  simp only [List.nil_append]
  (repeat' (first | refine X.rq ?_ | (refine X.rc ?_ ?_ <;> intro hc <;> first | (exfalso; omega) | skip)))
  refine K.s_pure (K.p_ext (K.ext_cmp Try.func92 (by kernel_rfl) (by kernel_rfl) (by kernel_rfl) (by kernel_rfl) a b) rfl) rfl ?_
  (repeat' (first | refine X.rq ?_ | (refine X.rc ?_ ?_ <;> intro hc <;> first | (exfalso; omega) | skip)))
  refine K.done (by first | exact Or.inl rfl | exact Or.inr rfl) rfl (by first | exact K.Base.le.refl _ | assumption) (H' := []) rfl ⟨rfl, rfl, rfl⟩
theorem Cmp (h : Base) (a b : ByteArray) : TrV Try.prog 90 [.string a, .string b] h [] (.int .i64 (Lib.compareBytes a.data.toList b.data.toList)) [] := by
  refine K.enter Try.func90 rfl (Nat.le_of_ble_eq_true rfl) (fun F => ?_)
  simp only [List.nil_append]
  (repeat' (first | refine X.rq ?_ | (refine X.rc ?_ ?_ <;> intro hc <;> first | (exfalso; omega) | skip)))
  refine K.l_callV (Fx.cal rfl) rfl (CmpExt h a b) (K.pp [] rfl) rfl rfl ?_
  simp only [List.nil_append]
  (repeat' (first | refine X.rq ?_ | (refine X.rc ?_ ?_ <;> intro hc <;> first | (exfalso; omega) | skip)))
  refine K.done (by first | exact Or.inl rfl | exact Or.inr rfl) rfl (by first | exact K.Base.le.refl _ | assumption) (H' := []) rfl ⟨rfl, rfl, rfl⟩
/-- The order of two values of a kind. -/
def ordQ (a b : Val) : Int := if a.kind = 2 then Lib.compareBytes a.s.data.toList b.s.data.toList else if a.n < b.n then -1 else if b.n < a.n then 1 else 0
theorem OrderV (h : Base) (a b : Val) (hk : a.kind = b.kind) : TrV Try.prog 88 [.agg (cV a).toArray, .agg (cV b).toArray] h [] (.int .i64 (ordQ a b)) [] := by
  refine K.enter Try.func88 rfl (Nat.le_of_ble_eq_true rfl) (fun F => ?_)
  (repeat' (first | refine X.rq ?_ | (refine X.rc ?_ ?_ <;> intro hc <;> first | (exfalso; omega) | skip)))
  refine K.l_box rfl rfl rfl (fun B => ?_)
  refine K.l_box rfl rfl rfl (fun B => ?_)
  (repeat' (first | refine X.rq ?_ | (refine X.rc ?_ ?_ <;> intro hc <;> first | (exfalso; omega) | skip)))
  · have hc2 := hc
    rw [ordQ, if_pos hc2]
    refine K.l_callV (Fx.cal rfl) rfl (Cmp h a.s b.s) (K.pp [] rfl) rfl rfl ?_
    simp only [List.nil_append]
    (repeat' (first | refine X.rq ?_ | (refine X.rc ?_ ?_ <;> intro hc <;> first | (exfalso; omega) | skip)))
    refine K.AT.sel [0, 0] rfl ?_
    refine K.done (by first | exact Or.inl rfl | exact Or.inr rfl) rfl (by first | exact K.Base.le.refl _ | assumption) (H' := []) rfl ⟨rfl, rfl, rfl⟩
  all_goals
    refine K.AT.sel [0, 0] rfl ?_
    refine K.done (by first | exact Or.inl rfl | exact Or.inr rfl) rfl (by first | exact K.Base.le.refl _ | assumption) (H' := []) rfl ⟨?_, rfl, rfl⟩
    show Value.int _ _ = Value.int _ _
    congr 1
    unfold ordQ
    split <;> (try split) <;> (try split) <;> first | omega | rfl
def testQ (k : Nat) (c : Int) : Bool := if k = 0 then decide (c = 0) else if k = 1 then decide (c ≠ 0) else if k = 2 then decide (c < 0) else if k = 3 then decide (c ≤ 0) else if k = 4 then decide (0 < c) else decide (0 ≤ c)
def cmpQ (t : Int → Bool) (a b : Val) : Val × Int := if (okV a && okV b) = true then (if a.kind = 0 ∨ b.kind = 0 then (vN, 0) else if a.kind ≠ b.kind then (vN, 30) else (vB (t (ordQ a b)), 0)) else (vN, 5)
theorem TEq (h : Base) (c : Int) : TrV Try.prog 81 [.int .i64 c] h [] (.bool (testQ 0 c)) [] := by
  refine K.enter Try.func81 rfl (Nat.le_of_ble_eq_true rfl) (fun F => ?_)
  simp only [List.nil_append]
  (repeat' (first | refine X.rq ?_ | (refine X.rc ?_ ?_ <;> intro hc <;> first | (exfalso; omega) | skip)))
  refine K.done (by first | exact Or.inl rfl | exact Or.inr rfl) rfl (by first | exact K.Base.le.refl _ | assumption) (H' := []) rfl ⟨rfl, rfl, rfl⟩
theorem TNe (h : Base) (c : Int) : TrV Try.prog 82 [.int .i64 c] h [] (.bool (testQ 1 c)) [] := by
  refine K.enter Try.func82 rfl (Nat.le_of_ble_eq_true rfl) (fun F => ?_)
  simp only [List.nil_append]
  (repeat' (first | refine X.rq ?_ | (refine X.rc ?_ ?_ <;> intro hc <;> first | (exfalso; omega) | skip)))
  refine K.done (by first | exact Or.inl rfl | exact Or.inr rfl) rfl (by first | exact K.Base.le.refl _ | assumption) (H' := []) rfl ⟨rfl, rfl, rfl⟩
theorem TLt (h : Base) (c : Int) : TrV Try.prog 83 [.int .i64 c] h [] (.bool (testQ 2 c)) [] := by
  refine K.enter Try.func83 rfl (Nat.le_of_ble_eq_true rfl) (fun F => ?_)
  simp only [List.nil_append]
  (repeat' (first | refine X.rq ?_ | (refine X.rc ?_ ?_ <;> intro hc <;> first | (exfalso; omega) | skip)))
  refine K.done (by first | exact Or.inl rfl | exact Or.inr rfl) rfl (by first | exact K.Base.le.refl _ | assumption) (H' := []) rfl ⟨rfl, rfl, rfl⟩
theorem TLe (h : Base) (c : Int) : TrV Try.prog 84 [.int .i64 c] h [] (.bool (testQ 3 c)) [] := by
  refine K.enter Try.func84 rfl (Nat.le_of_ble_eq_true rfl) (fun F => ?_)
  simp only [List.nil_append]
  (repeat' (first | refine X.rq ?_ | (refine X.rc ?_ ?_ <;> intro hc <;> first | (exfalso; omega) | skip)))
  refine K.done (by first | exact Or.inl rfl | exact Or.inr rfl) rfl (by first | exact K.Base.le.refl _ | assumption) (H' := []) rfl ⟨rfl, rfl, rfl⟩
theorem TGt (h : Base) (c : Int) : TrV Try.prog 85 [.int .i64 c] h [] (.bool (testQ 4 c)) [] := by
  refine K.enter Try.func85 rfl (Nat.le_of_ble_eq_true rfl) (fun F => ?_)
  simp only [List.nil_append]
  (repeat' (first | refine X.rq ?_ | (refine X.rc ?_ ?_ <;> intro hc <;> first | (exfalso; omega) | skip)))
  refine K.done (by first | exact Or.inl rfl | exact Or.inr rfl) rfl (by first | exact K.Base.le.refl _ | assumption) (H' := []) rfl ⟨rfl, rfl, rfl⟩
theorem TGe (h : Base) (c : Int) : TrV Try.prog 86 [.int .i64 c] h [] (.bool (testQ 5 c)) [] := by
  refine K.enter Try.func86 rfl (Nat.le_of_ble_eq_true rfl) (fun F => ?_)
  simp only [List.nil_append]
  (repeat' (first | refine X.rq ?_ | (refine X.rc ?_ ?_ <;> intro hc <;> first | (exfalso; omega) | skip)))
  refine K.done (by first | exact Or.inl rfl | exact Or.inr rfl) rfl (by first | exact K.Base.le.refl _ | assumption) (H' := []) rfl ⟨rfl, rfl, rfl⟩
theorem Compared (h : Base) (a b : Val) (ha : wfV a) (hb : wfV b) (f : FuncId) (hcal : Callable Try.prog f) (t : Int → Bool) (hf : ∀ c, TrV Try.prog f [.int .i64 c] h [] (.bool (t c)) []) :
    TrV Try.prog 80 [.agg (cV a).toArray, .agg (cV b).toArray, .func (.func f) #[] #[]] h [] (rV (cmpQ t a b)) [] := by
  refine K.enter Try.func80 rfl (Nat.le_of_ble_eq_true rfl) (fun F => ?_)
  have ha1 := ha.k1
  have ha2 := ha.k2
  (repeat' (first | refine X.rq ?_ | (refine X.rc ?_ ?_ <;> intro hc <;> first | (exfalso; omega) | skip)))
  refine K.l_box rfl rfl rfl (fun B => ?_)
  refine K.l_box rfl rfl rfl (fun B => ?_)
  refine K.l_alloc (Fx.zr rfl) rfl rfl (fun B => ?_)
  (repeat' (first | refine X.rq ?_ | (refine X.rc ?_ ?_ <;> intro hc <;> first | (exfalso; omega) | skip)))
  refine K.l_callV (Fx.cal rfl) rfl (ValueMay h a ha) (K.pp [] rfl) rfl rfl ?_
  simp only [List.nil_append]
  cases hoa : okV a with
  | false =>
    rw [cmpQ, hoa, if_neg (by simp)]
    (repeat' (first | refine X.rq ?_ | (refine X.rc ?_ ?_ <;> intro hc <;> first | (exfalso; omega) | skip)))
    refine X.stw ?_
    (repeat' (first | refine X.rq ?_ | (refine X.rc ?_ ?_ <;> intro hc <;> first | (exfalso; omega) | skip)))
    refine K.doneC (by first | exact Or.inl rfl | exact Or.inr rfl) (.cell rfl (Fx.agg rfl) (Fx.sz rfl) (by first | exact K.cels_own (pre := []) (post := []) 0 rfl rfl | exact K.cels_own (pre := []) (post := []) 1 rfl rfl | exact K.cels_own (pre := []) (post := []) 2 rfl rfl | exact K.cels_own (pre := []) (post := []) 3 rfl rfl | exact K.cels_own (pre := []) (post := []) 4 rfl rfl | exact K.cels_own (pre := []) (post := []) 5 rfl rfl) (.tmp rfl .nil)) (by first | exact K.Base.le.refl _ | assumption) (D := [_, _, _]) (H' := []) rfl ⟨rfl, rfl, rfl⟩
  | true =>
    (repeat' (first | refine X.rq ?_ | (refine X.rc ?_ ?_ <;> intro hc <;> first | (exfalso; omega) | skip)))
    refine K.l_callV (Fx.cal rfl) rfl (ValueMay h b hb) (K.pp [] rfl) rfl rfl ?_
    simp only [List.nil_append]
    cases hob : okV b with
    | false =>
      rw [cmpQ, hob, if_neg (by simp)]
      (repeat' (first | refine X.rq ?_ | (refine X.rc ?_ ?_ <;> intro hc <;> first | (exfalso; omega) | skip)))
      refine X.stw ?_
      (repeat' (first | refine X.rq ?_ | (refine X.rc ?_ ?_ <;> intro hc <;> first | (exfalso; omega) | skip)))
      refine K.doneC (by first | exact Or.inl rfl | exact Or.inr rfl) (.cell rfl (Fx.agg rfl) (Fx.sz rfl) (by first | exact K.cels_own (pre := []) (post := []) 0 rfl rfl | exact K.cels_own (pre := []) (post := []) 1 rfl rfl | exact K.cels_own (pre := []) (post := []) 2 rfl rfl | exact K.cels_own (pre := []) (post := []) 3 rfl rfl | exact K.cels_own (pre := []) (post := []) 4 rfl rfl | exact K.cels_own (pre := []) (post := []) 5 rfl rfl) (.tmp rfl .nil)) (by first | exact K.Base.le.refl _ | assumption) (D := [_, _, _]) (H' := []) rfl ⟨rfl, rfl, rfl⟩
    | true =>
      rw [cmpQ, if_pos (show (okV a && okV b) = true by rw [hoa, hob]; rfl)]
      by_cases h0 : a.kind = 0 ∨ b.kind = 0
      · rw [if_pos h0]
        (repeat' (first | refine X.rq ?_ | (refine X.rc ?_ ?_ <;> intro hc <;> first | (exfalso; omega) | skip)))
        all_goals
          refine X.stw ?_
          (repeat' (first | refine X.rq ?_ | (refine X.rc ?_ ?_ <;> intro hc <;> first | (exfalso; omega) | skip)))
          refine K.doneC (by first | exact Or.inl rfl | exact Or.inr rfl) (.cell rfl (Fx.agg rfl) (Fx.sz rfl) (by first | exact K.cels_own (pre := []) (post := []) 0 rfl rfl | exact K.cels_own (pre := []) (post := []) 1 rfl rfl | exact K.cels_own (pre := []) (post := []) 2 rfl rfl | exact K.cels_own (pre := []) (post := []) 3 rfl rfl | exact K.cels_own (pre := []) (post := []) 4 rfl rfl | exact K.cels_own (pre := []) (post := []) 5 rfl rfl) (.tmp rfl .nil)) (by first | exact K.Base.le.refl _ | assumption) (D := [_, _, _]) (H' := []) rfl ⟨rfl, rfl, rfl⟩
      · rw [if_neg h0]
        by_cases hk : a.kind = b.kind
        · rw [if_neg (fun e => e hk)]
          (repeat' (first | refine X.rq ?_ | (refine X.rc ?_ ?_ <;> intro hc <;> first | (exfalso; omega) | skip)))
          refine K.l_callV (Fx.cal rfl) rfl (OrderV h a b hk) (K.pp [] rfl) rfl rfl ?_
          simp only [List.nil_append]
          refine K.l_callF (caps := []) hcal rfl rfl (hf (ordQ a b)) (K.pp [] rfl) rfl ?_
          rintro u h' H' - ⟨rfl, rfl, rfl⟩
          simp only [List.nil_append]
          refine K.l_callV (Fx.cal rfl) rfl (Yes h' (t (ordQ a b))) (K.pp [] rfl) rfl rfl ?_
          simp only [List.nil_append]
          (repeat' (first | refine X.rq ?_ | (refine X.rc ?_ ?_ <;> intro hc <;> first | (exfalso; omega) | skip)))
          refine X.stw ?_
          (repeat' (first | refine X.rq ?_ | (refine X.rc ?_ ?_ <;> intro hc <;> first | (exfalso; omega) | skip)))
          refine K.doneC (by first | exact Or.inl rfl | exact Or.inr rfl) (.cell rfl (Fx.agg rfl) (Fx.sz rfl) (by first | exact K.cels_own (pre := []) (post := []) 0 rfl rfl | exact K.cels_own (pre := []) (post := []) 1 rfl rfl | exact K.cels_own (pre := []) (post := []) 2 rfl rfl | exact K.cels_own (pre := []) (post := []) 3 rfl rfl | exact K.cels_own (pre := []) (post := []) 4 rfl rfl | exact K.cels_own (pre := []) (post := []) 5 rfl rfl) (.tmp rfl .nil)) (by first | exact K.Base.le.refl _ | assumption) (D := [_, _, _]) (H' := []) rfl ⟨rfl, rfl, rfl⟩
        · rw [if_pos hk]
          (repeat' (first | refine X.rq ?_ | (refine X.rc ?_ ?_ <;> intro hc <;> first | (exfalso; omega) | skip)))
          refine X.stw ?_
          (repeat' (first | refine X.rq ?_ | (refine X.rc ?_ ?_ <;> intro hc <;> first | (exfalso; omega) | skip)))
          refine K.doneC (by first | exact Or.inl rfl | exact Or.inr rfl) (.cell rfl (Fx.agg rfl) (Fx.sz rfl) (by first | exact K.cels_own (pre := []) (post := []) 0 rfl rfl | exact K.cels_own (pre := []) (post := []) 1 rfl rfl | exact K.cels_own (pre := []) (post := []) 2 rfl rfl | exact K.cels_own (pre := []) (post := []) 3 rfl rfl | exact K.cels_own (pre := []) (post := []) 4 rfl rfl | exact K.cels_own (pre := []) (post := []) 5 rfl rfl) (.tmp rfl .nil)) (by first | exact K.Base.le.refl _ | assumption) (D := [_, _, _]) (H' := []) rfl ⟨rfl, rfl, rfl⟩
theorem VEq (h : Base) (a b : Val) (ha : wfV a) (hb : wfV b) : TrV Try.prog 61 [.agg (cV a).toArray, .agg (cV b).toArray] h [] (rV (cmpQ (testQ 0) a b)) [] := by
  refine K.enter Try.func61 rfl (Nat.le_of_ble_eq_true rfl) (fun F => ?_)
  (repeat' (first | refine X.rq ?_ | (refine X.rc ?_ ?_ <;> intro hc <;> first | (exfalso; omega) | skip)))
  refine K.l_box rfl rfl rfl (fun B => ?_)
  refine K.l_box rfl rfl rfl (fun B => ?_)
  refine K.l_alloc (Fx.zr rfl) rfl rfl (fun B => ?_)
  (repeat' (first | refine X.rq ?_ | (refine X.rc ?_ ?_ <;> intro hc <;> first | (exfalso; omega) | skip)))
  refine K.l_callV (Fx.cal rfl) rfl (Compared h a b ha hb 81 (Fx.cal rfl) _ (TEq h)) (K.pp [] rfl) rfl rfl ?_
  simp only [List.nil_append]
  (repeat' (first | refine X.rq ?_ | (refine X.rc ?_ ?_ <;> intro hc <;> first | (exfalso; omega) | skip)))
  refine X.stw ?_
  (repeat' (first | refine X.rq ?_ | (refine X.rc ?_ ?_ <;> intro hc <;> first | (exfalso; omega) | skip)))
  refine K.doneC (by first | exact Or.inl rfl | exact Or.inr rfl) (.cell rfl (Fx.agg rfl) (Fx.sz rfl) (by first | exact K.cels_own (pre := []) (post := []) 0 rfl rfl | exact K.cels_own (pre := []) (post := []) 1 rfl rfl | exact K.cels_own (pre := []) (post := []) 2 rfl rfl | exact K.cels_own (pre := []) (post := []) 3 rfl rfl | exact K.cels_own (pre := []) (post := []) 4 rfl rfl | exact K.cels_own (pre := []) (post := []) 5 rfl rfl) (.tmp rfl .nil)) (by first | exact K.Base.le.refl _ | assumption) (D := [_, _, _]) (H' := []) rfl ⟨rfl, rfl, rfl⟩
theorem VNe (h : Base) (a b : Val) (ha : wfV a) (hb : wfV b) : TrV Try.prog 62 [.agg (cV a).toArray, .agg (cV b).toArray] h [] (rV (cmpQ (testQ 1) a b)) [] := by
  refine K.enter Try.func62 rfl (Nat.le_of_ble_eq_true rfl) (fun F => ?_)
  (repeat' (first | refine X.rq ?_ | (refine X.rc ?_ ?_ <;> intro hc <;> first | (exfalso; omega) | skip)))
  refine K.l_box rfl rfl rfl (fun B => ?_)
  refine K.l_box rfl rfl rfl (fun B => ?_)
  refine K.l_alloc (Fx.zr rfl) rfl rfl (fun B => ?_)
  (repeat' (first | refine X.rq ?_ | (refine X.rc ?_ ?_ <;> intro hc <;> first | (exfalso; omega) | skip)))
  refine K.l_callV (Fx.cal rfl) rfl (Compared h a b ha hb 82 (Fx.cal rfl) _ (TNe h)) (K.pp [] rfl) rfl rfl ?_
  simp only [List.nil_append]
  (repeat' (first | refine X.rq ?_ | (refine X.rc ?_ ?_ <;> intro hc <;> first | (exfalso; omega) | skip)))
  refine X.stw ?_
  (repeat' (first | refine X.rq ?_ | (refine X.rc ?_ ?_ <;> intro hc <;> first | (exfalso; omega) | skip)))
  refine K.doneC (by first | exact Or.inl rfl | exact Or.inr rfl) (.cell rfl (Fx.agg rfl) (Fx.sz rfl) (by first | exact K.cels_own (pre := []) (post := []) 0 rfl rfl | exact K.cels_own (pre := []) (post := []) 1 rfl rfl | exact K.cels_own (pre := []) (post := []) 2 rfl rfl | exact K.cels_own (pre := []) (post := []) 3 rfl rfl | exact K.cels_own (pre := []) (post := []) 4 rfl rfl | exact K.cels_own (pre := []) (post := []) 5 rfl rfl) (.tmp rfl .nil)) (by first | exact K.Base.le.refl _ | assumption) (D := [_, _, _]) (H' := []) rfl ⟨rfl, rfl, rfl⟩
theorem VLt (h : Base) (a b : Val) (ha : wfV a) (hb : wfV b) : TrV Try.prog 63 [.agg (cV a).toArray, .agg (cV b).toArray] h [] (rV (cmpQ (testQ 2) a b)) [] := by
  refine K.enter Try.func63 rfl (Nat.le_of_ble_eq_true rfl) (fun F => ?_)
  (repeat' (first | refine X.rq ?_ | (refine X.rc ?_ ?_ <;> intro hc <;> first | (exfalso; omega) | skip)))
  refine K.l_box rfl rfl rfl (fun B => ?_)
  refine K.l_box rfl rfl rfl (fun B => ?_)
  refine K.l_alloc (Fx.zr rfl) rfl rfl (fun B => ?_)
  (repeat' (first | refine X.rq ?_ | (refine X.rc ?_ ?_ <;> intro hc <;> first | (exfalso; omega) | skip)))
  refine K.l_callV (Fx.cal rfl) rfl (Compared h a b ha hb 83 (Fx.cal rfl) _ (TLt h)) (K.pp [] rfl) rfl rfl ?_
  simp only [List.nil_append]
  (repeat' (first | refine X.rq ?_ | (refine X.rc ?_ ?_ <;> intro hc <;> first | (exfalso; omega) | skip)))
  refine X.stw ?_
  (repeat' (first | refine X.rq ?_ | (refine X.rc ?_ ?_ <;> intro hc <;> first | (exfalso; omega) | skip)))
  refine K.doneC (by first | exact Or.inl rfl | exact Or.inr rfl) (.cell rfl (Fx.agg rfl) (Fx.sz rfl) (by first | exact K.cels_own (pre := []) (post := []) 0 rfl rfl | exact K.cels_own (pre := []) (post := []) 1 rfl rfl | exact K.cels_own (pre := []) (post := []) 2 rfl rfl | exact K.cels_own (pre := []) (post := []) 3 rfl rfl | exact K.cels_own (pre := []) (post := []) 4 rfl rfl | exact K.cels_own (pre := []) (post := []) 5 rfl rfl) (.tmp rfl .nil)) (by first | exact K.Base.le.refl _ | assumption) (D := [_, _, _]) (H' := []) rfl ⟨rfl, rfl, rfl⟩
theorem VLe (h : Base) (a b : Val) (ha : wfV a) (hb : wfV b) : TrV Try.prog 64 [.agg (cV a).toArray, .agg (cV b).toArray] h [] (rV (cmpQ (testQ 3) a b)) [] := by
  refine K.enter Try.func64 rfl (Nat.le_of_ble_eq_true rfl) (fun F => ?_)
  (repeat' (first | refine X.rq ?_ | (refine X.rc ?_ ?_ <;> intro hc <;> first | (exfalso; omega) | skip)))
  refine K.l_box rfl rfl rfl (fun B => ?_)
  refine K.l_box rfl rfl rfl (fun B => ?_)
  refine K.l_alloc (Fx.zr rfl) rfl rfl (fun B => ?_)
  (repeat' (first | refine X.rq ?_ | (refine X.rc ?_ ?_ <;> intro hc <;> first | (exfalso; omega) | skip)))
  refine K.l_callV (Fx.cal rfl) rfl (Compared h a b ha hb 84 (Fx.cal rfl) _ (TLe h)) (K.pp [] rfl) rfl rfl ?_
  simp only [List.nil_append]
  (repeat' (first | refine X.rq ?_ | (refine X.rc ?_ ?_ <;> intro hc <;> first | (exfalso; omega) | skip)))
  refine X.stw ?_
  (repeat' (first | refine X.rq ?_ | (refine X.rc ?_ ?_ <;> intro hc <;> first | (exfalso; omega) | skip)))
  refine K.doneC (by first | exact Or.inl rfl | exact Or.inr rfl) (.cell rfl (Fx.agg rfl) (Fx.sz rfl) (by first | exact K.cels_own (pre := []) (post := []) 0 rfl rfl | exact K.cels_own (pre := []) (post := []) 1 rfl rfl | exact K.cels_own (pre := []) (post := []) 2 rfl rfl | exact K.cels_own (pre := []) (post := []) 3 rfl rfl | exact K.cels_own (pre := []) (post := []) 4 rfl rfl | exact K.cels_own (pre := []) (post := []) 5 rfl rfl) (.tmp rfl .nil)) (by first | exact K.Base.le.refl _ | assumption) (D := [_, _, _]) (H' := []) rfl ⟨rfl, rfl, rfl⟩
theorem VGt (h : Base) (a b : Val) (ha : wfV a) (hb : wfV b) : TrV Try.prog 65 [.agg (cV a).toArray, .agg (cV b).toArray] h [] (rV (cmpQ (testQ 4) a b)) [] := by
  refine K.enter Try.func65 rfl (Nat.le_of_ble_eq_true rfl) (fun F => ?_)
  (repeat' (first | refine X.rq ?_ | (refine X.rc ?_ ?_ <;> intro hc <;> first | (exfalso; omega) | skip)))
  refine K.l_box rfl rfl rfl (fun B => ?_)
  refine K.l_box rfl rfl rfl (fun B => ?_)
  refine K.l_alloc (Fx.zr rfl) rfl rfl (fun B => ?_)
  (repeat' (first | refine X.rq ?_ | (refine X.rc ?_ ?_ <;> intro hc <;> first | (exfalso; omega) | skip)))
  refine K.l_callV (Fx.cal rfl) rfl (Compared h a b ha hb 85 (Fx.cal rfl) _ (TGt h)) (K.pp [] rfl) rfl rfl ?_
  simp only [List.nil_append]
  (repeat' (first | refine X.rq ?_ | (refine X.rc ?_ ?_ <;> intro hc <;> first | (exfalso; omega) | skip)))
  refine X.stw ?_
  (repeat' (first | refine X.rq ?_ | (refine X.rc ?_ ?_ <;> intro hc <;> first | (exfalso; omega) | skip)))
  refine K.doneC (by first | exact Or.inl rfl | exact Or.inr rfl) (.cell rfl (Fx.agg rfl) (Fx.sz rfl) (by first | exact K.cels_own (pre := []) (post := []) 0 rfl rfl | exact K.cels_own (pre := []) (post := []) 1 rfl rfl | exact K.cels_own (pre := []) (post := []) 2 rfl rfl | exact K.cels_own (pre := []) (post := []) 3 rfl rfl | exact K.cels_own (pre := []) (post := []) 4 rfl rfl | exact K.cels_own (pre := []) (post := []) 5 rfl rfl) (.tmp rfl .nil)) (by first | exact K.Base.le.refl _ | assumption) (D := [_, _, _]) (H' := []) rfl ⟨rfl, rfl, rfl⟩
theorem VGe (h : Base) (a b : Val) (ha : wfV a) (hb : wfV b) : TrV Try.prog 66 [.agg (cV a).toArray, .agg (cV b).toArray] h [] (rV (cmpQ (testQ 5) a b)) [] := by
  refine K.enter Try.func66 rfl (Nat.le_of_ble_eq_true rfl) (fun F => ?_)
  (repeat' (first | refine X.rq ?_ | (refine X.rc ?_ ?_ <;> intro hc <;> first | (exfalso; omega) | skip)))
  refine K.l_box rfl rfl rfl (fun B => ?_)
  refine K.l_box rfl rfl rfl (fun B => ?_)
  refine K.l_alloc (Fx.zr rfl) rfl rfl (fun B => ?_)
  (repeat' (first | refine X.rq ?_ | (refine X.rc ?_ ?_ <;> intro hc <;> first | (exfalso; omega) | skip)))
  refine K.l_callV (Fx.cal rfl) rfl (Compared h a b ha hb 86 (Fx.cal rfl) _ (TGe h)) (K.pp [] rfl) rfl rfl ?_
  simp only [List.nil_append]
  (repeat' (first | refine X.rq ?_ | (refine X.rc ?_ ?_ <;> intro hc <;> first | (exfalso; omega) | skip)))
  refine X.stw ?_
  (repeat' (first | refine X.rq ?_ | (refine X.rc ?_ ?_ <;> intro hc <;> first | (exfalso; omega) | skip)))
  refine K.doneC (by first | exact Or.inl rfl | exact Or.inr rfl) (.cell rfl (Fx.agg rfl) (Fx.sz rfl) (by first | exact K.cels_own (pre := []) (post := []) 0 rfl rfl | exact K.cels_own (pre := []) (post := []) 1 rfl rfl | exact K.cels_own (pre := []) (post := []) 2 rfl rfl | exact K.cels_own (pre := []) (post := []) 3 rfl rfl | exact K.cels_own (pre := []) (post := []) 4 rfl rfl | exact K.cels_own (pre := []) (post := []) 5 rfl rfl) (.tmp rfl .nil)) (by first | exact K.Base.le.refl _ | assumption) (D := [_, _, _]) (H' := []) rfl ⟨rfl, rfl, rfl⟩
/-! Texts joined -/
def joinQ (a b : Val) : Val × Int := if fitQ 2 [a, b] ≠ 0 ∨ a.kind = 0 ∨ b.kind = 0 then (vN, fitQ 2 [a, b]) else if a.s.size + b.s.size > 64 then (vN, 3) else (⟨2, 0, a.s ++ b.s⟩, 0)
theorem fit_size {k : Int} {a b : Val} (h : fitQ k [a, b] = 0) : a.s.size ≤ 64 ∧ b.s.size ≤ 64 := by
  have h2 := (fitQ_ok h).1 a (List.mem_cons_self ..)
  have h4 := (fitQ_ok h).1 b (List.mem_cons_of_mem _ (List.mem_cons_self ..))
  rw [okV_iff] at h2 h4
  unfold okVP at h2 h4
  constructor
  · rcases h2 with ⟨_, _, e⟩ | ⟨_, e⟩ | ⟨_, _, e⟩ | ⟨_, e, _⟩ <;> first | omega | (rw [e]; decide)
  · rcases h4 with ⟨_, _, e⟩ | ⟨_, e⟩ | ⟨_, _, e⟩ | ⟨_, e, _⟩ <;> first | omega | (rw [e]; decide)
theorem VJoin (h : Base) (a b : Val) (ha : wfV a) (hb : wfV b) : TrV Try.prog 60 [.agg (cV a).toArray, .agg (cV b).toArray] h [] (rV (joinQ a b)) [] := by
  refine K.enter Try.func60 rfl (Nat.le_of_ble_eq_true rfl) (fun F => ?_)
  (repeat' (first | refine X.rq ?_ | (refine X.rc ?_ ?_ <;> intro hc <;> first | (exfalso; omega) | skip)))
  refine K.l_box rfl rfl rfl (fun B => ?_)
  refine K.l_box rfl rfl rfl (fun B => ?_)
  refine K.l_alloc (Fx.zr rfl) rfl rfl (fun B => ?_)
  (repeat' (first | refine X.rq ?_ | (refine X.rc ?_ ?_ <;> intro hc <;> first | (exfalso; omega) | skip)))
  refine X.bs (fun B => ?_)
  refine K.l_callV (Fx.cal rfl) rfl (All h _ 2 _ [a, b] (slk_2 a b) (wf2 ha hb) (Nat.le_of_ble_eq_true rfl)) (K.pp [0] rfl) rfl rfl ?_
  simp only [List.cons_append, List.nil_append]
  by_cases h1 : fitQ 2 [a, b] ≠ 0 ∨ a.kind = 0 ∨ b.kind = 0
  · rw [joinQ, if_pos h1]
    (repeat' (first | refine X.rq ?_ | (refine X.rc ?_ ?_ <;> intro hc <;> first | (exfalso; omega) | skip)))
    all_goals
      refine X.stw ?_
      (repeat' (first | refine X.rq ?_ | (refine X.rc ?_ ?_ <;> intro hc <;> first | (exfalso; omega) | skip)))
      refine K.doneC (by first | exact Or.inl rfl | exact Or.inr rfl) (.cell rfl (Fx.agg rfl) (Fx.sz rfl) (by first | exact K.cels_own (pre := []) (post := []) 0 rfl rfl | exact K.cels_own (pre := []) (post := []) 1 rfl rfl | exact K.cels_own (pre := []) (post := []) 2 rfl rfl | exact K.cels_own (pre := []) (post := []) 3 rfl rfl | exact K.cels_own (pre := []) (post := []) 4 rfl rfl | exact K.cels_own (pre := []) (post := []) 5 rfl rfl) (.tmp rfl .nil)) (by first | exact K.Base.le.refl _ | assumption) (D := [_, _, _, _]) (H' := []) rfl ⟨rfl, rfl, rfl⟩
  · rw [joinQ, if_neg h1]
    obtain ⟨hs1, hs2⟩ := fit_size (Classical.not_not.1 (fun e => h1 (.inl e)))
    by_cases h2 : a.s.size + b.s.size > 64
    · rw [if_pos h2]
      (repeat' (first | refine X.rq ?_ | (refine X.rc ?_ ?_ <;> intro hc <;> first | (exfalso; omega) | skip)))
      refine X.stw ?_
      (repeat' (first | refine X.rq ?_ | (refine X.rc ?_ ?_ <;> intro hc <;> first | (exfalso; omega) | skip)))
      refine K.doneC (by first | exact Or.inl rfl | exact Or.inr rfl) (.cell rfl (Fx.agg rfl) (Fx.sz rfl) (by first | exact K.cels_own (pre := []) (post := []) 0 rfl rfl | exact K.cels_own (pre := []) (post := []) 1 rfl rfl | exact K.cels_own (pre := []) (post := []) 2 rfl rfl | exact K.cels_own (pre := []) (post := []) 3 rfl rfl | exact K.cels_own (pre := []) (post := []) 4 rfl rfl | exact K.cels_own (pre := []) (post := []) 5 rfl rfl) (.tmp rfl .nil)) (by first | exact K.Base.le.refl _ | assumption) (D := [_, _, _, _]) (H' := []) rfl ⟨rfl, rfl, rfl⟩
    · rw [if_neg h2]
      (repeat' (first | refine X.rq ?_ | (refine X.rc ?_ ?_ <;> intro hc <;> first | (exfalso; omega) | skip)))
      refine K.s_pure (K.p_sadd rfl rfl (by omega)) rfl ?_
      (repeat' (first | refine X.rq ?_ | (refine X.rc ?_ ?_ <;> intro hc <;> first | (exfalso; omega) | skip)))
      refine X.stw ?_
      (repeat' (first | refine X.rq ?_ | (refine X.rc ?_ ?_ <;> intro hc <;> first | (exfalso; omega) | skip)))
      refine K.doneC (by first | exact Or.inl rfl | exact Or.inr rfl) (.cell rfl (Fx.agg rfl) (Fx.sz rfl) (by first | exact K.cels_own (pre := []) (post := []) 0 rfl rfl | exact K.cels_own (pre := []) (post := []) 1 rfl rfl | exact K.cels_own (pre := []) (post := []) 2 rfl rfl | exact K.cels_own (pre := []) (post := []) 3 rfl rfl | exact K.cels_own (pre := []) (post := []) 4 rfl rfl | exact K.cels_own (pre := []) (post := []) 5 rfl rfl) (.tmp rfl .nil)) (by first | exact K.Base.le.refl _ | assumption) (D := [_, _, _, _]) (H' := []) rfl ⟨rfl, rfl, rfl⟩
/-! The document's -/
theorem all2 {a b : Val} {p : Val → Prop} (ha : p a) (hb : p b) : ∀ u ∈ [a, b], p u := fun u hu => by
  simp only [List.mem_cons, List.not_mem_nil, or_false] at hu
  rcases hu with rfl | rfl
  · exact ha
  · exact hb
end Go.Proofs.Ytmkhejdamjibgaa.Rw
