/-
  Values of a schema's rows, the columns of these rows: the code's. Conditions: each theorem's own.
-/
import Derived.Test.YtdjacjhojbkgjaaGreatQ16
namespace Go.Proofs.YtdjacjhojbkgjaaGreat.Ct
open Go Go.K Go.Proofs Go.Proofs.YtdjacjhojbkgjaaGreat Go.Proofs.YtdjacjhojbkgjaaGreat.Rw
set_option linter.unusedVariables false
set_option linter.unusedSimpArgs false
set_option maxRecDepth 10000

abbrev vN (n : Int) : Val := ⟨1, n, noT⟩
abbrev vT (s : ByteArray) : Val := ⟨2, 0, s⟩
abbrev vB (b : Bool) : Val := ⟨3, if b then 1 else 0, noT⟩
abbrev vZ : Val := ⟨0, 0, noT⟩
theorem Num (h : Base) (n : Int) : TrV Tryz.prog 73 [.int .i64 n] h [] (.agg (cV (vN n)).toArray) [] := by
  refine K.enter Tryz.func73 rfl (Nat.le_of_ble_eq_true rfl) (fun F => ?_)
  simp only [List.nil_append]
  (repeat' (first | refine X.rq ?_ | (refine X.rc ?_ ?_ <;> intro hc <;> first | (exfalso; omega) | skip)))
  refine K.l_alloc (Fx.zr rfl) rfl rfl (fun B => ?_)
  (repeat' (first | refine X.rq ?_ | (refine X.rc ?_ ?_ <;> intro hc <;> first | (exfalso; omega) | skip)))
  refine X.stw ?_
  simp only [List.set_cons_zero, List.set_cons_succ, List.eraseIdx_cons_zero, List.eraseIdx_cons_succ, List.cons_append, List.nil_append]
  (repeat' (first | refine X.rq ?_ | (refine X.rc ?_ ?_ <;> intro hc <;> first | (exfalso; omega) | skip)))
  refine K.doneC (.inl rfl) (.cell rfl (Fx.agg rfl) (Fx.sz rfl) (K.cels_own (pre := []) (post := []) 0 rfl rfl) .nil) (K.Base.le.refl _) (vs := [.agg (cV (vN n)).toArray]) (D := [_]) (H' := []) rfl ⟨rfl, rfl, rfl⟩
theorem Text (h : Base) (s : ByteArray) : TrV Tryz.prog 74 [.string s] h [] (.agg (cV (vT s)).toArray) [] := by
  refine K.enter Tryz.func74 rfl (Nat.le_of_ble_eq_true rfl) (fun F => ?_)
  simp only [List.nil_append]
  (repeat' (first | refine X.rq ?_ | (refine X.rc ?_ ?_ <;> intro hc <;> first | (exfalso; omega) | skip)))
  refine K.l_alloc (Fx.zr rfl) rfl rfl (fun B => ?_)
  (repeat' (first | refine X.rq ?_ | (refine X.rc ?_ ?_ <;> intro hc <;> first | (exfalso; omega) | skip)))
  refine X.stw ?_
  simp only [List.set_cons_zero, List.set_cons_succ, List.eraseIdx_cons_zero, List.eraseIdx_cons_succ, List.cons_append, List.nil_append]
  (repeat' (first | refine X.rq ?_ | (refine X.rc ?_ ?_ <;> intro hc <;> first | (exfalso; omega) | skip)))
  refine K.doneC (.inl rfl) (.cell rfl (Fx.agg rfl) (Fx.sz rfl) (K.cels_own (pre := []) (post := []) 0 rfl rfl) .nil) (K.Base.le.refl _) (vs := [.agg (cV (vT s)).toArray]) (D := [_]) (H' := []) rfl ⟨rfl, rfl, rfl⟩
theorem Flag (h : Base) (b : Bool) : TrV Tryz.prog 75 [.bool b] h [] (.agg (cV (vB b)).toArray) [] := by
  refine K.enter Tryz.func75 rfl (Nat.le_of_ble_eq_true rfl) (fun F => ?_)
  simp only [List.nil_append]
  (repeat' (first | refine X.rq ?_ | (refine X.rc ?_ ?_ <;> intro hc <;> first | (exfalso; omega) | skip)))
  refine K.l_alloc (Fx.zr rfl) rfl rfl (fun B2 => ?_)
  (repeat' (first | refine X.rq ?_ | (refine X.rc ?_ ?_ <;> intro hc <;> first | (exfalso; omega) | skip)))
  refine K.l_alloc (Fx.zr rfl) rfl rfl (fun B3 => ?_)
  refine X.stw ?_
  simp only [List.set_cons_zero, List.set_cons_succ, List.eraseIdx_cons_zero, List.eraseIdx_cons_succ, List.cons_append, List.nil_append]
  cases b with
  | true =>
    (repeat' (first | refine X.rq ?_ | (refine X.rc ?_ ?_ <;> intro hc <;> first | (exfalso; omega) | skip)))
    refine X.sto ?_
    simp only [List.set_cons_zero, List.set_cons_succ, List.eraseIdx_cons_zero, List.eraseIdx_cons_succ, List.cons_append, List.nil_append]
    (repeat' (first | refine X.rq ?_ | (refine X.rc ?_ ?_ <;> intro hc <;> first | (exfalso; omega) | skip)))
    refine X.stw ?_
    simp only [List.set_cons_zero, List.set_cons_succ, List.eraseIdx_cons_zero, List.eraseIdx_cons_succ, List.cons_append, List.nil_append]
    (repeat' (first | refine X.rq ?_ | (refine X.rc ?_ ?_ <;> intro hc <;> first | (exfalso; omega) | skip)))
    refine K.doneC (.inl rfl) (.cell rfl (Fx.agg rfl) (Fx.sz rfl) (K.cels_own (pre := []) (post := []) 1 rfl rfl) .nil) (K.Base.le.refl _) (vs := [.agg (cV (vB true)).toArray]) (D := [_, _]) (H' := []) rfl ⟨rfl, rfl, rfl⟩
  | false =>
    (repeat' (first | refine X.rq ?_ | (refine X.rc ?_ ?_ <;> intro hc <;> first | (exfalso; omega) | skip)))
    refine X.stw ?_
    simp only [List.set_cons_zero, List.set_cons_succ, List.eraseIdx_cons_zero, List.eraseIdx_cons_succ, List.cons_append, List.nil_append]
    (repeat' (first | refine X.rq ?_ | (refine X.rc ?_ ?_ <;> intro hc <;> first | (exfalso; omega) | skip)))
    refine K.doneC (.inl rfl) (.cell rfl (Fx.agg rfl) (Fx.sz rfl) (K.cels_own (pre := []) (post := []) 1 rfl rfl) .nil) (K.Base.le.refl _) (vs := [.agg (cV (vB false)).toArray]) (D := [_, _]) (H' := []) rfl ⟨rfl, rfl, rfl⟩
theorem Small (h : Base) (v : Val) : TrV Tryz.prog 81 [.agg (cV v).toArray] h [] (.bool (decide (0 ≤ v.n ∧ v.n ≤ 4294967295))) [] := by
  refine K.enter Tryz.func81 rfl (Nat.le_of_ble_eq_true rfl) (fun F => ?_)
  simp only [List.nil_append]
  by_cases h0 : v.n < 0
  · rw [decide_eq_false (by omega)]
    (repeat' (first | refine X.rq ?_ | (refine X.rc ?_ ?_ <;> intro hc <;> first | (exfalso; omega) | skip)))
    refine K.l_box rfl rfl rfl (fun B => ?_)
    (repeat' (first | refine X.rq ?_ | (refine X.rc ?_ ?_ <;> intro hc <;> first | (exfalso; omega) | skip)))
    all_goals first | (exfalso; omega) | skip
    refine K.AT.sel [0] rfl ?_
    refine K.done (by first | exact Or.inl rfl | exact Or.inr rfl) rfl (by first | exact K.Base.le.refl _ | assumption) (H' := []) rfl ⟨rfl, rfl, rfl⟩
  · have e : decide (0 ≤ v.n ∧ v.n ≤ 4294967295) = decide (v.n ≤ 4294967295) := by rw [decide_eq_decide]; omega
    rw [e]
    (repeat' (first | refine X.rq ?_ | (refine X.rc ?_ ?_ <;> intro hc <;> first | (exfalso; omega) | skip)))
    refine K.l_box rfl rfl rfl (fun B => ?_)
    (repeat' (first | refine X.rq ?_ | (refine X.rc ?_ ?_ <;> intro hc <;> first | (exfalso; omega) | skip)))
    all_goals first | (exfalso; omega) | skip
    refine K.AT.sel [0] rfl ?_
    refine K.done (by first | exact Or.inl rfl | exact Or.inr rfl) rfl (by first | exact K.Base.le.refl _ | assumption) (H' := []) rfl ⟨rfl, rfl, rfl⟩
def colsC : List Col := [⟨⟨#[119, 104, 97, 116]⟩, 1, true⟩, ⟨⟨#[105, 100]⟩, 1, true⟩, ⟨⟨#[97, 116]⟩, 1, false⟩, ⟨⟨#[110, 97, 109, 101]⟩, 2, false⟩, ⟨⟨#[110, 117, 109]⟩, 1, false⟩, ⟨⟨#[102, 108, 97, 103]⟩, 3, false⟩]
theorem Cols (h : Base) : Tr Tryz.prog 48 [] h [] (fun u h' H' => H' = [] ∧ ∃ a, u = bufV a 6 6 ∧ SL h' 3 u (colsC.map cC)) := by
  refine K.enter Tryz.func48 rfl (Nat.le_of_ble_eq_true rfl) (fun F => ?_)
  simp only [List.nil_append]
  (repeat' (first | refine X.rq ?_ | (refine X.rc ?_ ?_ <;> intro hc <;> first | (exfalso; omega) | skip)))
  refine X.bs (fun B => ?_)
  refine K.WL.bufOf (m := 6) (s := 3) rfl (by unfold maxLen; omega) ?_
  refine K.WL.freezeRow (es := colsC.map cC) (fun e he => three _ e he) (fun h1 hle1 hs1 _ => ?_)
  (repeat' (first | refine X.rq ?_ | (refine X.rc ?_ ?_ <;> intro hc <;> first | (exfalso; omega) | skip)))
  refine K.done (by first | exact Or.inl rfl | exact Or.inr rfl) rfl (by first | exact K.Base.le.refl _ | assumption) (H' := []) rfl ⟨rfl, some B, rfl, hs1⟩
theorem AnyTable (h : Base) (t : PTab) (c : List Value) (hc : TabC h t c) : TrV Tryz.prog 29 [.agg c.toArray] h [] (.bool true) [] := by
  obtain ⟨v, rfl, hv⟩ := hc
  obtain ⟨av, cv, rfl⟩ := hv.len
  refine K.enter Tryz.func29 rfl (Nat.le_of_ble_eq_true rfl) (fun F => ?_)
  simp only [List.nil_append]
  (repeat' (first | refine X.rq ?_ | (refine X.rc ?_ ?_ <;> intro hc <;> first | (exfalso; omega) | skip)))
  refine K.l_box rfl rfl rfl (fun B => ?_)
  (repeat' (first | refine X.rq ?_ | (refine X.rc ?_ ?_ <;> intro hc <;> first | (exfalso; omega) | skip)))
  refine K.AT.sel [0] rfl ?_
  refine K.done (by first | exact Or.inl rfl | exact Or.inr rfl) rfl (by first | exact K.Base.le.refl _ | assumption) (H' := []) rfl ⟨rfl, rfl, rfl⟩
theorem AnyIndex (h : Base) (t : PIdx) (c : List Value) (hc : IdxC h t c) : TrV Tryz.prog 30 [.agg c.toArray] h [] (.bool true) [] := by
  obtain ⟨v, rfl, hv⟩ := hc
  obtain ⟨av, cv, rfl⟩ := hv.len
  refine K.enter Tryz.func30 rfl (Nat.le_of_ble_eq_true rfl) (fun F => ?_)
  simp only [List.nil_append]
  (repeat' (first | refine X.rq ?_ | (refine X.rc ?_ ?_ <;> intro hc <;> first | (exfalso; omega) | skip)))
  refine K.l_box rfl rfl rfl (fun B => ?_)
  (repeat' (first | refine X.rq ?_ | (refine X.rc ?_ ?_ <;> intro hc <;> first | (exfalso; omega) | skip)))
  refine K.AT.sel [0] rfl ?_
  refine K.done (by first | exact Or.inl rfl | exact Or.inr rfl) rfl (by first | exact K.Base.le.refl _ | assumption) (H' := []) rfl ⟨rfl, rfl, rfl⟩
end Go.Proofs.YtdjacjhojbkgjaaGreat.Ct
