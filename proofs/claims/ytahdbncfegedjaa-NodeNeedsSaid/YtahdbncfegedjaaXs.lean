/-
  Trees of pages: whether a path is one. Conditions: each theorem's own.
-/
import Derived.Test.YtahdbncfegedjaaXr

namespace Go.Proofs.Ytahdbncfegedjaa.Nd
open Go Go.K Go.Proofs Go.Proofs.Ytahdbncfegedjaa Go.Proofs.Ytahdbncfegedjaa.Pg
set_option linter.unusedVariables false
set_option linter.unusedSimpArgs false
set_option maxRecDepth 10000

theorem num_at {h : Base} {v : Value} {l : List Nat} (hv : U32s h v l) {j : Nat} (hj : j < l.length) : (l.map fun n => [uV n])[((j : Nat) : Int).toNat]? = some [uV l[j]] := by
  rw [Int.toNat_natCast, List.getElem?_map, List.getElem?_eq_getElem hj]; rfl
set_option maxHeartbeats 1000000 in
theorem EqualU (h : Base) (v u : Value) (a b : List Nat) (hv : U32s h v a) (hu : U32s h u b) (hl : a.length ≤ 1000000) (hl2 : b.length ≤ 1000000) : TrV Try.prog 46 [v, u] h [] (.bool (decide (a = b))) [] := by
  obtain ⟨ao, ca, rfl⟩ := hv.len
  obtain ⟨bo, cb, rfl⟩ := hu.len
  refine K.enter Try.func46 rfl (Nat.le_of_ble_eq_true rfl) (fun F => ?_)
  simp only [List.nil_append]
  (repeat' (first | refine X.rq ?_ | (refine X.rc ?_ ?_ <;> intro hc <;> first | (exfalso; omega) | skip)))
  · have hne : decide (a = b) = false := decide_eq_false (fun e => by subst e; contradiction)
    rw [hne]
    refine K.done (by first | exact Or.inl rfl | exact Or.inr rfl) rfl (by first | exact K.Base.le.refl _ | assumption) (H' := []) rfl ⟨rfl, rfl, rfl⟩
  have hlen : a.length = b.length := by omega
  refine K.c_loop (σ := Nat) (fun j => [(0, .slice ao a.length ca), (1, .slice bo b.length cb), (12, .int .i64 a.length), (13, .int .i64 j)]) (fun _ => h) (fun _ => F)
    (fun j => j ≤ a.length ∧ ∀ (i : Nat) x y, i < j → a[i]? = some x → b[i]? = some y → x = y) (fun j => a.length - j) 0 ⟨Nat.zero_le _, fun i x y hi => by omega⟩ (by repeat (first | exact K.Sub.nil _ | refine K.Sub.cons rfl ?_)) rfl rfl ?_
  rintro j ⟨hj, hno⟩ KL hKL
  by_cases hjl : j < a.length
  · have hx1 := num_at hv hjl
    have hy1 := num_at hu (j := j) (by omega)
    have ex : a[j]? = some a[j] := List.getElem?_eq_getElem hjl
    have ey : b[j]? = some (b[j]'(by omega)) := List.getElem?_eq_getElem (by omega)
    generalize a[j] = x at hx1 ex
    generalize b[j]'(by omega) = y at hy1 ey
    (repeat' (first | refine X.rq ?_ | (refine X.rc ?_ ?_ <;> intro hc <;> first | (exfalso; omega) | skip)))
    refine X.draw ([]) [] (.pu 0 (.pu 1 (.pu 4 (.pu 5 (.st 2 (.st 3 (.st 6 (.st 7 (.pu 8 .nil))))))))) ?_
    refine K.d_pu rfl (fun _ _ => X.mv) rfl ?_
    refine K.d_pu rfl (fun _ _ => X.mv) rfl ?_
    refine K.d_pu rfl (fun _ _ => X.mv) rfl ?_
    refine K.d_pu rfl (fun _ _ => X.mv) rfl ?_
    refine K.d_stE rfl (K.p_indexL hv.1 (Fx.und rfl) (Fx.sz rfl) rfl rfl (by omega) hx1) rfl ?_
    rintro v2 ⟨b2, o2, rfl, hc2⟩
    refine K.d_st rfl (K.p_load (Fx.agg rfl) rfl (Cels.up hc2).1) rfl ?_
    refine K.d_stE rfl (K.p_indexL hu.1 (Fx.und rfl) (Fx.sz rfl) rfl rfl (by omega) hy1) rfl ?_
    rintro v3 ⟨b3, o3, rfl, hc3⟩
    refine K.d_st rfl (K.p_load (Fx.agg rfl) rfl (Cels.up hc3).1) rfl ?_
    refine K.d_pu rfl (fun _ _ => X.bneq) rfl ?_
    refine K.d_nil ?_
    (repeat' (first | refine X.rq ?_ | (refine X.rc ?_ ?_ <;> intro hc <;> first | (exfalso; omega) | skip)))
    · have hne : decide (a = b) = false := decide_eq_false (fun e => by
        subst e
        rw [ex] at ey
        cases ey
        have hcc : ¬ ((x : Int) = (x : Int)) := by assumption
        exact hcc rfl)
      rw [hne]
      refine K.done (by first | exact Or.inl rfl | exact Or.inr rfl) rfl (by first | exact K.Base.le.refl _ | assumption) (H' := []) rfl ⟨rfl, rfl, rfl⟩
    · have hxy : x = y := by
        have hcc : ¬ ((x : Int) ≠ (y : Int)) := by assumption
        omega
      refine K.a_round hKL (j + 1) ⟨by omega, fun i p q hi hp hq => ?_⟩ (by repeat (first | exact K.Sub.nil _ | refine K.Sub.cons rfl ?_)) rfl rfl (by omega)
      by_cases hij : i < j
      · exact hno i p q hij hp hq
      · obtain rfl : i = j := by omega
        rw [ex] at hp; rw [ey] at hq; cases hp; cases hq; exact hxy
  · obtain rfl : j = a.length := by omega
    have heq : decide (a = b) = true := decide_eq_true (List.ext_getElem? fun i => by
      by_cases hi : i < a.length
      · rw [List.getElem?_eq_getElem hi, List.getElem?_eq_getElem (show i < b.length by omega), hno i _ _ hi (List.getElem?_eq_getElem hi) (List.getElem?_eq_getElem (show i < b.length by omega))]
      · rw [List.getElem?_eq_none (by omega), List.getElem?_eq_none (by omega)])
    rw [heq]
    (repeat' (first | refine X.rq ?_ | (refine X.rc ?_ ?_ <;> intro hc <;> first | (exfalso; omega) | skip)))
    refine K.done (by first | exact Or.inl rfl | exact Or.inr rfl) rfl (by first | exact K.Base.le.refl _ | assumption) (H' := []) rfl ⟨rfl, rfl, rfl⟩
def startQ (G : Option GetQ) (path : List Nat) (s : List UInt8) : Except Int Unit := if path = [] ∨ path.headD 0 = 0 ∨ isEntryQ s = false then .error 1 else match wayQ G s 7 (path.headD 0) with
  | .error e => .error e
  | .ok l => if l = path then .ok () else .error 1
set_option maxHeartbeats 1000000 in
theorem Start (h : Base) (gv : Value) (G : Option GetQ) (v : Value) (path : List Nat) (s : List UInt8) (hg : GetV h gv G) (hv : U32s h v path) (hl : path.length ≤ 1000000) :
    TrX Try.prog 39 [gv, v, txt s] h [] (fun v h' H' => H' = [] ∧ startQ G path s = .ok ()) (UpE (startQ G path s)) := by
  obtain ⟨ao, ca, rfl⟩ := hv.len
  refine K.enterX Try.func39 rfl (Nat.le_of_ble_eq_true rfl) (fun F => ?_)
  have bad : (path = [] ∨ path.headD 0 = 0 ∨ isEntryQ s = false) → startQ G path s = .error 1 := fun h => by rw [startQ, if_pos h]
  cases path with
  | nil =>
    (repeat' (first | refine X.rq ?_ | (refine X.rc ?_ ?_ <;> intro hc <;> first | (exfalso; omega) | skip)))
    refine K.l_callX (Fx.cal rfl) rfl (Need h _ 1) (K.pp [] rfl) rfl ?_ ?_
    · rintro v h' H' hle ⟨rfl, rfl, e1, rfl⟩
      repeat (first | with_reducible refine K.a_then_panic ?_ | with_reducible refine K.a_block_panic ?_)
      exact K.upXD (D := []) (H' := []) (K.Base.le.refl _) rfl ⟨rfl, 1, rfl, bad (.inl rfl)⟩
    rintro v h' H' - ⟨e, rfl, e1⟩
    cases e1
  | cons x r =>
    have hx1 : ((x :: r).map fun n => [uV n])[(0 : Int).toNat]? = some [uV x] := rfl
    rw [List.length_cons] at hl hv ⊢
    by_cases hx0 : x = 0
    · (repeat' (first | refine X.rq ?_ | (refine X.rc ?_ ?_ <;> intro hc <;> first | (exfalso; omega) | skip)))
      try refine K.s_take rfl rfl ?_
      refine K.s_pureE (K.p_indexL hv.1 (Fx.und rfl) (Fx.sz rfl) rfl rfl (by omega) hx1) rfl ?_
      rintro v2 ⟨b, o, rfl, hcel⟩
      try refine K.s_take rfl rfl ?_
      refine K.s_pure (K.p_load (Fx.agg rfl) rfl (Cels.up hcel).1) rfl ?_
      (repeat' (first | refine X.rq ?_ | (refine X.rc ?_ ?_ <;> intro hc <;> first | (exfalso; omega) | skip)))
      refine K.l_callX (Fx.cal rfl) rfl (Need h _ 1) (K.pp [] rfl) rfl ?_ ?_
      · rintro v h' H' hle ⟨rfl, rfl, e1, rfl⟩
        repeat (first | with_reducible refine K.a_then_panic ?_ | with_reducible refine K.a_block_panic ?_)
        exact K.upXD (D := []) (H' := []) (K.Base.le.refl _) rfl ⟨rfl, 1, rfl, bad (.inr (.inl hx0))⟩
      rintro v h' H' - ⟨e, rfl, e1⟩
      cases e1
    cases hs : isEntryQ s with
    | false =>
      (repeat' (first | refine X.rq ?_ | (refine X.rc ?_ ?_ <;> intro hc <;> first | (exfalso; omega) | skip)))
      try refine K.s_take rfl rfl ?_
      refine K.s_pureE (K.p_indexL hv.1 (Fx.und rfl) (Fx.sz rfl) rfl rfl (by omega) hx1) rfl ?_
      rintro v2 ⟨b, o, rfl, hcel⟩
      try refine K.s_take rfl rfl ?_
      refine K.s_pure (K.p_load (Fx.agg rfl) rfl (Cels.up hcel).1) rfl ?_
      (repeat' (first | refine X.rq ?_ | (refine X.rc ?_ ?_ <;> intro hc <;> first | (exfalso; omega) | skip)))
      try refine K.s_take rfl rfl ?_
      refine K.l_callV (Fx.cal rfl) rfl (IsEntry h s) (K.pp [] rfl) rfl rfl ?_
      rw [hs]
      simp only [List.set_cons_zero, List.set_cons_succ, List.eraseIdx_cons_zero, List.eraseIdx_cons_succ, List.cons_append, List.nil_append]
      (repeat' (first | refine X.rq ?_ | (refine X.rc ?_ ?_ <;> intro hc <;> first | (exfalso; omega) | skip)))
      refine K.l_callX (Fx.cal rfl) rfl (Need h _ 1) (K.pp [] rfl) rfl ?_ ?_
      · rintro v h' H' hle ⟨rfl, rfl, e1, rfl⟩
        repeat (first | with_reducible refine K.a_then_panic ?_ | with_reducible refine K.a_block_panic ?_)
        exact K.upXD (D := []) (H' := []) (K.Base.le.refl _) rfl ⟨rfl, 1, rfl, bad (.inr (.inr hs))⟩
      rintro v h' H' - ⟨e, rfl, e1⟩
      cases e1
    | true =>
      (repeat' (first | refine X.rq ?_ | (refine X.rc ?_ ?_ <;> intro hc <;> first | (exfalso; omega) | skip)))
      try refine K.s_take rfl rfl ?_
      refine K.s_pureE (K.p_indexL hv.1 (Fx.und rfl) (Fx.sz rfl) rfl rfl (by omega) hx1) rfl ?_
      rintro v2 ⟨b, o, rfl, hcel⟩
      try refine K.s_take rfl rfl ?_
      refine K.s_pure (K.p_load (Fx.agg rfl) rfl (Cels.up hcel).1) rfl ?_
      (repeat' (first | refine X.rq ?_ | (refine X.rc ?_ ?_ <;> intro hc <;> first | (exfalso; omega) | skip)))
      try refine K.s_take rfl rfl ?_
      refine K.l_callV (Fx.cal rfl) rfl (IsEntry h s) (K.pp [] rfl) rfl rfl ?_
      rw [hs]
      simp only [List.set_cons_zero, List.set_cons_succ, List.eraseIdx_cons_zero, List.eraseIdx_cons_succ, List.cons_append, List.nil_append]
      (repeat' (first | refine X.rq ?_ | (refine X.rc ?_ ?_ <;> intro hc <;> first | (exfalso; omega) | skip)))
      refine K.l_callX (Fx.cal rfl) rfl (Need h _ 1) (K.pp [] rfl) rfl ?_ ?_
      · rintro v h' H' hle ⟨rfl, rfl, e1, rfl⟩
        cases e1
      rintro v h' H' - ⟨e, rfl, e1⟩
      obtain rfl := e.symm
      have hxl := hv.2 x (List.mem_cons_self ..)
      have hsq : startQ G (x :: r) s = match wayQ G s 7 x with
        | .error e => .error e
        | .ok l => if l = x :: r then .ok () else .error 1 := by
        unfold startQ
        rw [if_neg (by simp [hx0, hs])]
        rfl
      simp only [List.set_cons_zero, List.set_cons_succ, List.eraseIdx_cons_zero, List.eraseIdx_cons_succ, List.cons_append, List.nil_append]
      (repeat' (first | refine X.rq ?_ | (refine X.rc ?_ ?_ <;> intro hc <;> first | (exfalso; omega) | skip)))
      refine K.s_pureE (K.p_indexL hv.1 (Fx.und rfl) (Fx.sz rfl) rfl rfl (by omega) hx1) rfl ?_
      rintro v3 ⟨b3, o3, rfl, hcel3⟩
      refine K.s_pure (K.p_load (Fx.agg rfl) rfl (Cels.up hcel3).1) rfl ?_
      (repeat' (first | refine X.rq ?_ | (refine X.rc ?_ ?_ <;> intro hc <;> first | (exfalso; omega) | skip)))
      refine K.l_callX (Fx.cal rfl) rfl (PPath h gv G x s hg hxl) (K.pp [] rfl) rfl ?_ ?_
      · rintro v h' H' hle ⟨rfl, e, rfl, he⟩
        repeat (first | with_reducible refine K.a_then_panic ?_ | with_reducible refine K.a_block_panic ?_)
        exact K.upXD (D := []) (H' := []) hle rfl ⟨rfl, e, rfl, by rw [hsq, he]⟩
      rintro v h1 H' hle1 ⟨rfl, l, hq, hu⟩
      rw [hq] at hsq
      dsimp only at hsq
      have hl8 := way_len hq
      simp only [List.set_cons_zero, List.set_cons_succ, List.eraseIdx_cons_zero, List.eraseIdx_cons_succ, List.cons_append, List.nil_append]
      (repeat' (first | refine X.rq ?_ | (refine X.rc ?_ ?_ <;> intro hc <;> first | (exfalso; omega) | skip)))
      refine K.l_callV (Fx.cal rfl) rfl (EqualU h1 _ _ l (x :: r) hu (hv.le hle1) (by omega) (by simp; omega)) (K.pp [] rfl) rfl rfl ?_
      simp only [List.set_cons_zero, List.set_cons_succ, List.eraseIdx_cons_zero, List.eraseIdx_cons_succ, List.cons_append, List.nil_append]
      refine K.l_callX (Fx.cal rfl) rfl (Need h1 _ 1) (K.pp [] rfl) rfl ?_ ?_
      · rintro v h' H' hle ⟨rfl, rfl, e1, rfl⟩
        have e1 := of_decide_eq_false e1
        repeat (first | with_reducible refine K.a_then_panic ?_ | with_reducible refine K.a_block_panic ?_)
        exact K.upXD (D := []) (H' := []) hle1 rfl ⟨rfl, 1, rfl, by rw [hsq, if_neg e1]⟩
      rintro v h' H' - ⟨e, rfl, e1⟩
      obtain rfl := e.symm
      have e1 := of_decide_eq_true e1
      simp only [List.set_cons_zero, List.set_cons_succ, List.eraseIdx_cons_zero, List.eraseIdx_cons_succ, List.cons_append, List.nil_append]
      (repeat' (first | refine X.rq ?_ | (refine X.rc ?_ ?_ <;> intro hc <;> first | (exfalso; omega) | skip)))
      exact K.doneXC (vs := []) (by first | exact Or.inl rfl | exact Or.inr rfl) .nil hle1 (D := []) (H' := []) rfl ⟨rfl, by rw [hsq, if_pos e1]⟩
end Go.Proofs.Ytahdbncfegedjaa.Nd
