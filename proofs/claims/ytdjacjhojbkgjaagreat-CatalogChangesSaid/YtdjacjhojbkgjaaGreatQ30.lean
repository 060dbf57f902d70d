/-
  Rows collected and sorted, copied, compared: the code's. Conditions: each theorem's own.
-/
import Derived.Test.YtdjacjhojbkgjaaGreatQ29
namespace Go.Proofs.YtdjacjhojbkgjaaGreat.Ct
open Go Go.K Go.Proofs Go.Proofs.YtdjacjhojbkgjaaGreat Go.Proofs.YtdjacjhojbkgjaaGreat.Rw
set_option linter.unusedVariables false
set_option linter.unusedSimpArgs false
set_option maxRecDepth 10000

theorem SortedR (h : Base) (gf : FuncId) (lb : List Value) (Pre : List Asrt) (xs : List (List Val)) (hit : IterK Tryz.prog gf lb EncR h Pre xs) (hcal : Callable Tryz.prog gf) (hx : xs.length ≤ 1000000) (h6 : ∀ r ∈ xs, r.length = 6) :
    Tr Tryz.prog 53 [.func (.func gf) #[] lb.toArray, .func (.func 51) #[] #[]] h Pre (fun u h' H' => ∃ a k l es, u = bufV a xs.length k ∧ l.Perm xs ∧ RiseR l ∧ Each (RowC h') es l ∧ H' = bufA 72 1 a xs.length k es.flatten :: Pre) := by
  refine K.enter Tryz.func53 rfl (Nat.le_of_ble_eq_true rfl) (fun F => ?_)
  (repeat' (first | refine X.rq ?_ | (refine X.rc ?_ ?_ <;> intro hc <;> first | (exfalso; omega) | skip)))
  refine K.l_call (Fx.cal rfl) rfl (Collect h gf lb Pre xs hit hcal hx) (List.Perm.refl _) rfl ?_
  rintro u h1 H' hle ⟨a, k, es, rfl, hes, rfl⟩
  simp only [List.set_cons_zero, List.set_cons_succ, List.eraseIdx_cons_zero, List.eraseIdx_cons_succ, List.cons_append, List.nil_append]
  (repeat' (first | refine X.rq ?_ | (refine X.rc ?_ ?_ <;> intro hc <;> first | (exfalso; omega) | skip)))
  refine K.l_call (Fx.cal rfl) rfl (SortR h1 a xs.length k xs es hes h6 rfl (by omega)) (K.pp [0] rfl) rfl ?_
  rintro u h' H' - ⟨e, rfl, l, es2, hp, hr, hes2, rfl⟩
  obtain rfl := e
  simp only [List.set_cons_zero, List.set_cons_succ, List.eraseIdx_cons_zero, List.eraseIdx_cons_succ, List.cons_append, List.nil_append]
  (repeat' (first | refine X.rq ?_ | (refine X.rc ?_ ?_ <;> intro hc <;> first | (exfalso; omega) | skip)))
  refine K.done (.inl rfl) rfl hle (H' := _ :: Pre) rfl ⟨a, k, l, es2, rfl, hp, hr, hes2, rfl⟩
theorem CloneR (h : Base) (v : Value) (es : List (List Value)) (hv : SL h 1 v es) (h1 : ∀ e ∈ es, ones e = true) (hl : es.length ≤ 1000000) :
    Tr Tryz.prog 49 [v] h [] (fun u h' H' => h' = h ∧ ∃ a k, u = bufV a es.length k ∧ H' = [bufA 72 1 a es.length k es.flatten]) := by
  have hsrc : ∀ KK, Src Tryz.prog h KK 1 v es.length es.flatten := fun KK => K.SL.src (P := Tryz.prog) (K := KK) hv h1
  obtain ⟨ao, ca, rfl⟩ := hv.len
  refine K.enter Tryz.func49 rfl (Nat.le_of_ble_eq_true rfl) (fun F => ?_)
  simp only [List.nil_append]
  cases ao with
  | none =>
    have hl0 : es = [] := by
      rcases hv with ⟨_, _, e, e2⟩ | ⟨_, _, _, e, _⟩
      · exact e2
      · cases e
    subst hl0
    (repeat' (first | refine X.rq ?_ | (refine X.rc ?_ ?_ <;> intro hc <;> first | (exfalso; omega) | skip)))
    refine K.AT.nilBuf 72 1 ?_
    refine K.done (by first | exact Or.inl rfl | exact Or.inr rfl) rfl (by first | exact K.Base.le.refl _ | assumption) (H' := [bufA 72 1 none 0 0 []]) rfl ⟨rfl, none, 0, rfl, rfl⟩
  | some ad =>
    (repeat' (first | refine X.rq ?_ | (refine X.rc ?_ ?_ <;> intro hc <;> first | (exfalso; omega) | skip)))
    refine K.l_buildSlice (Fx.und rfl) (Fx.sz rfl) rfl (Fx.zr rfl) rfl rfl rfl rfl rfl (fun B => ?_)
    refine K.WL.bufOf (m := 0) (s := 1) rfl (by unfold maxLen; omega) ?_
    (repeat' (first | refine X.rq ?_ | (refine X.rc ?_ ?_ <;> intro hc <;> first | (exfalso; omega) | skip)))
    refine K.l_append_at 0 rfl (Fx.und rfl) (Fx.und rfl) rfl (Fx.sz rfl) (Fx.zr rfl) rfl (Fx.byt rfl) rfl rfl (hsrc _) (by omega) (by omega) rfl (fun a1 cap1 => ?_)
    simp only [List.set_cons_zero, List.set_cons_succ, List.eraseIdx_cons_zero, List.eraseIdx_cons_succ, List.cons_append, List.nil_append]
    rw [Nat.zero_add]
    (repeat' (first | refine X.rq ?_ | (refine X.rc ?_ ?_ <;> intro hc <;> first | (exfalso; omega) | skip)))
    refine K.done (by first | exact Or.inl rfl | exact Or.inr rfl) rfl (by first | exact K.Base.le.refl _ | assumption) (H' := [_]) rfl ⟨rfl, a1, cap1, rfl, rfl⟩
set_option maxHeartbeats 1000000 in
theorem EqualV (h : Base) (v u : Value) (a b : List Val) (hv : SL h 3 v (a.map cV)) (hu : SL h 3 u (b.map cV)) (ha : a.length ≤ 9223372036854775807) (hb : b.length ≤ 9223372036854775807) :
    TrV Tryz.prog 55 [v, u] h [] (.bool (decide (a = b))) [] := by
  have hlen : (a.map cV).length = a.length := List.length_map ..
  have hlen2 : (b.map cV).length = b.length := List.length_map ..
  obtain ⟨ao, ca, rfl⟩ := hv.len
  obtain ⟨ao2, ca2, rfl⟩ := hu.len
  rw [hlen] at hv ⊢
  rw [hlen2] at hu ⊢
  refine K.enter Tryz.func55 rfl (Nat.le_of_ble_eq_true rfl) (fun F => ?_)
  simp only [List.nil_append]
  by_cases hne : a.length = b.length
  · (repeat' (first | refine X.rq ?_ | (refine X.rc ?_ ?_ <;> intro hc <;> first | (exfalso; omega) | skip)))
    refine K.c_loop (σ := Nat) (fun j => [(0, .slice ao a.length ca), (1, .slice ao2 b.length ca2), (12, .int .i64 a.length), (13, .int .i64 j)]) (fun _ => h) (fun _ => F) (fun j => j ≤ a.length ∧ ∀ i, i < j → a[i]? = b[i]?) (fun j => a.length - j) 0 ⟨Nat.zero_le _, fun i hi => by omega⟩ (by repeat (first | exact K.Sub.nil _ | refine K.Sub.cons rfl ?_)) rfl rfl ?_
    rintro j ⟨hj, hsame⟩ KL hKL
    by_cases hjl : j < a.length
    · have hjb : j < b.length := by omega
      have hc0 : (a.map cV)[((j : Nat) : Int).toNat]? = some (cV a[j]) := by rw [Int.toNat_natCast, List.getElem?_map, List.getElem?_eq_getElem hjl]; rfl
      have hd0 : (b.map cV)[((j : Nat) : Int).toNat]? = some (cV b[j]) := by rw [Int.toNat_natCast, List.getElem?_map, List.getElem?_eq_getElem hjb]; rfl
      have hc1 : a[j]? = some a[j] := List.getElem?_eq_getElem hjl
      have hd1 : b[j]? = some b[j] := List.getElem?_eq_getElem hjb
      generalize a[j] = x at hc0 hc1
      generalize b[j] = y at hd0 hd1
      (repeat' (first | refine X.rq ?_ | (refine X.rc ?_ ?_ <;> intro hc <;> first | (exfalso; omega) | skip)))
      refine X.draw ([]) [] (.pu 0 (.pu 1 (.pu 4 (.pu 5 (.st 2 (.st 3 (.st 6 (.st 7 (.pu 8 .nil))))))))) ?_
      refine K.d_pu rfl (fun _ _ => X.mv) rfl ?_
      refine K.d_pu rfl (fun _ _ => X.mv) rfl ?_
      refine K.d_pu rfl (fun _ _ => X.mv) rfl ?_
      refine K.d_pu rfl (fun _ _ => X.mv) rfl ?_
      refine K.d_stE rfl (K.p_indexL hv (Fx.und rfl) (Fx.sz rfl) rfl rfl (by omega) hc0) rfl ?_
      rintro v2 ⟨b1, o1, rfl, hcel⟩
      refine K.d_st rfl (K.p_loadM (Fx.agg rfl) rfl (Cels.up hcel) (Fx.sz rfl) rfl) rfl ?_
      refine K.d_stE rfl (K.p_indexL hu (Fx.und rfl) (Fx.sz rfl) rfl rfl (by omega) hd0) rfl ?_
      rintro v3 ⟨b2, o2, rfl, hcel2⟩
      refine K.d_st rfl (K.p_loadM (Fx.agg rfl) rfl (Cels.up hcel2) (Fx.sz rfl) rfl) rfl ?_
      refine K.d_pu rfl (fun _ _ => X.bneq) rfl ?_
      rw [eqV]
      refine K.d_nil ?_
      by_cases hxy : x = y
      · rw [decide_eq_true hxy]
        (repeat' (first | refine X.rq ?_ | (refine X.rc ?_ ?_ <;> intro hc <;> first | (exfalso; omega) | skip)))
        refine K.a_round hKL (j + 1) ⟨by omega, same_step hsame hc1 hd1 hxy⟩ (by repeat (first | exact K.Sub.nil _ | refine K.Sub.cons rfl ?_)) rfl rfl (by omega)
      · rw [decide_eq_false hxy]
        (repeat' (first | refine X.rq ?_ | (refine X.rc ?_ ?_ <;> intro hc <;> first | (exfalso; omega) | skip)))
        rw [decide_eq_false (fun e => hxy (by rw [e, hd1] at hc1; cases hc1; rfl))]
        refine K.done (by first | exact Or.inl rfl | exact Or.inr rfl) rfl (by first | exact K.Base.le.refl _ | assumption) (H' := []) rfl ⟨rfl, rfl, rfl⟩
    · obtain rfl : j = a.length := by omega
      (repeat' (first | refine X.rq ?_ | (refine X.rc ?_ ?_ <;> intro hc <;> first | (exfalso; omega) | skip)))
      rw [decide_eq_true (same_all hne hsame)]
      refine K.done (by first | exact Or.inl rfl | exact Or.inr rfl) rfl (by first | exact K.Base.le.refl _ | assumption) (H' := []) rfl ⟨rfl, rfl, rfl⟩
  · (repeat' (first | refine X.rq ?_ | (refine X.rc ?_ ?_ <;> intro hc <;> first | (exfalso; omega) | skip)))
    rw [decide_eq_false (fun e => hne (by rw [e]))]
    refine K.done (by first | exact Or.inl rfl | exact Or.inr rfl) rfl (by first | exact K.Base.le.refl _ | assumption) (H' := []) rfl ⟨rfl, rfl, rfl⟩
set_option maxHeartbeats 1000000 in
theorem EqualRows (h : Base) (v u : Value) (es fs : List (List Value)) (a b : List (List Val)) (hv : SL h 1 v es) (he : Each (RowC h) es a) (hu : SL h 1 u fs) (hf : Each (RowC h) fs b) (ha : ∀ x ∈ a, x.length ≤ 9223372036854775807) (hb : ∀ x ∈ b, x.length ≤ 9223372036854775807) (hal : a.length ≤ 1000000) (hbl : b.length ≤ 1000000) :
    TrV Tryz.prog 54 [v, u, .func (.func 55) #[] #[]] h [] (.bool (decide (a = b))) [] := by
  obtain ⟨ao, ca, rfl⟩ := hv.len
  obtain ⟨ao2, ca2, rfl⟩ := hu.len
  rw [he.len] at hv ⊢
  rw [hf.len] at hu ⊢
  refine K.enter Tryz.func54 rfl (Nat.le_of_ble_eq_true rfl) (fun F => ?_)
  simp only [List.nil_append, List.cons_append]
  by_cases hne : a.length = b.length
  · (repeat' (first | refine X.rq ?_ | (refine X.rc ?_ ?_ <;> intro hc <;> first | (exfalso; omega) | skip)))
    refine K.c_loop (σ := Nat) (fun j => [(1, .slice ao2 b.length ca2), (2, .func (.func 55) #[] #[]), (15, .slice ao a.length ca), (16, .int .i64 a.length), (17, .int .i64 j)]) (fun _ => h) (fun _ => F) (fun j => j ≤ a.length ∧ ∀ i, i < j → a[i]? = b[i]?) (fun j => a.length - j) 0 ⟨Nat.zero_le _, fun i hi => by omega⟩ (by repeat (first | exact K.Sub.nil _ | refine K.Sub.cons rfl ?_)) rfl rfl ?_
    rintro j ⟨hj, hsame⟩ KL hKL
    by_cases hjl : j < a.length
    · have hjb : j < b.length := by omega
      have hc1 : a[j]? = some a[j] := List.getElem?_eq_getElem hjl
      have hd1 : b[j]? = some b[j] := List.getElem?_eq_getElem hjb
      have hxl := ha _ (List.getElem_mem hjl)
      have hyl := hb _ (List.getElem_mem hjb)
      generalize a[j] = x at hc1 hxl
      generalize b[j] = y at hd1 hyl
      obtain ⟨c, hc0, w1, rfl, hw1⟩ := he.get hc1
      obtain ⟨d, hd0, w2, rfl, hw2⟩ := hf.get hd1
      have hsm := EqualV h w1 w2 x y hw1 hw2 hxl hyl
      obtain ⟨aw1, cw1, rfl⟩ := hw1.len
      obtain ⟨aw2, cw2, rfl⟩ := hw2.len
      obtain ⟨bb, oo, rfl, hcx⟩ := hv.at hc0
      obtain ⟨b2, o2, rfl, hcy⟩ := hu.at hd0
      (repeat' (first | refine X.rq ?_ | (refine X.rc ?_ ?_ <;> intro hc <;> first | (exfalso; omega) | skip)))
      refine K.s_pure (K.p_load (v := .slice aw1 _ cw1) (Fx.agg rfl) rfl (Cels.up hcx).1) rfl ?_
      (repeat' (first | refine X.rq ?_ | (refine X.rc ?_ ?_ <;> intro hc <;> first | (exfalso; omega) | skip)))
      refine K.s_pure (K.p_load (v := .slice aw2 _ cw2) (Fx.agg rfl) rfl (Cels.up hcy).1) rfl ?_
      (repeat' (first | refine X.rq ?_ | (refine X.rc ?_ ?_ <;> intro hc <;> first | (exfalso; omega) | skip)))
      refine K.l_callF (vals := [_, _]) (Fx.cal rfl) rfl rfl hsm (K.pp [] rfl) rfl ?_
      rintro u h' H' - ⟨rfl, e, rfl⟩
      obtain rfl := e.symm
      simp only [List.nil_append]
      generalize hdd : decide (x = y) = bb
      cases bb with
      | true =>
        have hxy : x = y := of_decide_eq_true hdd
        (repeat' (first | refine X.rq ?_ | (refine X.rc ?_ ?_ <;> intro hc <;> first | (exfalso; omega) | skip)))
        refine K.a_round hKL (j + 1) ⟨by omega, same_step hsame hc1 hd1 hxy⟩ (by repeat (first | exact K.Sub.nil _ | refine K.Sub.cons rfl ?_)) rfl rfl (by omega)
      | false =>
        have hxy : ¬ x = y := of_decide_eq_false hdd
        (repeat' (first | refine X.rq ?_ | (refine X.rc ?_ ?_ <;> intro hc <;> first | (exfalso; omega) | skip)))
        rw [decide_eq_false (fun e => hxy (by rw [e, hd1] at hc1; cases hc1; rfl))]
        refine K.done (by first | exact Or.inl rfl | exact Or.inr rfl) rfl (by first | exact K.Base.le.refl _ | assumption) (H' := []) rfl ⟨rfl, rfl, rfl⟩
    · obtain rfl : j = a.length := by omega
      (repeat' (first | refine X.rq ?_ | (refine X.rc ?_ ?_ <;> intro hc <;> first | (exfalso; omega) | skip)))
      rw [decide_eq_true (same_all hne hsame)]
      refine K.done (by first | exact Or.inl rfl | exact Or.inr rfl) rfl (by first | exact K.Base.le.refl _ | assumption) (H' := []) rfl ⟨rfl, rfl, rfl⟩
  · (repeat' (first | refine X.rq ?_ | (refine X.rc ?_ ?_ <;> intro hc <;> first | (exfalso; omega) | skip)))
    rw [decide_eq_false (fun e => hne (by rw [e]))]
    refine K.done (by first | exact Or.inl rfl | exact Or.inr rfl) rfl (by first | exact K.Base.le.refl _ | assumption) (H' := []) rfl ⟨rfl, rfl, rfl⟩
end Go.Proofs.YtdjacjhojbkgjaaGreat.Ct
