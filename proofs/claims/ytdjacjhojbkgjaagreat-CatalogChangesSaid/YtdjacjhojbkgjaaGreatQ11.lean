/-
  The first one that is so; tables and indexes found, in memory of their own: the code's. Conditions: each theorem's own.
-/
import Derived.Test.YtdjacjhojbkgjaaGreatQ10
namespace Go.Proofs.YtdjacjhojbkgjaaGreat.Ct
open Go Go.K Go.Proofs Go.Proofs.YtdjacjhojbkgjaaGreat Go.Proofs.YtdjacjhojbkgjaaGreat.Rw
set_option linter.unusedVariables false
set_option linter.unusedSimpArgs false
set_option maxRecDepth 10000

theorem perm_in2 {a b : Asrt} {KK F : List Asrt} : (a :: b :: (KK ++ F)).Perm (KK ++ a :: b :: F) := by
  have := (List.perm_append_comm (l₁ := [a, b]) (l₂ := KK)).append_right F
  simpa using this
set_option maxHeartbeats 2000000 in
theorem FirstT (h : Base) (KK : List Asrt) (f : FuncId) (caps : List Value) (hcal : Callable Tryz.prog f) (v : Value) (ts : List (List Value)) (xs : List PTab) (q : PTab → Bool) (hv : SL h 4 v ts) (ht : Each (TabC h) ts xs) (hl : xs.length ≤ 17592186044415)
    (hq : ∀ x c, x ∈ xs → TabC h x c → TrV Tryz.prog f (.agg c.toArray :: caps) h KK (.bool (q x)) KK) :
    Tr Tryz.prog 66 [v, .func (.func f) #[] caps.toArray] h KK (fun u h' H' => h' = h ∧ H' = KK ∧ FindP (TabC h) zTab (xs.find? q) u) := by
  obtain ⟨ao, ca, rfl⟩ := hv.len
  rw [ht.len] at hv ⊢
  refine K.enter Tryz.func66 rfl (Nat.le_of_ble_eq_true rfl) (fun F => ?_)
  (repeat' (first | refine X.rq ?_ | (refine X.rc ?_ ?_ <;> intro hc <;> first | (exfalso; omega) | skip)))
  refine K.l_alloc (Fx.zr rfl) rfl rfl (fun B4 => ?_)
  (repeat' (first | refine X.rq ?_ | (refine X.rc ?_ ?_ <;> intro hc <;> first | (exfalso; omega) | skip)))
  refine K.c_loop (σ := Nat) (fun j => [(1, .func (.func f) #[] caps.toArray), (4, .pointer (some ⟨B4, 0, none⟩)), (9, .slice ao xs.length ca), (10, .int .i64 xs.length), (11, .int .i64 j)]) (fun _ => h) (fun _ => blk B4 37 (cTab zTab (.slice none 0 0)) :: (KK ++ F))
    (fun j => j ≤ xs.length ∧ (xs.take j).find? q = none) (fun j => xs.length - j) 0 ⟨Nat.zero_le _, rfl⟩ (by repeat (first | exact K.Sub.nil _ | refine K.Sub.cons rfl ?_)) rfl rfl ?_
  rintro j ⟨hj, hn⟩ KL hKL
  by_cases hjl : j < xs.length
  · have hx1 : xs[j]? = some xs[j] := List.getElem?_eq_getElem hjl
    have hmem : xs[j] ∈ xs := List.getElem_mem hjl
    generalize xs[j] = t at hx1 hmem
    obtain ⟨hf1, hf2⟩ := find_take hn hx1
    obtain ⟨c, hc0, htc⟩ := ht.get hx1
    have hqx := hq t c hmem htc
    obtain ⟨v1, rfl, hcv⟩ := htc
    obtain ⟨av, cv, rfl⟩ := hcv.len
    obtain ⟨bb, oo, rfl, hcx⟩ := hv.at hc0
    (repeat' (first | refine X.rq ?_ | (refine X.rc ?_ ?_ <;> intro hc <;> first | (exfalso; omega) | skip)))
    refine K.s_pure (K.p_loadM (Fx.agg rfl) rfl (Cels.up hcx) (Fx.sz rfl) rfl) rfl ?_
    refine K.l_alloc (Fx.zr rfl) rfl rfl (fun B7 => ?_)
    refine X.stw ?_
    simp only [List.set_cons_zero, List.set_cons_succ, List.eraseIdx_cons_zero, List.eraseIdx_cons_succ, List.cons_append, List.nil_append]
    (repeat' (first | refine X.rq ?_ | (refine X.rc ?_ ?_ <;> intro hc <;> first | (exfalso; omega) | skip)))
    refine K.l_callF (vals := [.agg (cTab t (.slice av (t.cols.map cC).length cv)).toArray]) hcal rfl rfl hqx perm_in2 rfl ?_
    rintro u h' H' - ⟨rfl, e, rfl⟩
    obtain rfl := e.symm
    refine K.WL.perm perm_in2.symm ?_
    cases hqt : q t with
    | true =>
      rw [hf1 hqt]
      (repeat' (first | refine X.rq ?_ | (refine X.rc ?_ ?_ <;> intro hc <;> first | (exfalso; omega) | skip)))
      refine X.stw ?_
      simp only [List.set_cons_zero, List.set_cons_succ, List.eraseIdx_cons_zero, List.eraseIdx_cons_succ, List.cons_append, List.nil_append]
      (repeat' (first | refine X.rq ?_ | (refine X.rc ?_ ?_ <;> intro hc <;> first | (exfalso; omega) | skip)))
      refine K.doneC (by first | exact Or.inl rfl | exact Or.inr rfl) (.cell rfl (Fx.agg rfl) (Fx.sz rfl) (by first | exact K.cels_own (pre := []) (post := []) 0 rfl rfl | exact K.cels_own (pre := []) (post := []) 1 rfl rfl | exact K.cels_own (pre := []) (post := []) 2 rfl rfl | exact K.cels_own (pre := []) (post := []) 3 rfl rfl | exact K.cels_own (pre := []) (post := []) 4 rfl rfl | exact K.cels_own (pre := []) (post := []) 5 rfl rfl) (.tmp rfl .nil)) (by first | exact K.Base.le.refl _ | assumption) (vs := [.agg (cTab t (.slice av (t.cols.map cC).length cv)).toArray, .bool true]) (D := [_, _]) (H' := H') rfl ⟨rfl, rfl, _, rfl, _, rfl, hcv⟩
    | false =>
      (repeat' (first | refine X.rq ?_ | (refine X.rc ?_ ?_ <;> intro hc <;> first | (exfalso; omega) | skip)))
      refine K.AT.sel [0] rfl ?_
      refine K.a_round hKL (j + 1) ⟨by omega, hf2 hqt⟩ (by repeat (first | exact K.Sub.nil _ | refine K.Sub.cons rfl ?_)) rfl rfl (by omega)
  · obtain rfl : j = xs.length := by omega
    rw [List.take_length] at hn
    rw [hn]
    (repeat' (first | refine X.rq ?_ | (refine X.rc ?_ ?_ <;> intro hc <;> first | (exfalso; omega) | skip)))
    refine K.l_alloc (Fx.zr rfl) rfl rfl (fun B8 => ?_)
    (repeat' (first | refine X.rq ?_ | (refine X.rc ?_ ?_ <;> intro hc <;> first | (exfalso; omega) | skip)))
    refine X.stw ?_
    simp only [List.set_cons_zero, List.set_cons_succ, List.eraseIdx_cons_zero, List.eraseIdx_cons_succ, List.cons_append, List.nil_append]
    (repeat' (first | refine X.rq ?_ | (refine X.rc ?_ ?_ <;> intro hc <;> first | (exfalso; omega) | skip)))
    refine K.doneC (by first | exact Or.inl rfl | exact Or.inr rfl) (.cell rfl (Fx.agg rfl) (Fx.sz rfl) (by first | exact K.cels_own (pre := []) (post := []) 0 rfl rfl | exact K.cels_own (pre := []) (post := []) 1 rfl rfl | exact K.cels_own (pre := []) (post := []) 2 rfl rfl | exact K.cels_own (pre := []) (post := []) 3 rfl rfl | exact K.cels_own (pre := []) (post := []) 4 rfl rfl | exact K.cels_own (pre := []) (post := []) 5 rfl rfl) (.tmp rfl .nil)) (by first | exact K.Base.le.refl _ | assumption) (vs := [.agg (cTab zTab (.slice none 0 0)).toArray, .bool false]) (D := [_, _]) (H' := KK) rfl ⟨rfl, rfl, _, rfl, zTab_ok h⟩
set_option maxHeartbeats 2000000 in
theorem FirstI (h : Base) (KK : List Asrt) (f : FuncId) (caps : List Value) (hcal : Callable Tryz.prog f) (v : Value) (ts : List (List Value)) (xs : List PIdx) (q : PIdx → Bool) (hv : SL h 6 v ts) (ht : Each (IdxC h) ts xs) (hl : xs.length ≤ 17592186044415)
    (hq : ∀ x c, x ∈ xs → IdxC h x c → TrV Tryz.prog f (.agg c.toArray :: caps) h KK (.bool (q x)) KK) :
    Tr Tryz.prog 57 [v, .func (.func f) #[] caps.toArray] h KK (fun u h' H' => h' = h ∧ H' = KK ∧ FindP (IdxC h) zIdx (xs.find? q) u) := by
  obtain ⟨ao, ca, rfl⟩ := hv.len
  rw [ht.len] at hv ⊢
  refine K.enter Tryz.func57 rfl (Nat.le_of_ble_eq_true rfl) (fun F => ?_)
  (repeat' (first | refine X.rq ?_ | (refine X.rc ?_ ?_ <;> intro hc <;> first | (exfalso; omega) | skip)))
  refine K.l_alloc (Fx.zr rfl) rfl rfl (fun B4 => ?_)
  (repeat' (first | refine X.rq ?_ | (refine X.rc ?_ ?_ <;> intro hc <;> first | (exfalso; omega) | skip)))
  refine K.c_loop (σ := Nat) (fun j => [(1, .func (.func f) #[] caps.toArray), (4, .pointer (some ⟨B4, 0, none⟩)), (9, .slice ao xs.length ca), (10, .int .i64 xs.length), (11, .int .i64 j)]) (fun _ => h) (fun _ => blk B4 43 (cIdx zIdx (.slice none 0 0)) :: (KK ++ F))
    (fun j => j ≤ xs.length ∧ (xs.take j).find? q = none) (fun j => xs.length - j) 0 ⟨Nat.zero_le _, rfl⟩ (by repeat (first | exact K.Sub.nil _ | refine K.Sub.cons rfl ?_)) rfl rfl ?_
  rintro j ⟨hj, hn⟩ KL hKL
  by_cases hjl : j < xs.length
  · have hx1 : xs[j]? = some xs[j] := List.getElem?_eq_getElem hjl
    have hmem : xs[j] ∈ xs := List.getElem_mem hjl
    generalize xs[j] = t at hx1 hmem
    obtain ⟨hf1, hf2⟩ := find_take hn hx1
    obtain ⟨c, hc0, htc⟩ := ht.get hx1
    have hqx := hq t c hmem htc
    obtain ⟨v1, rfl, hcv⟩ := htc
    obtain ⟨av, cv, rfl⟩ := hcv.len
    obtain ⟨bb, oo, rfl, hcx⟩ := hv.at hc0
    (repeat' (first | refine X.rq ?_ | (refine X.rc ?_ ?_ <;> intro hc <;> first | (exfalso; omega) | skip)))
    refine K.s_pure (K.p_loadM (Fx.agg rfl) rfl (Cels.up hcx) (Fx.sz rfl) rfl) rfl ?_
    refine K.l_alloc (Fx.zr rfl) rfl rfl (fun B7 => ?_)
    refine X.stw ?_
    simp only [List.set_cons_zero, List.set_cons_succ, List.eraseIdx_cons_zero, List.eraseIdx_cons_succ, List.cons_append, List.nil_append]
    (repeat' (first | refine X.rq ?_ | (refine X.rc ?_ ?_ <;> intro hc <;> first | (exfalso; omega) | skip)))
    refine K.l_callF (vals := [.agg (cIdx t (.slice av (rowN t.cols).length cv)).toArray]) hcal rfl rfl hqx perm_in2 rfl ?_
    rintro u h' H' - ⟨rfl, e, rfl⟩
    obtain rfl := e.symm
    refine K.WL.perm perm_in2.symm ?_
    cases hqt : q t with
    | true =>
      rw [hf1 hqt]
      (repeat' (first | refine X.rq ?_ | (refine X.rc ?_ ?_ <;> intro hc <;> first | (exfalso; omega) | skip)))
      refine X.stw ?_
      simp only [List.set_cons_zero, List.set_cons_succ, List.eraseIdx_cons_zero, List.eraseIdx_cons_succ, List.cons_append, List.nil_append]
      (repeat' (first | refine X.rq ?_ | (refine X.rc ?_ ?_ <;> intro hc <;> first | (exfalso; omega) | skip)))
      refine K.doneC (by first | exact Or.inl rfl | exact Or.inr rfl) (.cell rfl (Fx.agg rfl) (Fx.sz rfl) (by first | exact K.cels_own (pre := []) (post := []) 0 rfl rfl | exact K.cels_own (pre := []) (post := []) 1 rfl rfl | exact K.cels_own (pre := []) (post := []) 2 rfl rfl | exact K.cels_own (pre := []) (post := []) 3 rfl rfl | exact K.cels_own (pre := []) (post := []) 4 rfl rfl | exact K.cels_own (pre := []) (post := []) 5 rfl rfl) (.tmp rfl .nil)) (by first | exact K.Base.le.refl _ | assumption) (vs := [.agg (cIdx t (.slice av (rowN t.cols).length cv)).toArray, .bool true]) (D := [_, _]) (H' := H') rfl ⟨rfl, rfl, _, rfl, _, rfl, hcv⟩
    | false =>
      (repeat' (first | refine X.rq ?_ | (refine X.rc ?_ ?_ <;> intro hc <;> first | (exfalso; omega) | skip)))
      refine K.AT.sel [0] rfl ?_
      refine K.a_round hKL (j + 1) ⟨by omega, hf2 hqt⟩ (by repeat (first | exact K.Sub.nil _ | refine K.Sub.cons rfl ?_)) rfl rfl (by omega)
  · obtain rfl : j = xs.length := by omega
    rw [List.take_length] at hn
    rw [hn]
    (repeat' (first | refine X.rq ?_ | (refine X.rc ?_ ?_ <;> intro hc <;> first | (exfalso; omega) | skip)))
    refine K.l_alloc (Fx.zr rfl) rfl rfl (fun B8 => ?_)
    (repeat' (first | refine X.rq ?_ | (refine X.rc ?_ ?_ <;> intro hc <;> first | (exfalso; omega) | skip)))
    refine X.stw ?_
    simp only [List.set_cons_zero, List.set_cons_succ, List.eraseIdx_cons_zero, List.eraseIdx_cons_succ, List.cons_append, List.nil_append]
    (repeat' (first | refine X.rq ?_ | (refine X.rc ?_ ?_ <;> intro hc <;> first | (exfalso; omega) | skip)))
    refine K.doneC (by first | exact Or.inl rfl | exact Or.inr rfl) (.cell rfl (Fx.agg rfl) (Fx.sz rfl) (by first | exact K.cels_own (pre := []) (post := []) 0 rfl rfl | exact K.cels_own (pre := []) (post := []) 1 rfl rfl | exact K.cels_own (pre := []) (post := []) 2 rfl rfl | exact K.cels_own (pre := []) (post := []) 3 rfl rfl | exact K.cels_own (pre := []) (post := []) 4 rfl rfl | exact K.cels_own (pre := []) (post := []) 5 rfl rfl) (.tmp rfl .nil)) (by first | exact K.Base.le.refl _ | assumption) (vs := [.agg (cIdx zIdx (.slice none 0 0)).toArray, .bool false]) (D := [_, _]) (H' := KK) rfl ⟨rfl, rfl, _, rfl, zIdx_ok h⟩
set_option maxHeartbeats 1000000 in
theorem CloneC (h : Base) (v : Value) (l : List Col) (hv : SL h 3 v (l.map cC)) (hl : l.length ≤ 4398046511104) :
    Tr Tryz.prog 31 [v] h [] (fun u h' H' => h' = h ∧ ∃ a k, u = bufV a l.length k ∧ H' = [bufA 39 3 a l.length k (l.map cC).flatten]) := by
  have hlen : (l.map cC).length = l.length := List.length_map ..
  obtain ⟨ao, ca, rfl⟩ := hv.len
  rw [hlen] at hv ⊢
  refine K.enter Tryz.func31 rfl (Nat.le_of_ble_eq_true rfl) (fun F => ?_)
  simp only [List.nil_append]
  cases ao with
  | none =>
    have hl0 : l = [] := by
      rcases hv with ⟨_, _, e, e2⟩ | ⟨_, _, _, e, _⟩
      · exact List.map_eq_nil_iff.1 e2
      · cases e
    subst hl0
    (repeat' (first | refine X.rq ?_ | (refine X.rc ?_ ?_ <;> intro hc <;> first | (exfalso; omega) | skip)))
    refine K.AT.nilBuf 39 3 ?_
    refine K.done (by first | exact Or.inl rfl | exact Or.inr rfl) rfl (by first | exact K.Base.le.refl _ | assumption) (H' := [bufA 39 3 none 0 0 []]) rfl ⟨rfl, none, 0, rfl, rfl⟩
  | some ad =>
    have hsrc : ∀ KK, Src Tryz.prog h KK 3 (.slice (some ad) l.length ca) l.length (l.map cC).flatten := fun KK => by
      have := K.SL.src (P := Tryz.prog) (K := KK) hv (fun e he => by
        obtain ⟨x, _, rfl⟩ := List.mem_map.1 he
        rfl)
      rwa [hlen] at this
    (repeat' (first | refine X.rq ?_ | (refine X.rc ?_ ?_ <;> intro hc <;> first | (exfalso; omega) | skip)))
    refine K.l_buildSlice (Fx.und rfl) (Fx.sz rfl) rfl (Fx.zr rfl) rfl rfl rfl rfl rfl (fun B => ?_)
    refine K.WL.bufOf (m := 0) (s := 3) rfl (by unfold maxLen; omega) ?_
    (repeat' (first | refine X.rq ?_ | (refine X.rc ?_ ?_ <;> intro hc <;> first | (exfalso; omega) | skip)))
    refine K.l_append_at 0 rfl (Fx.und rfl) (Fx.und rfl) rfl (Fx.sz rfl) (Fx.zr rfl) rfl (Fx.byt rfl) rfl rfl (hsrc _) (by omega) (by omega) rfl (fun a1 cap1 => ?_)
    simp only [List.set_cons_zero, List.set_cons_succ, List.eraseIdx_cons_zero, List.eraseIdx_cons_succ, List.cons_append, List.nil_append]
    rw [Nat.zero_add]
    (repeat' (first | refine X.rq ?_ | (refine X.rc ?_ ?_ <;> intro hc <;> first | (exfalso; omega) | skip)))
    refine K.done (by first | exact Or.inl rfl | exact Or.inr rfl) rfl (by first | exact K.Base.le.refl _ | assumption) (H' := [_]) rfl ⟨rfl, a1, cap1, rfl, rfl⟩
set_option maxHeartbeats 1000000 in
theorem CloneN (h : Base) (v : Value) (l : List Int) (hv : SL h 1 v (rowN l)) (hl : l.length ≤ 17592186044416) :
    Tr Tryz.prog 33 [v] h [] (fun u h' H' => h' = h ∧ ∃ a k, u = bufV a l.length k ∧ H' = [bufA 3 1 a l.length k (rowN l).flatten]) := by
  have hlen : (rowN l).length = l.length := List.length_map ..
  obtain ⟨ao, ca, rfl⟩ := hv.len
  rw [hlen] at hv ⊢
  refine K.enter Tryz.func33 rfl (Nat.le_of_ble_eq_true rfl) (fun F => ?_)
  simp only [List.nil_append]
  cases ao with
  | none =>
    have hl0 : l = [] := by
      rcases hv with ⟨_, _, e, e2⟩ | ⟨_, _, _, e, _⟩
      · exact List.map_eq_nil_iff.1 e2
      · cases e
    subst hl0
    (repeat' (first | refine X.rq ?_ | (refine X.rc ?_ ?_ <;> intro hc <;> first | (exfalso; omega) | skip)))
    refine K.AT.nilBuf 3 1 ?_
    refine K.done (by first | exact Or.inl rfl | exact Or.inr rfl) rfl (by first | exact K.Base.le.refl _ | assumption) (H' := [bufA 3 1 none 0 0 []]) rfl ⟨rfl, none, 0, rfl, rfl⟩
  | some ad =>
    have hsrc : ∀ KK, Src Tryz.prog h KK 1 (.slice (some ad) l.length ca) l.length (rowN l).flatten := fun KK => by
      have := K.SL.src (P := Tryz.prog) (K := KK) hv (fun e he => by
        obtain ⟨x, _, rfl⟩ := List.mem_map.1 he
        rfl)
      rwa [hlen] at this
    (repeat' (first | refine X.rq ?_ | (refine X.rc ?_ ?_ <;> intro hc <;> first | (exfalso; omega) | skip)))
    refine K.l_buildSlice (Fx.und rfl) (Fx.sz rfl) rfl (Fx.zr rfl) rfl rfl rfl rfl rfl (fun B => ?_)
    refine K.WL.bufOf (m := 0) (s := 1) rfl (by unfold maxLen; omega) ?_
    (repeat' (first | refine X.rq ?_ | (refine X.rc ?_ ?_ <;> intro hc <;> first | (exfalso; omega) | skip)))
    refine K.l_append_at 0 rfl (Fx.und rfl) (Fx.und rfl) rfl (Fx.sz rfl) (Fx.zr rfl) rfl (Fx.byt rfl) rfl rfl (hsrc _) (by omega) (by omega) rfl (fun a1 cap1 => ?_)
    simp only [List.set_cons_zero, List.set_cons_succ, List.eraseIdx_cons_zero, List.eraseIdx_cons_succ, List.cons_append, List.nil_append]
    rw [Nat.zero_add]
    (repeat' (first | refine X.rq ?_ | (refine X.rc ?_ ?_ <;> intro hc <;> first | (exfalso; omega) | skip)))
    refine K.done (by first | exact Or.inl rfl | exact Or.inr rfl) rfl (by first | exact K.Base.le.refl _ | assumption) (H' := [_]) rfl ⟨rfl, a1, cap1, rfl, rfl⟩
theorem three (l : List Col) : ∀ e ∈ l.map cC, e.length = 3 := fun e he => by
  obtain ⟨x, _, rfl⟩ := List.mem_map.1 he
  rfl
theorem oneN (l : List Int) : ∀ e ∈ rowN l, e.length = 1 := fun e he => by
  obtain ⟨x, _, rfl⟩ := List.mem_map.1 he
  rfl
set_option maxHeartbeats 1000000 in
theorem OwnTable (h : Base) (t : PTab) (c : List Value) (b : Bool) (hc : TabC h t c) (hl : t.cols.length ≤ 4398046511104) :
    Tr Tryz.prog 65 [.agg c.toArray, .bool b] h [] (fun u h' H' => H' = [] ∧ ∃ v, u = .tuple #[.agg (cTab t v).toArray, .bool b] ∧ SL h' 3 v (t.cols.map cC) ∧ Fsh h h' 3 v) := by
  obtain ⟨v, rfl, hv⟩ := hc
  have hlen : (t.cols.map cC).length = t.cols.length := List.length_map ..
  have hcl := CloneC h v t.cols hv hl
  obtain ⟨av, cv, rfl⟩ := hv.len
  rw [hlen] at hv hcl ⊢
  refine K.enter Tryz.func65 rfl (Nat.le_of_ble_eq_true rfl) (fun F => ?_)
  simp only [List.nil_append, List.cons_append]
  (repeat' (first | refine X.rq ?_ | (refine X.rc ?_ ?_ <;> intro hc <;> first | (exfalso; omega) | skip)))
  refine K.l_box rfl rfl rfl (fun B2 => ?_)
  refine K.l_alloc (Fx.zr rfl) rfl rfl (fun B4 => ?_)
  (repeat' (first | refine X.rq ?_ | (refine X.rc ?_ ?_ <;> intro hc <;> first | (exfalso; omega) | skip)))
  refine K.l_call (Fx.cal rfl) rfl hcl (K.pp [] rfl) rfl ?_
  rintro u h' H' - ⟨e, a, k, rfl, rfl⟩
  obtain rfl := e.symm
  simp only [List.nil_append, List.cons_append]
  (repeat' (first | refine X.rq ?_ | (refine X.rc ?_ ?_ <;> intro hc <;> first | (exfalso; omega) | skip)))
  refine X.sto ?_
  simp only [List.set_cons_zero, List.set_cons_succ, List.eraseIdx_cons_zero, List.eraseIdx_cons_succ, List.cons_append, List.nil_append]
  (repeat' (first | refine X.rq ?_ | (refine X.rc ?_ ?_ <;> intro hc <;> first | (exfalso; omega) | skip)))
  refine X.stw ?_
  simp only [List.set_cons_zero, List.set_cons_succ, List.eraseIdx_cons_zero, List.eraseIdx_cons_succ, List.cons_append, List.nil_append]
  (repeat' (first | refine X.rq ?_ | (refine X.rc ?_ ?_ <;> intro hc <;> first | (exfalso; omega) | skip)))
  rw [← hlen]
  refine K.AT.freezeRowF (three _) (fun h2 le2 hs2 _ hf2 => ?_)
  refine K.doneC (by first | exact Or.inl rfl | exact Or.inr rfl) (.cell rfl (Fx.agg rfl) (Fx.sz rfl) (by first | exact K.cels_own (pre := []) (post := []) 0 rfl rfl | exact K.cels_own (pre := []) (post := []) 1 rfl rfl | exact K.cels_own (pre := []) (post := []) 2 rfl rfl | exact K.cels_own (pre := []) (post := []) 3 rfl rfl | exact K.cels_own (pre := []) (post := []) 4 rfl rfl | exact K.cels_own (pre := []) (post := []) 5 rfl rfl) (.tmp rfl .nil)) (by first | exact K.Base.le.refl _ | assumption) (vs := [.agg (cTab t (bufV a (t.cols.map cC).length k)).toArray, .bool b]) (D := [_, _]) (H' := []) rfl ⟨rfl, _, rfl, hs2, hf2⟩
set_option maxHeartbeats 1000000 in
theorem OwnIndex (h : Base) (t : PIdx) (c : List Value) (b : Bool) (hc : IdxC h t c) (hl : t.cols.length ≤ 17592186044416) :
    Tr Tryz.prog 56 [.agg c.toArray, .bool b] h [] (fun u h' H' => H' = [] ∧ ∃ v, u = .tuple #[.agg (cIdx t v).toArray, .bool b] ∧ SL h' 1 v (rowN t.cols) ∧ Fsh h h' 1 v) := by
  obtain ⟨v, rfl, hv⟩ := hc
  have hlen : (rowN t.cols).length = t.cols.length := List.length_map ..
  have hcl := CloneN h v t.cols hv hl
  obtain ⟨av, cv, rfl⟩ := hv.len
  rw [hlen] at hv hcl ⊢
  refine K.enter Tryz.func56 rfl (Nat.le_of_ble_eq_true rfl) (fun F => ?_)
  simp only [List.nil_append, List.cons_append]
  (repeat' (first | refine X.rq ?_ | (refine X.rc ?_ ?_ <;> intro hc <;> first | (exfalso; omega) | skip)))
  refine K.l_box rfl rfl rfl (fun B2 => ?_)
  refine K.l_alloc (Fx.zr rfl) rfl rfl (fun B4 => ?_)
  (repeat' (first | refine X.rq ?_ | (refine X.rc ?_ ?_ <;> intro hc <;> first | (exfalso; omega) | skip)))
  refine K.l_call (Fx.cal rfl) rfl hcl (K.pp [] rfl) rfl ?_
  rintro u h' H' - ⟨e, a, k, rfl, rfl⟩
  obtain rfl := e.symm
  simp only [List.nil_append, List.cons_append]
  (repeat' (first | refine X.rq ?_ | (refine X.rc ?_ ?_ <;> intro hc <;> first | (exfalso; omega) | skip)))
  refine X.sto ?_
  simp only [List.set_cons_zero, List.set_cons_succ, List.eraseIdx_cons_zero, List.eraseIdx_cons_succ, List.cons_append, List.nil_append]
  (repeat' (first | refine X.rq ?_ | (refine X.rc ?_ ?_ <;> intro hc <;> first | (exfalso; omega) | skip)))
  refine X.stw ?_
  simp only [List.set_cons_zero, List.set_cons_succ, List.eraseIdx_cons_zero, List.eraseIdx_cons_succ, List.cons_append, List.nil_append]
  (repeat' (first | refine X.rq ?_ | (refine X.rc ?_ ?_ <;> intro hc <;> first | (exfalso; omega) | skip)))
  rw [← hlen]
  refine K.AT.freezeRowF (oneN _) (fun h2 le2 hs2 _ hf2 => ?_)
  refine K.doneC (by first | exact Or.inl rfl | exact Or.inr rfl) (.cell rfl (Fx.agg rfl) (Fx.sz rfl) (by first | exact K.cels_own (pre := []) (post := []) 0 rfl rfl | exact K.cels_own (pre := []) (post := []) 1 rfl rfl | exact K.cels_own (pre := []) (post := []) 2 rfl rfl | exact K.cels_own (pre := []) (post := []) 3 rfl rfl | exact K.cels_own (pre := []) (post := []) 4 rfl rfl | exact K.cels_own (pre := []) (post := []) 5 rfl rfl) (.tmp rfl .nil)) (by first | exact K.Base.le.refl _ | assumption) (vs := [.agg (cIdx t (bufV a (rowN t.cols).length k)).toArray, .bool b]) (D := [_, _]) (H' := []) rfl ⟨rfl, _, rfl, hs2, hf2⟩
end Go.Proofs.YtdjacjhojbkgjaaGreat.Ct
