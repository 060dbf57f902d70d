/-
  Whether places may be; whether a schema may be: the document's. Conditions: each theorem's own.
-/
import Derived.Test.YtdjacjhojbkgjaaGreatQ22
namespace Go.Proofs.YtdjacjhojbkgjaaGreat.Ct
open Go Go.K Go.Proofs Go.Proofs.YtdjacjhojbkgjaaGreat Go.Proofs.YtdjacjhojbkgjaaGreat.Rw
set_option linter.unusedVariables false
set_option linter.unusedSimpArgs false
set_option maxRecDepth 10000

theorem not_take {α : Type} {l : List α} {k : Nat} {x y : α} (h : x ∉ l.take k) (hy : l[k]? = some y) (hne : y ≠ x) : x ∉ l.take (k + 1) := by
  obtain ⟨e, _⟩ := take_at hy
  rw [e]
  simp only [List.mem_append, List.mem_singleton, not_or]
  exact ⟨h, fun e => hne e.symm⟩
theorem in_take {α : Type} {l : List α} {k j : Nat} {x y : α} (hk : k < j) (hy : l[k]? = some y) (hne : y = x) : x ∈ l.take j := by
  subst hne
  exact List.mem_of_getElem? (i := k) (by rw [List.getElem?_take, if_pos hk]; exact hy)
set_option maxHeartbeats 4000000 in
theorem RPlaces (h : Base) (n : Nat) (v : Value) (l : List Int) (hn : n ≤ 9223372036854775807) (hv : SL h 1 v (rowN l)) (hl : l.length ≤ 9223372036854775807) :
    TrV Tryz.prog 43 [.int .i64 n, v] h [] (.bool (placesB n l)) [] := by
  have hlen : (rowN l).length = l.length := List.length_map ..
  obtain ⟨ao, ca, rfl⟩ := hv.len
  rw [hlen] at hv ⊢
  refine K.enter Tryz.func43 rfl (Nat.le_of_ble_eq_true rfl) (fun F => ?_)
  simp only [List.nil_append, List.cons_append]
  (repeat' (first | refine X.rq ?_ | (refine X.rc ?_ ?_ <;> intro hc <;> first | (exfalso; omega) | skip)))
  refine K.c_loop (σ := Nat) (fun j => [(0, .int .i64 n), (1, .slice ao l.length ca), (5, .int .i64 j)]) (fun _ => h) (fun _ => F)
    (fun j => j ≤ l.length ∧ PlOk n l j) (fun j => l.length - j) 0 ⟨Nat.zero_le _, fun c hc => by simp at hc, by simp⟩ (by repeat (first | exact K.Sub.nil _ | refine K.Sub.cons rfl ?_)) rfl rfl ?_
  rintro j ⟨hj, hok⟩ KL hKL
  by_cases hjl : j < l.length
  · have hx1 : l[j]? = some l[j] := List.getElem?_eq_getElem hjl
    generalize l[j] = x at hx1
    have hc0 : (rowN l)[((j : Nat) : Int).toNat]? = some [iV x] := by rw [Int.toNat_natCast, rowN, List.getElem?_map, hx1]; rfl
    have hvv := hv
    obtain ⟨bb, oo, rfl, hcx⟩ := hv.at hc0
    have no : ¬ (0 ≤ x ∧ x < n ∧ x ∉ l.take j) → placesB n l = false := PlOk.no hx1
    (repeat' (first | refine X.rq ?_ | (refine X.rc ?_ ?_ <;> intro hc <;> first | (exfalso; omega) | skip)))
    refine K.s_pure (K.p_load (v := .int .i64 x) (Fx.agg rfl) rfl (Cels.up hcx).1) rfl ?_
    by_cases h0 : x < 0
    · rw [no (fun h => by omega)]
      (repeat' (first | refine X.rq ?_ | (refine X.rc ?_ ?_ <;> intro hc <;> first | (exfalso; omega) | skip)))
      all_goals first | (exfalso; omega) | skip
      refine K.done (by first | exact Or.inl rfl | exact Or.inr rfl) rfl (by first | exact K.Base.le.refl _ | assumption) (H' := []) rfl ⟨rfl, rfl, rfl⟩
    by_cases h1 : (n : Int) ≤ x
    · rw [no (fun h => by omega)]
      (repeat' (first | refine X.rq ?_ | (refine X.rc ?_ ?_ <;> intro hc <;> first | (exfalso; omega) | skip)))
      all_goals first | (exfalso; omega) | skip
      refine K.s_pure (K.p_load (v := .int .i64 x) (Fx.agg rfl) rfl (Cels.up hcx).1) rfl ?_
      (repeat' (first | refine X.rq ?_ | (refine X.rc ?_ ?_ <;> intro hc <;> first | (exfalso; omega) | skip)))
      all_goals first | (exfalso; omega) | skip
      refine K.done (by first | exact Or.inl rfl | exact Or.inr rfl) rfl (by first | exact K.Base.le.refl _ | assumption) (H' := []) rfl ⟨rfl, rfl, rfl⟩
    (repeat' (first | refine X.rq ?_ | (refine X.rc ?_ ?_ <;> intro hc <;> first | (exfalso; omega) | skip)))
    all_goals first | (exfalso; omega) | skip
    refine K.s_pure (K.p_load (v := .int .i64 x) (Fx.agg rfl) rfl (Cels.up hcx).1) rfl ?_
    (repeat' (first | refine X.rq ?_ | (refine X.rc ?_ ?_ <;> intro hc <;> first | (exfalso; omega) | skip)))
    all_goals first | (exfalso; omega) | skip
    refine K.c_loop (σ := Nat) (fun k => [(0, .int .i64 n), (1, .slice (some ⟨bb, oo, none⟩) l.length ca), (5, .int .i64 j), (6, .int .i64 k)]) (fun _ => h) (fun _ => F)
      (fun k => k ≤ j ∧ x ∉ l.take k) (fun k => j - k) 0 ⟨Nat.zero_le _, by simp⟩ (by repeat (first | exact K.Sub.nil _ | refine K.Sub.cons rfl ?_)) rfl rfl ?_
    rintro k ⟨hk, hnk⟩ KM hKM
    by_cases hkj : k < j
    · have hy1 : l[k]? = some (l[k]'(by omega)) := List.getElem?_eq_getElem (by omega)
      generalize l[k]'(by omega) = y at hy1
      have hd0 : (rowN l)[((k : Nat) : Int).toNat]? = some [iV y] := by rw [Int.toNat_natCast, rowN, List.getElem?_map, hy1]; rfl
      (repeat' (first | refine X.rq ?_ | (refine X.rc ?_ ?_ <;> intro hc <;> first | (exfalso; omega) | skip)))
      refine X.draw ([]) [] (.pu 0 (.pu 1 (.pu 4 (.pu 5 (.st 2 (.st 3 (.st 6 (.st 7 (.pu 8 .nil))))))))) ?_
      refine K.d_pu rfl (fun _ _ => X.mv) rfl ?_
      refine K.d_pu rfl (fun _ _ => X.mv) rfl ?_
      refine K.d_pu rfl (fun _ _ => X.mv) rfl ?_
      refine K.d_pu rfl (fun _ _ => X.mv) rfl ?_
      refine K.d_stE rfl (K.p_indexL hvv (Fx.und rfl) (Fx.sz rfl) rfl rfl (by omega) hd0) rfl ?_
      rintro v2 ⟨b1, o1, rfl, hcel⟩
      refine K.d_st rfl (K.p_load (v := .int .i64 y) (Fx.agg rfl) rfl (Cels.up hcel).1) rfl ?_
      refine K.d_stE rfl (K.p_indexL hvv (Fx.und rfl) (Fx.sz rfl) rfl rfl (by omega) hc0) rfl ?_
      rintro v3 ⟨b2, o2, rfl, hcel2⟩
      refine K.d_st rfl (K.p_load (v := .int .i64 x) (Fx.agg rfl) rfl (Cels.up hcel2).1) rfl ?_
      refine K.d_pu rfl (fun _ _ => X.beql) rfl ?_
      refine K.d_nil ?_
      by_cases hxy : y = x
      · rw [no (fun h => h.2.2 (in_take hkj hy1 hxy))]
        (repeat' (first | refine X.rq ?_ | (refine X.rc ?_ ?_ <;> intro hc <;> first | (exfalso; omega) | skip)))
        all_goals first | (exfalso; omega) | skip
        refine K.done (by first | exact Or.inl rfl | exact Or.inr rfl) rfl (by first | exact K.Base.le.refl _ | assumption) (H' := []) rfl ⟨rfl, rfl, rfl⟩
      · (repeat' (first | refine X.rq ?_ | (refine X.rc ?_ ?_ <;> intro hc <;> first | (exfalso; omega) | skip)))
        all_goals first | (exfalso; omega) | skip
        refine K.a_round hKM (k + 1) ⟨by omega, not_take hnk hy1 hxy⟩ (by repeat (first | exact K.Sub.nil _ | refine K.Sub.cons rfl ?_)) rfl rfl (by omega)
    · obtain rfl : k = j := by omega
      (repeat' (first | refine X.rq ?_ | (refine X.rc ?_ ?_ <;> intro hc <;> first | (exfalso; omega) | skip)))
      refine K.a_round hKL (k + 1) ⟨by omega, hok.step hx1 (by omega) (by omega) hnk⟩ (by repeat (first | exact K.Sub.nil _ | refine K.Sub.cons rfl ?_)) rfl rfl (by omega)
  · obtain rfl : j = l.length := by omega
    by_cases h0 : 0 < l.length ∧ l.length ≤ 16
    · rw [hok.yes h0.1 h0.2]
      (repeat' (first | refine X.rq ?_ | (refine X.rc ?_ ?_ <;> intro hc <;> first | (exfalso; omega) | skip)))
      all_goals first | (exfalso; omega) | skip
      refine K.done (by first | exact Or.inl rfl | exact Or.inr rfl) rfl (by first | exact K.Base.le.refl _ | assumption) (H' := []) rfl ⟨by show Value.bool _ = _; rw [decide_eq_true (by omega)], rfl, rfl⟩
    · have hno : placesB n l = false := by
        simp only [placesB, Bool.and_eq_false_iff, decide_eq_false_iff_not]
        by_cases h1 : 0 < l.length
        · exact .inr (.inl fun h2 => h0 ⟨h1, h2⟩)
        · exact .inl h1
      rw [hno]
      (repeat' (first | refine X.rq ?_ | (refine X.rc ?_ ?_ <;> intro hc <;> first | (exfalso; omega) | skip)))
      all_goals first | (exfalso; omega) | skip
      all_goals
        refine K.done (by first | exact Or.inl rfl | exact Or.inr rfl) rfl (by first | exact K.Base.le.refl _ | assumption) (H' := []) rfl ⟨by first | rfl | (show Value.bool _ = _; rw [decide_eq_false (by omega)]), rfl, rfl⟩
theorem nodup_no {α : Type} {l : List α} {k j : Nat} {x y : α} (hk : k < j) (hy : l[k]? = some y) (hx : l[j]? = some x) (he : y = x) : ¬ (l.take (j + 1)).Nodup := fun hn => by
  obtain ⟨e, _⟩ := take_at hx
  rw [e, List.nodup_append] at hn
  exact hn.2.2 x (in_take hk hy he) x (by simp) rfl
theorem nodup_yes {α : Type} {l : List α} {j : Nat} {x : α} (hn : (l.take j).Nodup) (hx : l[j]? = some x) (hm : x ∉ l.take j) : (l.take (j + 1)).Nodup := by
  obtain ⟨e, _⟩ := take_at hx
  rw [e]
  exact List.nodup_append.2 ⟨hn, by simp, fun a ha b hb e => hm (by rw [← List.mem_singleton.1 hb, ← e]; exact ha)⟩
theorem tabB_no {l : List PTab} {j k : Nat} {t u : PTab} (hk : k < j) (hu : l[k]? = some u) (hb : ¬ (u.id < t.id ∧ u.name ≠ t.name)) : tabB l j t = false := by
  simp only [tabB, Bool.and_eq_false_iff, decide_eq_false_iff_not]
  exact .inr (.inr (.inr fun h => hb (h u (in_take hk hu rfl))))
theorem idxB_no {s : PSch} {j k : Nat} {t u : PIdx} (hk : k < j) (hu : s.idxs[k]? = some u) (hb : ¬ (u.id < t.id ∧ u.name ≠ t.name)) : idxB s j t = false := by
  simp only [idxB, Bool.and_eq_false_iff, decide_eq_false_iff_not]
  exact .inr (.inr (.inr fun h => hb (h u (in_take hk hu rfl))))
theorem all_take {α : Type} {l : List α} {k : Nat} {y : α} {p : α → Prop} (h : ∀ u ∈ l.take k, p u) (hy : l[k]? = some y) (hp : p y) : ∀ u ∈ l.take (k + 1), p u := fun u hu => by
  obtain ⟨e, _⟩ := take_at hy
  rw [e] at hu
  rcases List.mem_append.1 hu with hu | hu
  · exact h u hu
  · rw [List.mem_singleton.1 hu]; exact hp
theorem may_tab {s : PSch} {j : Nat} {t : PTab} (hx : s.tabs[j]? = some t) (h : tabB s.tabs j t = false) : mayS s = false := by
  simp only [mayS, Bool.and_eq_false_iff]
  exact .inr (.inr (.inr (.inr (.inl (allB_no hx h)))))
theorem may_idx {s : PSch} {j : Nat} {t : PIdx} (hx : s.idxs[j]? = some t) (h : idxB s j t = false) : mayS s = false := by
  simp only [mayS, Bool.and_eq_false_iff]
  exact .inr (.inr (.inr (.inr (.inr (allB_no hx h)))))
set_option maxHeartbeats 4000000 in
theorem RMay (h : Base) (cs : List Value) (s : PSch) (hs : SchC h s cs) (hw : wfS s) :
    Tr Tryz.prog 37 [.agg cs.toArray] h [] (fun u h' H' => H' = [] ∧ u = .bool (mayS s)) := by
  have hs' := hs
  obtain ⟨vt, vi, ts, is, rfl, hvt, ht, hvi, hi⟩ := hs
  obtain ⟨ao, ca, rfl⟩ := hvt.len
  rw [ht.len] at hvt hs' ⊢
  obtain ⟨ai, ci, rfl⟩ := hvi.len
  rw [hi.len] at hvi hs' ⊢
  have hlt := hw.lt
  have hli := hw.li
  refine K.enter Tryz.func37 rfl (Nat.le_of_ble_eq_true rfl) (fun F => ?_)
  simp only [List.nil_append, List.cons_append]
  (repeat' (first | refine X.rq ?_ | (refine X.rc ?_ ?_ <;> intro hc <;> first | (exfalso; omega) | skip)))
  refine K.l_box rfl rfl rfl (fun BS => ?_)
  by_cases hlen : s.tabs.length ≤ 32 ∧ s.idxs.length ≤ 64
  · have hpl : (pagesQ s).length = s.tabs.length + s.idxs.length := by simp [pagesQ]
    have hpm : ((pagesQ s).map fun n => [pgV n]).length = (pagesQ s).length := List.length_map ..
    (repeat' (first | refine X.rq ?_ | (refine X.rc ?_ ?_ <;> intro hc <;> first | (exfalso; omega) | skip)))
    all_goals first | (exfalso; omega) | skip
    refine K.l_call (Fx.cal rfl) rfl (RPages h _ s hs' hw) (K.pp [] rfl) rfl ?_
    rintro u h1 H' hle ⟨rfl, hvp⟩
    obtain ⟨ap, cp, rfl⟩ := hvp.len
    simp only [List.set_cons_zero, List.set_cons_succ, List.eraseIdx_cons_zero, List.eraseIdx_cons_succ, List.cons_append, List.nil_append]
    rw [hpm] at hvp ⊢
    have bad : ∀ (E : Env), mayS s = false → K.lk E 2 = some (.bool false) → ∀ H2, AT Tryz.prog Tryz.f37.ntmps (K.post Tryz.prog Tryz.f37 fun v w' => ∃ h' H', h.le h' ∧ (H' = [] ∧ v = Value.bool (mayS s)) ∧ Ok h' (H' ++ F) w') .ret E h1 (H2 ++ F) := fun E hno hE H2 => by
      rw [hno]
      refine K.AT.drops ?_
      exact K.done (vs := [_]) (.inl rfl) (by show resV E [.tmp 2] = _; simp only [resV, hE]) hle (H' := []) rfl ⟨rfl, rfl⟩
    (repeat' (first | refine X.rq ?_ | (refine X.rc ?_ ?_ <;> intro hc <;> first | (exfalso; omega) | skip)))
    refine K.c_loop (σ := Nat) (fun j => [(1, .pointer (some ⟨BS, 0, none⟩)), (3, .slice ap (pagesQ s).length cp), (4, .int .i64 j)]) (fun _ => h1) (fun _ => blk BS 25 [.slice ao s.tabs.length ca, .slice ai s.idxs.length ci] :: F)
      (fun j => j ≤ (pagesQ s).length ∧ ((pagesQ s).take j).Nodup ∧ 0 ∉ (pagesQ s).take j) (fun j => (pagesQ s).length - j) 0 ⟨Nat.zero_le _, List.nodup_nil, List.not_mem_nil⟩ (by repeat (first | exact K.Sub.nil _ | refine K.Sub.cons rfl ?_)) rfl rfl ?_
    rintro j ⟨hj, hnd, hnz⟩ KL hKL
    by_cases hjl : j < (pagesQ s).length
    · have hx1 : (pagesQ s)[j]? = some (pagesQ s)[j] := List.getElem?_eq_getElem hjl
      generalize (pagesQ s)[j] = x at hx1
      have hc0 : ((pagesQ s).map fun n => [pgV n])[((j : Nat) : Int).toNat]? = some [pgV x] := by rw [Int.toNat_natCast, List.getElem?_map, hx1]; rfl
      have hc1 : ((pagesQ s).map fun n => [pgV n])[j]? = some [pgV x] := by rw [List.getElem?_map, hx1]; rfl
      have hvp0 := hvp
      obtain ⟨bb, oo, rfl, hcx⟩ := hvp.at hc1
      (repeat' (first | refine X.rq ?_ | (refine X.rc ?_ ?_ <;> intro hc <;> first | (exfalso; omega) | skip)))
      refine K.c_loop (σ := Nat) (fun k => [(1, .pointer (some ⟨BS, 0, none⟩)), (3, .slice (some ⟨bb, oo, none⟩) (pagesQ s).length cp), (4, .int .i64 j), (5, .int .i64 k)]) (fun _ => h1) (fun _ => blk BS 25 [.slice ao s.tabs.length ca, .slice ai s.idxs.length ci] :: F)
        (fun k => k ≤ j ∧ x ∉ (pagesQ s).take k) (fun k => j - k) 0 ⟨Nat.zero_le _, List.not_mem_nil⟩ (by repeat (first | exact K.Sub.nil _ | refine K.Sub.cons rfl ?_)) rfl rfl ?_
      rintro k ⟨hk, hnk⟩ KM hKM
      by_cases hkj : k < j
      · have hy1 : (pagesQ s)[k]? = some ((pagesQ s)[k]'(by omega)) := List.getElem?_eq_getElem (by omega)
        generalize (pagesQ s)[k]'(by omega) = y at hy1
        have hd1 : ((pagesQ s).map fun n => [pgV n])[k]? = some [pgV y] := by rw [List.getElem?_map, hy1]; rfl
        have hd0 : ((pagesQ s).map fun n => [pgV n])[((k : Nat) : Int).toNat]? = some [pgV y] := by rw [Int.toNat_natCast]; exact hd1
        (repeat' (first | refine X.rq ?_ | (refine X.rc ?_ ?_ <;> intro hc <;> first | (exfalso; omega) | skip)))
        refine X.draw ([]) [] (.pu 0 (.pu 1 (.pu 4 (.pu 5 (.st 2 (.st 3 (.st 6 (.st 7 (.pu 8 .nil))))))))) ?_ (hQ := by repeat (first | with_reducible refine K.NoPanic.then ?_ | with_reducible refine K.NoPanic.inBlock ?_ | with_reducible exact K.post_noPanic _ _ | exact K.post_noPanic _ _))
        refine K.d_pu rfl (fun _ _ => X.mv) rfl ?_
        refine K.d_pu rfl (fun _ _ => X.mv) rfl ?_
        refine K.d_pu rfl (fun _ _ => X.mv) rfl ?_
        refine K.d_pu rfl (fun _ _ => X.mv) rfl ?_
        refine K.d_stE rfl (K.p_indexL hvp0 (Fx.und rfl) (Fx.sz rfl) rfl rfl (by omega) hd0) rfl ?_
        rintro v2 ⟨b1, o1, rfl, hcel⟩
        refine K.d_st rfl (K.p_load (v := .int .u32 y) (Fx.agg rfl) rfl (Cels.up hcel).1) rfl ?_
        refine K.d_stE rfl (K.p_indexL hvp0 (Fx.und rfl) (Fx.sz rfl) rfl rfl (by omega) hc0) rfl ?_
        rintro v3 ⟨b2, o2, rfl, hcel2⟩
        refine K.d_st rfl (K.p_load (v := .int .u32 x) (Fx.agg rfl) rfl (Cels.up hcel2).1) rfl ?_
        refine K.d_pu rfl (fun _ _ => X.beql) rfl ?_
        refine K.d_nil ?_
        by_cases hxy : y = x
        · (repeat' (first | refine X.rq ?_ | (refine X.rc ?_ ?_ <;> intro hc <;> first | (exfalso; omega) | skip)))
          all_goals first | (exfalso; omega) | skip
          exact bad _ (pages_bad (List.take_prefix (j + 1) _) (fun h => nodup_no hkj hy1 hx1 hxy h.1)) rfl [_]
        · (repeat' (first | refine X.rq ?_ | (refine X.rc ?_ ?_ <;> intro hc <;> first | (exfalso; omega) | skip)))
          all_goals first | (exfalso; omega) | skip
          refine K.a_round hKM (k + 1) ⟨by omega, not_take hnk hy1 hxy⟩ (by repeat (first | exact K.Sub.nil _ | refine K.Sub.cons rfl ?_)) rfl rfl (by omega)
      · obtain rfl : k = j := by omega
        (repeat' (first | refine X.rq ?_ | (refine X.rc ?_ ?_ <;> intro hc <;> first | (exfalso; omega) | skip)))
        refine K.s_pure (K.p_load (v := .int .u32 x) (Fx.agg rfl) rfl (Cels.up hcx).1) rfl ?_
        by_cases hx0 : x = 0
        · (repeat' (first | refine X.rq ?_ | (refine X.rc ?_ ?_ <;> intro hc <;> first | (exfalso; omega) | skip)))
          all_goals first | (exfalso; omega) | skip
          exact bad _ (pages_bad (List.take_prefix (k + 1) _) (fun h => h.2 (in_take (Nat.lt_succ_self k) hx1 hx0))) rfl [_]
        · (repeat' (first | refine X.rq ?_ | (refine X.rc ?_ ?_ <;> intro hc <;> first | (exfalso; omega) | skip)))
          all_goals first | (exfalso; omega) | skip
          refine K.a_round hKL (k + 1) ⟨by omega, nodup_yes hnd hx1 hnk, not_take hnz hx1 hx0⟩ (by repeat (first | exact K.Sub.nil _ | refine K.Sub.cons rfl ?_)) rfl rfl (by omega)
    · obtain rfl : j = (pagesQ s).length := by omega
      rw [List.take_length] at hnd hnz
      (repeat' (first | refine X.rq ?_ | (refine X.rc ?_ ?_ <;> intro hc <;> first | (exfalso; omega) | skip)))
      clear hjl hj hKL KL
      refine K.c_loop (σ := Nat) (fun j => [(1, .pointer (some ⟨BS, 0, none⟩)), (6, .int .i64 j)]) (fun _ => h1) (fun _ => blk BS 25 [.slice ao s.tabs.length ca, .slice ai s.idxs.length ci] :: F)
        (fun j => j ≤ s.tabs.length ∧ ∀ i x, i < j → s.tabs[i]? = some x → tabB s.tabs i x = true) (fun j => s.tabs.length - j) 0 ⟨Nat.zero_le _, fun i x hi => absurd hi (Nat.not_lt_zero _)⟩ (by repeat (first | exact K.Sub.nil _ | refine K.Sub.cons rfl ?_)) rfl rfl ?_
      rintro j ⟨hj, hok⟩ KL hKL
      by_cases hjl : j < s.tabs.length
      · have hx1 : s.tabs[j]? = some s.tabs[j] := List.getElem?_eq_getElem hjl
        have hwt : wfTb s.tabs[j] := hw.tabs _ (List.getElem_mem hjl)
        generalize s.tabs[j] = t at hx1 hwt
        have hno := may_tab hx1
        obtain ⟨q, hc0, v1, rfl, hcv⟩ := ht.get hx1
        have hcv1 := hcv.le hle
        obtain ⟨av, cv, rfl⟩ := hcv.len
        have hvt1 := hvt.le hle
        obtain ⟨bb, oo, rfl, hcx⟩ := hvt1.at hc0
        (repeat' (first | refine X.rq ?_ | (refine X.rc ?_ ?_ <;> intro hc <;> first | (exfalso; omega) | skip)))
        refine K.s_pure (K.p_loadM (Fx.agg rfl) rfl (Cels.up hcx) (Fx.sz rfl) rfl) rfl ?_
        refine K.l_alloc (Fx.zr rfl) rfl rfl (fun BT => ?_)
        refine X.stw ?_
        simp only [List.set_cons_zero, List.set_cons_succ, List.eraseIdx_cons_zero, List.eraseIdx_cons_succ, List.cons_append, List.nil_append]
        by_cases g0 : t.id = 0
        · have hno1 := hno (by simp only [tabB, decide_eq_false (fun e : t.id ≠ 0 => e g0), Bool.false_and])
          (repeat' (first | refine X.rq ?_ | (refine X.rc ?_ ?_ <;> intro hc <;> first | (exfalso; omega) | skip)))
          all_goals first | (exfalso; omega) | skip
          exact bad _ hno1 rfl [_, _]
        (repeat' (first | refine X.rq ?_ | (refine X.rc ?_ ?_ <;> intro hc <;> first | (exfalso; omega) | skip)))
        all_goals first | (exfalso; omega) | skip
        refine K.l_callV (Fx.cal rfl) rfl (RefName h1 t.name hwt.name) (K.pp [] rfl) rfl rfl ?_
        simp only [List.nil_append]
        cases hn : nameB t.name.data.toList with
        | false =>
          have hno1 := hno (by simp only [tabB, hn, Bool.false_and, Bool.and_false])
          (repeat' (first | refine X.rq ?_ | (refine X.rc ?_ ?_ <;> intro hc <;> first | (exfalso; omega) | skip)))
          exact bad _ hno1 rfl [_, _]
        | true =>
          (repeat' (first | refine X.rq ?_ | (refine X.rc ?_ ?_ <;> intro hc <;> first | (exfalso; omega) | skip)))
          refine K.l_callV (Fx.cal rfl) rfl (RefMay h1 _ t.cols hcv1 hwt.cols (Nat.le_trans hwt.len (by decide))) (K.pp [] rfl) rfl rfl ?_
          simp only [List.nil_append]
          cases hmb : mayB t.cols with
          | false =>
            have hno1 := hno (by simp only [tabB, hmb, Bool.false_and, Bool.and_false])
            (repeat' (first | refine X.rq ?_ | (refine X.rc ?_ ?_ <;> intro hc <;> first | (exfalso; omega) | skip)))
            exact bad _ hno1 rfl [_, _]
          | true =>
            (repeat' (first | refine X.rq ?_ | (refine X.rc ?_ ?_ <;> intro hc <;> first | (exfalso; omega) | skip)))
            refine K.c_loop (σ := Nat) (fun k => [(1, .pointer (some ⟨BS, 0, none⟩)), (6, .int .i64 j), (7, .pointer (some ⟨BT, 0, none⟩)), (8, .int .i64 k)]) (fun _ => h1) (fun _ => blk BT 37 (cTab t (.slice av (t.cols.map cC).length cv)) :: blk BS 25 [.slice (some ⟨bb, oo, none⟩) s.tabs.length ca, .slice ai s.idxs.length ci] :: F)
              (fun k => k ≤ j ∧ ∀ u ∈ s.tabs.take k, u.id < t.id ∧ u.name ≠ t.name) (fun k => j - k) 0 ⟨Nat.zero_le _, fun u hu => by simp at hu⟩ (by repeat (first | exact K.Sub.nil _ | refine K.Sub.cons rfl ?_)) rfl rfl ?_
            rintro k ⟨hk, hall⟩ KM hKM
            by_cases hkj : k < j
            · have hy1 : s.tabs[k]? = some (s.tabs[k]'(by omega)) := List.getElem?_eq_getElem (by omega)
              generalize s.tabs[k]'(by omega) = y at hy1
              obtain ⟨d, hd0, v2, rfl, hcv2⟩ := ht.get hy1
              obtain ⟨av2, cv2, rfl⟩ := hcv2.len
              obtain ⟨b2, o2, e2, hcy⟩ := hvt1.at hd0
              cases e2
              (repeat' (first | refine X.rq ?_ | (refine X.rc ?_ ?_ <;> intro hc <;> first | (exfalso; omega) | skip)))
              by_cases hge : t.id ≤ y.id
              · refine X.draw ([blk BT 37 (cTab t (.slice av (t.cols.map cC).length cv)), blk BS 25 [.slice (some ⟨bb, oo, none⟩) s.tabs.length ca, .slice ai s.idxs.length ci]]) [] (.pu 0 (.pu 2 (.pu 6 (.st 1 (.pu 3 (.pu 4 (.st 5 (.st 7 (.pu 8 (.pu 9 (.pu 10 (.pu 12 (.pu 16 (.st 11 (.pu 13 (.pu 14 (.st 15 (.st 17 (.pu 18 (.pu 19 .nil)))))))))))))))))))) ?_ (hQ := by repeat (first | with_reducible refine K.NoPanic.then ?_ | with_reducible refine K.NoPanic.inBlock ?_ | with_reducible exact K.post_noPanic _ _ | exact K.post_noPanic _ _))
                refine K.d_pu rfl (fun _ _ => X.fa) rfl ?_
                refine K.d_pu rfl (fun _ _ => X.mv) rfl ?_
                refine K.d_pu rfl (fun _ _ => X.fa) rfl ?_
                refine K.d_st rfl X.ld rfl ?_
                refine K.d_pu rfl (fun _ _ => X.ia) rfl ?_
                refine K.d_pu rfl (fun _ _ => X.fa) rfl ?_
                refine K.d_st rfl (K.p_load (v := .int .u32 y.id) (Fx.agg rfl) rfl (Cels.up hcy).1) rfl ?_
                refine K.d_st rfl X.ld rfl ?_
                refine K.d_pu rfl (fun _ _ => X.bgeq) rfl ?_
                rw [decide_eq_true (by omega)]
                refine K.d_pu rfl (fun _ _ => X.mv) rfl ?_
                first | refine K.d_skip rfl rfl rfl rfl ?_ | refine K.d_skipU rfl rfl rfl rfl rfl ?_ | refine K.d_puG rfl rfl rfl (fun _ _ => X.fa) rfl ?_
                first | refine K.d_skip rfl rfl rfl rfl ?_ | refine K.d_skipU rfl rfl rfl rfl rfl ?_ | refine K.d_puG rfl rfl rfl (fun _ _ => X.mv) rfl ?_
                first | refine K.d_skip rfl rfl rfl rfl ?_ | refine K.d_skipU rfl rfl rfl rfl rfl ?_ | refine K.d_puG rfl rfl rfl (fun _ _ => X.fa) rfl ?_
                first | refine K.d_skipS rfl rfl rfl rfl ?_ | refine K.d_skipUS rfl rfl rfl rfl rfl ?_ | refine K.d_stG rfl rfl rfl X.ld rfl ?_
                first | refine K.d_skip rfl rfl rfl rfl ?_ | refine K.d_skipU rfl rfl rfl rfl rfl ?_ | refine K.d_puG rfl rfl rfl (fun _ _ => X.ia) rfl ?_
                first | refine K.d_skip rfl rfl rfl rfl ?_ | refine K.d_skipU rfl rfl rfl rfl rfl ?_ | refine K.d_puG rfl rfl rfl (fun _ _ => X.fa) rfl ?_
                first | refine K.d_skipS rfl rfl rfl rfl ?_ | refine K.d_skipUS rfl rfl rfl rfl rfl ?_ | refine K.d_stG rfl rfl rfl X.ld rfl ?_
                first | refine K.d_skipS rfl rfl rfl rfl ?_ | refine K.d_skipUS rfl rfl rfl rfl rfl ?_ | refine K.d_stG rfl rfl rfl X.ld rfl ?_
                first | refine K.d_skip rfl rfl rfl rfl ?_ | refine K.d_skipU rfl rfl rfl rfl rfl ?_ | refine K.d_puG rfl rfl rfl (fun _ _ => X.beql) rfl ?_
                refine K.d_pu rfl (fun _ _ => X.pk) rfl ?_
                refine K.d_nil ?_
                (repeat' (first | refine X.rq ?_ | (refine X.rc ?_ ?_ <;> intro hc <;> first | (exfalso; omega) | skip)))
                exact bad _ (hno (tabB_no hkj hy1 (fun h => by omega))) rfl [_, _]
              · refine X.draw ([blk BT 37 (cTab t (.slice av (t.cols.map cC).length cv)), blk BS 25 [.slice (some ⟨bb, oo, none⟩) s.tabs.length ca, .slice ai s.idxs.length ci]]) [] (.pu 0 (.pu 2 (.pu 6 (.st 1 (.pu 3 (.pu 4 (.st 5 (.st 7 (.pu 8 (.pu 9 (.pu 10 (.pu 12 (.pu 16 (.st 11 (.pu 13 (.pu 14 (.st 15 (.st 17 (.pu 18 (.pu 19 .nil)))))))))))))))))))) ?_ (hQ := by repeat (first | with_reducible refine K.NoPanic.then ?_ | with_reducible refine K.NoPanic.inBlock ?_ | with_reducible exact K.post_noPanic _ _ | exact K.post_noPanic _ _))
                refine K.d_pu rfl (fun _ _ => X.fa) rfl ?_
                refine K.d_pu rfl (fun _ _ => X.mv) rfl ?_
                refine K.d_pu rfl (fun _ _ => X.fa) rfl ?_
                refine K.d_st rfl X.ld rfl ?_
                refine K.d_pu rfl (fun _ _ => X.ia) rfl ?_
                refine K.d_pu rfl (fun _ _ => X.fa) rfl ?_
                refine K.d_st rfl (K.p_load (v := .int .u32 y.id) (Fx.agg rfl) rfl (Cels.up hcy).1) rfl ?_
                refine K.d_st rfl X.ld rfl ?_
                refine K.d_pu rfl (fun _ _ => X.bgeq) rfl ?_
                rw [decide_eq_false (by omega)]
                refine K.d_pu rfl (fun _ _ => X.mv) rfl ?_
                first | refine K.d_skip rfl rfl rfl rfl ?_ | refine K.d_skipU rfl rfl rfl rfl rfl ?_ | refine K.d_puG rfl rfl rfl (fun _ _ => X.fa) rfl ?_
                first | refine K.d_skip rfl rfl rfl rfl ?_ | refine K.d_skipU rfl rfl rfl rfl rfl ?_ | refine K.d_puG rfl rfl rfl (fun _ _ => X.mv) rfl ?_
                first | refine K.d_skip rfl rfl rfl rfl ?_ | refine K.d_skipU rfl rfl rfl rfl rfl ?_ | refine K.d_puG rfl rfl rfl (fun _ _ => X.fa) rfl ?_
                first | refine K.d_skipS rfl rfl rfl rfl ?_ | refine K.d_skipUS rfl rfl rfl rfl rfl ?_ | refine K.d_stG rfl rfl rfl X.ld rfl ?_
                first | refine K.d_skip rfl rfl rfl rfl ?_ | refine K.d_skipU rfl rfl rfl rfl rfl ?_ | refine K.d_puG rfl rfl rfl (fun _ _ => X.ia) rfl ?_
                first | refine K.d_skip rfl rfl rfl rfl ?_ | refine K.d_skipU rfl rfl rfl rfl rfl ?_ | refine K.d_puG rfl rfl rfl (fun _ _ => X.fa) rfl ?_
                refine K.d_stG rfl rfl rfl (K.p_load (v := .string y.name) (Fx.agg rfl) rfl (Cels.up hcy).2.1) rfl ?_
                first | refine K.d_skipS rfl rfl rfl rfl ?_ | refine K.d_skipUS rfl rfl rfl rfl rfl ?_ | refine K.d_stG rfl rfl rfl X.ld rfl ?_
                first | refine K.d_skip rfl rfl rfl rfl ?_ | refine K.d_skipU rfl rfl rfl rfl rfl ?_ | refine K.d_puG rfl rfl rfl (fun _ _ => X.beql) rfl ?_
                generalize hdd : decide (y.name = t.name) = bq
                refine K.d_pu rfl (fun _ _ => X.pk) rfl ?_
                refine K.d_nil ?_
                cases bq with
                | true =>
                  (repeat' (first | refine X.rq ?_ | (refine X.rc ?_ ?_ <;> intro hc <;> first | (exfalso; omega) | skip)))
                  exact bad _ (hno (tabB_no hkj hy1 (fun h => h.2 (of_decide_eq_true hdd)))) rfl [_, _]
                | false =>
                  (repeat' (first | refine X.rq ?_ | (refine X.rc ?_ ?_ <;> intro hc <;> first | (exfalso; omega) | skip)))
                  refine K.a_round hKM (k + 1) ⟨by omega, all_take hall hy1 ⟨by omega, of_decide_eq_false hdd⟩⟩ (by repeat (first | exact K.Sub.nil _ | refine K.Sub.cons rfl ?_)) rfl rfl (by omega)
            · obtain rfl : k = j := by omega
              (repeat' (first | refine X.rq ?_ | (refine X.rc ?_ ?_ <;> intro hc <;> first | (exfalso; omega) | skip)))
              refine K.AT.sel [0] rfl ?_
              refine K.a_round hKL (k + 1) ⟨by omega, fun i x hi hx => ?_⟩ (by repeat (first | exact K.Sub.nil _ | refine K.Sub.cons rfl ?_)) rfl rfl (by omega)
              by_cases hij : i < k
              · exact hok i x hij hx
              · obtain rfl : i = k := by omega
                rw [hx1] at hx
                cases hx
                rw [tabB, hn, hmb, decide_eq_true g0, decide_eq_true hall]
                rfl
      · obtain rfl : j = s.tabs.length := by omega
        have htabs : allB (tabB s.tabs) s.tabs = true := allB_iff.2 fun i x hx => hok i x (List.getElem?_eq_some_iff.1 hx).1 hx
        (repeat' (first | refine X.rq ?_ | (refine X.rc ?_ ?_ <;> intro hc <;> first | (exfalso; omega) | skip)))
        clear hjl hj hKL KL hok
        refine K.c_loop (σ := Nat) (fun j => [(1, .pointer (some ⟨BS, 0, none⟩)), (9, .int .i64 j)]) (fun _ => h1) (fun _ => blk BS 25 [.slice ao s.tabs.length ca, .slice ai s.idxs.length ci] :: F)
          (fun j => j ≤ s.idxs.length ∧ ∀ i x, i < j → s.idxs[i]? = some x → idxB s i x = true) (fun j => s.idxs.length - j) 0 ⟨Nat.zero_le _, fun i x hi => absurd hi (Nat.not_lt_zero _)⟩ (by repeat (first | exact K.Sub.nil _ | refine K.Sub.cons rfl ?_)) rfl rfl ?_
        rintro j ⟨hj, hok⟩ KL hKL
        by_cases hjl : j < s.idxs.length
        · have hx1 : s.idxs[j]? = some s.idxs[j] := List.getElem?_eq_getElem hjl
          have hwt : wfIx s.idxs[j] := hw.idxs _ (List.getElem_mem hjl)
          generalize s.idxs[j] = x at hx1 hwt
          have hno := may_idx hx1
          obtain ⟨q, hc0, v1, rfl, hcv⟩ := hi.get hx1
          have hcv1 := hcv.le hle
          have hlx : (rowN x.cols).length = x.cols.length := List.length_map ..
          obtain ⟨av, cv, rfl⟩ := hcv.len
          have hvi1 := hvi.le hle
          obtain ⟨bb, oo, rfl, hcx⟩ := hvi1.at hc0
          have hplc : plcB s x = match s.tabs.find? (fun t => decide (t.id = x.table)) with
            | some t => placesB t.cols.length x.cols
            | none => false := rfl
          have hmem : ∀ t, s.tabs.find? (fun t => decide (t.id = x.table)) = some t → t.cols.length ≤ 4398046511104 := fun t ht => (hw.tabs t (List.mem_of_find?_eq_some ht)).len
          have hrt := RTable h1 _ s x.table (hs'.le hle) hw
          generalize s.tabs.find? (fun t => decide (t.id = x.table)) = o at hplc hmem hrt
          (repeat' (first | refine X.rq ?_ | (refine X.rc ?_ ?_ <;> intro hc <;> first | (exfalso; omega) | skip)))
          refine K.s_pure (K.p_loadM (Fx.agg rfl) rfl (Cels.up hcx) (Fx.sz rfl) rfl) rfl ?_
          refine K.l_alloc (Fx.zr rfl) rfl rfl (fun BX => ?_)
          refine X.stw ?_
          simp only [List.set_cons_zero, List.set_cons_succ, List.eraseIdx_cons_zero, List.eraseIdx_cons_succ, List.cons_append, List.nil_append]
          (repeat' (first | refine X.rq ?_ | (refine X.rc ?_ ?_ <;> intro hc <;> first | (exfalso; omega) | skip)))
          refine K.l_call (Fx.cal rfl) rfl hrt (K.pp [] rfl) rfl ?_
          rintro u h2 H' - ⟨e, rfl, cc, rfl, hcc⟩
          obtain rfl := e.symm
          simp only [List.set_cons_zero, List.set_cons_succ, List.eraseIdx_cons_zero, List.eraseIdx_cons_succ, List.cons_append, List.nil_append]
          obtain ⟨v3, rfl, hv3⟩ := hcc
          obtain ⟨av3, cv3, rfl⟩ := hv3.len
          (repeat' (first | refine X.rq ?_ | (refine X.rc ?_ ?_ <;> intro hc <;> first | (exfalso; omega) | skip)))
          refine K.l_alloc (Fx.zr rfl) rfl rfl (fun BT => ?_)
          refine X.stw ?_
          simp only [List.set_cons_zero, List.set_cons_succ, List.eraseIdx_cons_zero, List.eraseIdx_cons_succ, List.cons_append, List.nil_append]
          by_cases g0 : x.id = 0
          · have hno1 := hno (by simp only [idxB, decide_eq_false (fun e : x.id ≠ 0 => e g0), Bool.false_and])
            (repeat' (first | refine X.rq ?_ | (refine X.rc ?_ ?_ <;> intro hc <;> first | (exfalso; omega) | skip)))
            all_goals first | (exfalso; omega) | skip
            exact bad _ hno1 rfl [_, _, _]
          have hz0 : decide (x.id ≠ 0) = true := decide_eq_true g0
          (repeat' (first | refine X.rq ?_ | (refine X.rc ?_ ?_ <;> intro hc <;> first | (exfalso; omega) | skip)))
          all_goals first | (exfalso; omega) | skip
          refine K.l_callV (Fx.cal rfl) rfl (RefName h1 x.name hwt.name) (K.pp [] rfl) rfl rfl ?_
          simp only [List.nil_append]
          cases hn : nameB x.name.data.toList with
          | false =>
            have hno1 := hno (by simp only [idxB, hn, Bool.false_and, Bool.and_false])
            (repeat' (first | refine X.rq ?_ | (refine X.rc ?_ ?_ <;> intro hc <;> first | (exfalso; omega) | skip)))
            exact bad _ hno1 rfl [_, _, _]
          | true =>
            cases o with
            | none =>
              have hpf : plcB s x = false := hplc
              have hno1 := hno (by simp only [idxB, hpf, Bool.false_and, Bool.and_false])
              simp only [Option.isSome_none]
              (repeat' (first | refine X.rq ?_ | (refine X.rc ?_ ?_ <;> intro hc <;> first | (exfalso; omega) | skip)))
              exact bad _ hno1 rfl [_, _, _]
            | some t =>
              have hpt : plcB s x = placesB t.cols.length x.cols := hplc
              simp only [Option.isSome_some, Option.getD_some]
              have hlc : (t.cols.map cC).length = t.cols.length := List.length_map ..
              have hmt := hmem t rfl
              have hpls : TrV Tryz.prog 43 [.int .i64 ((t.cols.map cC).length : Nat), .slice av (rowN x.cols).length cv] h1 [] (.bool (placesB t.cols.length x.cols)) [] := by
                rw [hlc]
                exact RPlaces h1 t.cols.length _ x.cols (by omega) hcv1 (Nat.le_trans hwt.len (by decide))
              (repeat' (first | refine X.rq ?_ | (refine X.rc ?_ ?_ <;> intro hc <;> first | (exfalso; omega) | skip)))
              refine K.l_callV (Fx.cal rfl) rfl hpls (K.pp [] rfl) rfl rfl ?_
              simp only [List.nil_append]
              cases hpb : placesB t.cols.length x.cols with
              | false =>
                rw [hpb] at hpt
                have hno1 := hno (by simp only [idxB, hpt, Bool.false_and, Bool.and_false])
                (repeat' (first | refine X.rq ?_ | (refine X.rc ?_ ?_ <;> intro hc <;> first | (exfalso; omega) | skip)))
                exact bad _ hno1 rfl [_, _, _]
              | true =>
                rw [hpb] at hpt
                (repeat' (first | refine X.rq ?_ | (refine X.rc ?_ ?_ <;> intro hc <;> first | (exfalso; omega) | skip)))
                refine K.WC.drop ?_
                refine K.c_loop (σ := Nat) (fun k => [(1, .pointer (some ⟨BS, 0, none⟩)), (9, .int .i64 j), (10, .pointer (some ⟨BX, 0, none⟩)), (13, .int .i64 k)]) (fun _ => h1) (fun _ => blk BX 43 (cIdx x (.slice av (rowN x.cols).length cv)) :: blk BS 25 [.slice ao s.tabs.length ca, .slice (some ⟨bb, oo, none⟩) s.idxs.length ci] :: F)
                  (fun k => k ≤ j ∧ ∀ u ∈ s.idxs.take k, u.id < x.id ∧ u.name ≠ x.name) (fun k => j - k) 0 ⟨Nat.zero_le _, fun u hu => by simp at hu⟩ (by repeat (first | exact K.Sub.nil _ | refine K.Sub.cons rfl ?_)) rfl rfl ?_
                rintro k ⟨hk, hall⟩ KM hKM
                by_cases hkj : k < j
                · have hy1 : s.idxs[k]? = some (s.idxs[k]'(by omega)) := List.getElem?_eq_getElem (by omega)
                  generalize s.idxs[k]'(by omega) = y at hy1
                  obtain ⟨d, hd0, v2, rfl, hcv2⟩ := hi.get hy1
                  obtain ⟨av2, cv2, rfl⟩ := hcv2.len
                  obtain ⟨b2, o2, e2, hcy⟩ := hvi1.at hd0
                  cases e2
                  (repeat' (first | refine X.rq ?_ | (refine X.rc ?_ ?_ <;> intro hc <;> first | (exfalso; omega) | skip)))
                  by_cases hge : x.id ≤ y.id
                  · refine X.draw ([blk BX 43 (cIdx x (.slice av (rowN x.cols).length cv)), blk BS 25 [.slice ao s.tabs.length ca, .slice (some ⟨bb, oo, none⟩) s.idxs.length ci]]) [] (.pu 0 (.pu 2 (.pu 6 (.st 1 (.pu 3 (.pu 4 (.st 5 (.st 7 (.pu 8 (.pu 9 (.pu 10 (.pu 12 (.pu 16 (.st 11 (.pu 13 (.pu 14 (.st 15 (.st 17 (.pu 18 (.pu 19 .nil)))))))))))))))))))) ?_ (hQ := by repeat (first | with_reducible refine K.NoPanic.then ?_ | with_reducible refine K.NoPanic.inBlock ?_ | with_reducible exact K.post_noPanic _ _ | exact K.post_noPanic _ _))
                    refine K.d_pu rfl (fun _ _ => X.fa) rfl ?_
                    refine K.d_pu rfl (fun _ _ => X.mv) rfl ?_
                    refine K.d_pu rfl (fun _ _ => X.fa) rfl ?_
                    refine K.d_st rfl X.ld rfl ?_
                    refine K.d_pu rfl (fun _ _ => X.ia) rfl ?_
                    refine K.d_pu rfl (fun _ _ => X.fa) rfl ?_
                    refine K.d_st rfl (K.p_load (v := .int .u32 y.id) (Fx.agg rfl) rfl (Cels.up hcy).1) rfl ?_
                    refine K.d_st rfl X.ld rfl ?_
                    refine K.d_pu rfl (fun _ _ => X.bgeq) rfl ?_
                    rw [decide_eq_true (by omega)]
                    refine K.d_pu rfl (fun _ _ => X.mv) rfl ?_
                    first | refine K.d_skip rfl rfl rfl rfl ?_ | refine K.d_skipU rfl rfl rfl rfl rfl ?_ | refine K.d_puG rfl rfl rfl (fun _ _ => X.fa) rfl ?_
                    first | refine K.d_skip rfl rfl rfl rfl ?_ | refine K.d_skipU rfl rfl rfl rfl rfl ?_ | refine K.d_puG rfl rfl rfl (fun _ _ => X.mv) rfl ?_
                    first | refine K.d_skip rfl rfl rfl rfl ?_ | refine K.d_skipU rfl rfl rfl rfl rfl ?_ | refine K.d_puG rfl rfl rfl (fun _ _ => X.fa) rfl ?_
                    first | refine K.d_skipS rfl rfl rfl rfl ?_ | refine K.d_skipUS rfl rfl rfl rfl rfl ?_ | refine K.d_stG rfl rfl rfl X.ld rfl ?_
                    first | refine K.d_skip rfl rfl rfl rfl ?_ | refine K.d_skipU rfl rfl rfl rfl rfl ?_ | refine K.d_puG rfl rfl rfl (fun _ _ => X.ia) rfl ?_
                    first | refine K.d_skip rfl rfl rfl rfl ?_ | refine K.d_skipU rfl rfl rfl rfl rfl ?_ | refine K.d_puG rfl rfl rfl (fun _ _ => X.fa) rfl ?_
                    first | refine K.d_skipS rfl rfl rfl rfl ?_ | refine K.d_skipUS rfl rfl rfl rfl rfl ?_ | refine K.d_stG rfl rfl rfl X.ld rfl ?_
                    first | refine K.d_skipS rfl rfl rfl rfl ?_ | refine K.d_skipUS rfl rfl rfl rfl rfl ?_ | refine K.d_stG rfl rfl rfl X.ld rfl ?_
                    first | refine K.d_skip rfl rfl rfl rfl ?_ | refine K.d_skipU rfl rfl rfl rfl rfl ?_ | refine K.d_puG rfl rfl rfl (fun _ _ => X.beql) rfl ?_
                    refine K.d_pu rfl (fun _ _ => X.pk) rfl ?_
                    refine K.d_nil ?_
                    (repeat' (first | refine X.rq ?_ | (refine X.rc ?_ ?_ <;> intro hc <;> first | (exfalso; omega) | skip)))
                    exact bad _ (hno (idxB_no hkj hy1 (fun h => by omega))) rfl [_, _]
                  · refine X.draw ([blk BX 43 (cIdx x (.slice av (rowN x.cols).length cv)), blk BS 25 [.slice ao s.tabs.length ca, .slice (some ⟨bb, oo, none⟩) s.idxs.length ci]]) [] (.pu 0 (.pu 2 (.pu 6 (.st 1 (.pu 3 (.pu 4 (.st 5 (.st 7 (.pu 8 (.pu 9 (.pu 10 (.pu 12 (.pu 16 (.st 11 (.pu 13 (.pu 14 (.st 15 (.st 17 (.pu 18 (.pu 19 .nil)))))))))))))))))))) ?_ (hQ := by repeat (first | with_reducible refine K.NoPanic.then ?_ | with_reducible refine K.NoPanic.inBlock ?_ | with_reducible exact K.post_noPanic _ _ | exact K.post_noPanic _ _))
                    refine K.d_pu rfl (fun _ _ => X.fa) rfl ?_
                    refine K.d_pu rfl (fun _ _ => X.mv) rfl ?_
                    refine K.d_pu rfl (fun _ _ => X.fa) rfl ?_
                    refine K.d_st rfl X.ld rfl ?_
                    refine K.d_pu rfl (fun _ _ => X.ia) rfl ?_
                    refine K.d_pu rfl (fun _ _ => X.fa) rfl ?_
                    refine K.d_st rfl (K.p_load (v := .int .u32 y.id) (Fx.agg rfl) rfl (Cels.up hcy).1) rfl ?_
                    refine K.d_st rfl X.ld rfl ?_
                    refine K.d_pu rfl (fun _ _ => X.bgeq) rfl ?_
                    rw [decide_eq_false (by omega)]
                    refine K.d_pu rfl (fun _ _ => X.mv) rfl ?_
                    first | refine K.d_skip rfl rfl rfl rfl ?_ | refine K.d_skipU rfl rfl rfl rfl rfl ?_ | refine K.d_puG rfl rfl rfl (fun _ _ => X.fa) rfl ?_
                    first | refine K.d_skip rfl rfl rfl rfl ?_ | refine K.d_skipU rfl rfl rfl rfl rfl ?_ | refine K.d_puG rfl rfl rfl (fun _ _ => X.mv) rfl ?_
                    first | refine K.d_skip rfl rfl rfl rfl ?_ | refine K.d_skipU rfl rfl rfl rfl rfl ?_ | refine K.d_puG rfl rfl rfl (fun _ _ => X.fa) rfl ?_
                    first | refine K.d_skipS rfl rfl rfl rfl ?_ | refine K.d_skipUS rfl rfl rfl rfl rfl ?_ | refine K.d_stG rfl rfl rfl X.ld rfl ?_
                    first | refine K.d_skip rfl rfl rfl rfl ?_ | refine K.d_skipU rfl rfl rfl rfl rfl ?_ | refine K.d_puG rfl rfl rfl (fun _ _ => X.ia) rfl ?_
                    first | refine K.d_skip rfl rfl rfl rfl ?_ | refine K.d_skipU rfl rfl rfl rfl rfl ?_ | refine K.d_puG rfl rfl rfl (fun _ _ => X.fa) rfl ?_
                    refine K.d_stG rfl rfl rfl (K.p_load (v := .string y.name) (Fx.agg rfl) rfl (Cels.up hcy).2.2.1) rfl ?_
                    first | refine K.d_skipS rfl rfl rfl rfl ?_ | refine K.d_skipUS rfl rfl rfl rfl rfl ?_ | refine K.d_stG rfl rfl rfl X.ld rfl ?_
                    first | refine K.d_skip rfl rfl rfl rfl ?_ | refine K.d_skipU rfl rfl rfl rfl rfl ?_ | refine K.d_puG rfl rfl rfl (fun _ _ => X.beql) rfl ?_
                    generalize hdd : decide (y.name = x.name) = bq
                    refine K.d_pu rfl (fun _ _ => X.pk) rfl ?_
                    refine K.d_nil ?_
                    cases bq with
                    | true =>
                      (repeat' (first | refine X.rq ?_ | (refine X.rc ?_ ?_ <;> intro hc <;> first | (exfalso; omega) | skip)))
                      exact bad _ (hno (idxB_no hkj hy1 (fun h => h.2 (of_decide_eq_true hdd)))) rfl [_, _]
                    | false =>
                      (repeat' (first | refine X.rq ?_ | (refine X.rc ?_ ?_ <;> intro hc <;> first | (exfalso; omega) | skip)))
                      refine K.a_round hKM (k + 1) ⟨by omega, all_take hall hy1 ⟨by omega, of_decide_eq_false hdd⟩⟩ (by repeat (first | exact K.Sub.nil _ | refine K.Sub.cons rfl ?_)) rfl rfl (by omega)
                · obtain rfl : k = j := by omega
                  (repeat' (first | refine X.rq ?_ | (refine X.rc ?_ ?_ <;> intro hc <;> first | (exfalso; omega) | skip)))
                  refine K.AT.sel [0] rfl ?_
                  refine K.a_round hKL (k + 1) ⟨by omega, fun i y hi hy => ?_⟩ (by repeat (first | exact K.Sub.nil _ | refine K.Sub.cons rfl ?_)) rfl rfl (by omega)
                  by_cases hij : i < k
                  · exact hok i y hij hy
                  · obtain rfl : i = k := by omega
                    rw [hx1] at hy
                    cases hy
                    rw [idxB, hn, hpt, hz0, decide_eq_true hall]
                    rfl
        · obtain rfl : j = s.idxs.length := by omega
          have hidx : allB (idxB s) s.idxs = true := allB_iff.2 fun i x hx => hok i x (List.getElem?_eq_some_iff.1 hx).1 hx
          have hyes : mayS s = true := by
            simp only [mayS, Bool.and_eq_true, decide_eq_true_eq]
            exact ⟨hlen.1, hlen.2, hnd, hnz, htabs, hidx⟩
          rw [hyes]
          (repeat' (first | refine X.rq ?_ | (refine X.rc ?_ ?_ <;> intro hc <;> first | (exfalso; omega) | skip)))
          refine K.AT.sel [0] rfl ?_
          refine K.done (by first | exact Or.inl rfl | exact Or.inr rfl) rfl (by first | exact K.Base.le.refl _ | assumption) (H' := []) rfl ⟨rfl, rfl⟩
  · have hno : mayS s = false := by
      simp only [mayS, Bool.and_eq_false_iff, decide_eq_false_iff_not]
      by_cases h1 : s.tabs.length ≤ 32
      · exact .inr (.inl fun h2 => hlen ⟨h1, h2⟩)
      · exact .inl h1
    rw [hno]
    (repeat' (first | refine X.rq ?_ | (refine X.rc ?_ ?_ <;> intro hc <;> first | (exfalso; omega) | skip)))
    all_goals first | (exfalso; omega) | skip
    all_goals
      refine K.AT.sel [0] rfl ?_
      refine K.done (by first | exact Or.inl rfl | exact Or.inr rfl) rfl (by first | exact K.Base.le.refl _ | assumption) (H' := []) rfl ⟨rfl, rfl⟩
end Go.Proofs.YtdjacjhojbkgjaaGreat.Ct
