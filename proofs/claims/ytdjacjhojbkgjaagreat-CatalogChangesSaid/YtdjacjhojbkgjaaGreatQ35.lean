/-
  A change's answer, in plain Lean: a schema that may be stays one; what was added and is dropped again gives the schema that was. Conditions: each theorem's own.
-/
import Derived.Test.YtdjacjhojbkgjaaGreatQ34
namespace Go.Proofs.YtdjacjhojbkgjaaGreat.Ct
open Go Go.K Go.Proofs Go.Proofs.YtdjacjhojbkgjaaGreat Go.Proofs.YtdjacjhojbkgjaaGreat.Rw
set_option linter.unusedVariables false
set_option linter.unusedSimpArgs false
set_option maxRecDepth 10000

theorem pairR {α : Type} {R : α → α → Prop} {l : List α} : (∀ (j : Nat) (x : α), l[j]? = some x → ∀ u ∈ l.take j, R u x) ↔ l.Pairwise R := by
  rw [List.pairwise_iff_getElem]
  constructor
  · intro h i j hi hj hij
    exact h j _ (List.getElem?_eq_getElem hj) _ (in_take hij (List.getElem?_eq_getElem hi) rfl)
  · intro h j x hj u hu
    obtain ⟨i, hi⟩ := List.mem_iff_getElem?.1 hu
    rw [List.getElem?_take] at hi
    split at hi
    · rename_i hij
      obtain ⟨hi1, rfl⟩ := List.getElem?_eq_some_iff.1 hi
      obtain ⟨hj1, rfl⟩ := List.getElem?_eq_some_iff.1 hj
      exact h i j _ _ hij
    · cases hi
structure Full (s : PSch) : Prop where
  lt : s.tabs.length ≤ 32
  li : s.idxs.length ≤ 64
  pn : (pagesQ s).Nodup
  p0 : 0 ∉ pagesQ s
  t0 : ∀ t ∈ s.tabs, t.id ≠ 0 ∧ nameB t.name.data.toList = true ∧ mayB t.cols = true
  tp : s.tabs.Pairwise fun a b => a.id < b.id ∧ a.name ≠ b.name
  x0 : ∀ x ∈ s.idxs, x.id ≠ 0 ∧ nameB x.name.data.toList = true ∧ plcB s x = true
  xp : s.idxs.Pairwise fun a b => a.id < b.id ∧ a.name ≠ b.name
theorem full_iff {s : PSch} : mayS s = true ↔ Full s := by
  simp only [mayS, Bool.and_eq_true, decide_eq_true_eq, allB_iff, tabB, idxB]
  constructor
  · rintro ⟨h1, h2, h3, h4, h5, h6⟩
    refine ⟨h1, h2, h3, h4, fun t ht => ?_, pairR.1 fun j x hj u hu => (h5 j x hj).2.2.2 u hu, fun t ht => ?_, pairR.1 fun j x hj u hu => (h6 j x hj).2.2.2 u hu⟩
    · obtain ⟨j, hj⟩ := List.mem_iff_getElem?.1 ht
      have := h5 j t hj
      exact ⟨this.1, this.2.1, this.2.2.1⟩
    · obtain ⟨j, hj⟩ := List.mem_iff_getElem?.1 ht
      have := h6 j t hj
      exact ⟨this.1, this.2.1, this.2.2.1⟩
  · intro h
    refine ⟨h.lt, h.li, h.pn, h.p0, fun j t hj => ?_, fun j t hj => ?_⟩
    · obtain ⟨h1, h2, h3⟩ := h.t0 t (List.mem_of_getElem? hj)
      exact ⟨h1, h2, h3, pairR.2 h.tp j t hj⟩
    · obtain ⟨h1, h2, h3⟩ := h.x0 t (List.mem_of_getElem? hj)
      exact ⟨h1, h2, h3, pairR.2 h.xp j t hj⟩
theorem nil_or_last {α : Type} (l : List α) : l = [] ∨ ∃ ys a, l = ys ++ [a] := by
  rcases List.eq_nil_or_concat l with h | ⟨ys, a, h⟩
  · exact .inl h
  · exact .inr ⟨ys, a, by rw [h]; try exact List.concat_eq_append ..⟩
theorem lastT_max {l : List PTab} (h : l.Pairwise fun a b => a.id < b.id ∧ a.name ≠ b.name) {t : PTab} (ht : t ∈ l) : t.id ≤ lastT l := by
  rcases nil_or_last l with rfl | ⟨ys, a, rfl⟩
  · cases ht
  · rw [lastT, List.getLast?_append, List.getLast?_singleton]
    show t.id ≤ a.id
    rcases List.mem_append.1 ht with ht | ht
    · have := ((List.pairwise_append.1 h).2.2 t ht a (by simp)).1
      omega
    · obtain rfl : t = a := by simpa using ht
      exact Nat.le_refl _
theorem lastX_max {l : List PIdx} (h : l.Pairwise fun a b => a.id < b.id ∧ a.name ≠ b.name) {t : PIdx} (ht : t ∈ l) : t.id ≤ lastX l := by
  rcases nil_or_last l with rfl | ⟨ys, a, rfl⟩
  · cases ht
  · rw [lastX, List.getLast?_append, List.getLast?_singleton]
    show t.id ≤ a.id
    rcases List.mem_append.1 ht with ht | ht
    · have := ((List.pairwise_append.1 h).2.2 t ht a (by simp)).1
      omega
    · obtain rfl : t = a := by simpa using ht
      exact Nat.le_refl _
theorem find_no {α : Type} {p : α → Bool} {l : List α} (h : (l.find? p).isSome = false) : ∀ t ∈ l, p t = false := fun t ht => by
  cases hp : p t with
  | false => rfl
  | true => rw [List.find?_isSome.2 ⟨t, ht, hp⟩] at h; cases h
theorem find_last {α : Type} {p : α → Bool} {l : List α} {t : α} (h : ∀ u ∈ l, p u = false) (ht : p t = true) : (l ++ [t]).find? p = some t := by
  rw [List.find?_append, List.find?_eq_none.2 fun u hu => by rw [h u hu]; decide, List.find?_cons_of_pos ht]
  rfl
theorem plcB_more {s : PSch} {t : PTab} {l : List PIdx} {x : PIdx} (h : plcB s x = true) : plcB ⟨s.tabs ++ [t], l⟩ x = true := by
  rw [plcB] at h ⊢
  cases ho : s.tabs.find? (fun t => decide (t.id = x.table)) with
  | none => rw [ho] at h; cases h
  | some u =>
    rw [ho] at h
    show (match (s.tabs ++ [t]).find? (fun t => decide (t.id = x.table)) with
      | some t => placesB t.cols.length x.cols
      | none => false) = true
    rw [List.find?_append, ho]
    exact h
theorem plcB_in {s : PSch} {x : PIdx} (h : plcB s x = true) : ∃ t ∈ s.tabs, t.id = x.table := by
  rw [plcB] at h
  cases ho : s.tabs.find? (fun t => decide (t.id = x.table)) with
  | none => rw [ho] at h; cases h
  | some u => exact ⟨u, List.mem_of_find?_eq_some ho, by simpa using List.find?_some ho⟩
theorem addTab_bad {s : PSch} {name : ByteArray} {cols : List Col} {head : Nat} (h : (addTabQ s name cols head).2.2 ≠ 0) : (addTabQ s name cols head).2.1 = 0 ∧ (addTabQ s name cols head).1 = zSch := by
  unfold addTabQ at h ⊢
  split
  · exact ⟨rfl, rfl⟩
  · rename_i h1
    rw [if_neg h1] at h
    split
    · exact ⟨rfl, rfl⟩
    · rename_i h2
      rw [if_neg h2] at h
      split
      · exact ⟨rfl, rfl⟩
      · rename_i h3
        rw [if_neg h3] at h
        exact absurd rfl h
theorem addTab_good {s : PSch} {name : ByteArray} {cols : List Col} {head : Nat} (hw : wfS s) (hn : name.size ≤ 9223372036854775807) (hc : ∀ c ∈ cols, wfC c) (hcl : cols.length ≤ 4398046511104) (hh : head < 4294967296) (h : (addTabQ s name cols head).2.2 = 0) :
    mayS (addTabQ s name cols head).1 = true ∧ wfS (addTabQ s name cols head).1 ∧ 0 < (addTabQ s name cols head).2.1 ∧ (addTabQ s name cols head).2.1 < 4294967296 ∧ (addTabQ s name cols head).1.idxs = s.idxs ∧ dropTabQ (addTabQ s name cols head).1 name = (s, 0) := by
  unfold addTabQ at h ⊢
  split
  · rename_i h1; rw [if_pos h1] at h; cases h
  · rename_i h1
    rw [if_neg h1] at h
    split
    · rename_i h2; rw [if_pos h2] at h; cases h
    · rename_i h2
      rw [if_neg h2] at h
      split
      · rename_i h3; rw [if_pos h3] at h; cases h
      · rename_i h3
        clear h
        obtain ⟨hm, hnm, hcm, hhd⟩ := Decidable.of_not_not h1
        have hf := full_iff.1 hm
        have hlid := lastT_lt hw
        have hmax : ∀ t ∈ s.tabs, t.id ≤ lastT s.tabs := fun t ht => lastT_max hf.tp ht
        have hno : ∀ t ∈ s.tabs, t.name ≠ name := fun t ht e => by
          have := find_no (Bool.not_eq_true _ ▸ h2) t ht
          exact absurd e (of_decide_eq_false this)
        simp only [not_or] at hhd h3
        generalize lastT s.tabs = m at *
        have hfull : Full ⟨s.tabs ++ [⟨m + 1, name, cols, head⟩], s.idxs⟩ := by
          refine ⟨?_, hf.li, ?_, ?_, fun t ht => ?_, ?_, fun x hx => ?_, hf.xp⟩
          · have := hf.lt
            simp only [List.length_append, List.length_singleton]
            omega
          · have hp : (pagesQ ⟨s.tabs ++ [⟨m + 1, name, cols, head⟩], s.idxs⟩).Perm (head :: pagesQ s) := by
              simp only [pagesQ, List.map_append, List.map_cons, List.map_nil, List.append_assoc, List.singleton_append]
              exact List.perm_middle
            exact hp.nodup_iff.2 (List.nodup_cons.2 ⟨hhd.1, hf.pn⟩)
          · have := hf.p0
            simp only [pagesQ, List.map_append, List.map_cons, List.map_nil, List.mem_append, List.mem_singleton, not_or] at this ⊢
            exact ⟨⟨this.1, fun e => hhd.2 e.symm⟩, this.2⟩
          · rcases List.mem_append.1 ht with ht | ht
            · exact hf.t0 t ht
            · obtain rfl : t = _ := by simpa using ht
              exact ⟨Nat.succ_ne_zero _, hnm, hcm⟩
          · refine List.pairwise_append.2 ⟨hf.tp, List.pairwise_singleton .., fun a ha b hb => ?_⟩
            obtain rfl : b = _ := by simpa using hb
            exact ⟨Nat.lt_succ_of_le (hmax a ha), hno a ha⟩
          · obtain ⟨h1, h2, h3⟩ := hf.x0 x hx
            exact ⟨h1, h2, plcB_more h3⟩
        refine ⟨full_iff.2 hfull, ⟨fun t ht => ?_, hw.idxs, ?_, hw.li⟩, Nat.succ_pos _, by show m + 1 < _; omega, rfl, ?_⟩
        · rcases List.mem_append.1 ht with ht | ht
          · exact hw.tabs t ht
          · obtain rfl : t = _ := by simpa using ht
            exact ⟨by show m + 1 < _; omega, hn, hc, hcl, hh⟩
        · exact Nat.le_trans hfull.lt (by decide)
        · rw [dropTabQ, if_neg (by rw [full_iff.2 hfull]; decide)]
          simp only
          rw [find_last (fun u hu => decide_eq_false (hno u hu)) (decide_eq_true rfl)]
          simp only
          congr 1
          have e1 : (s.tabs ++ [(⟨m + 1, name, cols, head⟩ : PTab)]).filter (fun u => decide (u.id ≠ m + 1)) = s.tabs := by
            rw [List.filter_append, List.filter_eq_self.2 fun u hu => decide_eq_true (by have := hmax u hu; omega)]
            simp
          have e2 : s.idxs.filter (fun x => decide (x.table ≠ m + 1)) = s.idxs := List.filter_eq_self.2 fun x hx => decide_eq_true (by
            obtain ⟨t, ht, e⟩ := plcB_in (hf.x0 x hx).2.2
            have := hmax t ht
            omega)
          rw [e1, e2]
theorem addIdx_bad {s : PSch} {name table : ByteArray} {cols : List Int} {uniq : Bool} {root : Nat} (h : (addIdxQ s name table cols uniq root).2.2 ≠ 0) : (addIdxQ s name table cols uniq root).2.1 = 0 ∧ (addIdxQ s name table cols uniq root).1 = zSch := by
  unfold addIdxQ at h ⊢
  split
  · exact ⟨rfl, rfl⟩
  · rename_i h1
    rw [if_neg h1] at h
    split
    · exact ⟨rfl, rfl⟩
    · rename_i t ht
      rw [ht] at h
      simp only at h
      split
      · exact ⟨rfl, rfl⟩
      · rename_i h2
        rw [if_neg h2] at h
        split
        · exact ⟨rfl, rfl⟩
        · rename_i h3
          rw [if_neg h3] at h
          split
          · exact ⟨rfl, rfl⟩
          · rename_i h4
            rw [if_neg h4] at h
            exact absurd rfl h
theorem addIdx_good {s : PSch} {name table : ByteArray} {cols : List Int} {uniq : Bool} {root : Nat} (hw : wfS s) (hn : name.size ≤ 9223372036854775807) (hc : ∀ c ∈ cols, -9223372036854775808 ≤ c ∧ c ≤ 9223372036854775807) (hh : root < 4294967296) (h : (addIdxQ s name table cols uniq root).2.2 = 0) :
    mayS (addIdxQ s name table cols uniq root).1 = true ∧ wfS (addIdxQ s name table cols uniq root).1 ∧ 0 < (addIdxQ s name table cols uniq root).2.1 ∧ (addIdxQ s name table cols uniq root).2.1 < 4294967296 ∧ s.idxs.length < (addIdxQ s name table cols uniq root).1.idxs.length ∧ dropIdxQ (addIdxQ s name table cols uniq root).1 name = (s, 0) := by
  unfold addIdxQ at h ⊢
  split
  · rename_i h1; rw [if_pos h1] at h; cases h
  rename_i h1
  rw [if_neg h1] at h
  split
  · rename_i ht; rw [ht] at h; cases h
  rename_i t ht
  rw [ht] at h
  simp only at h
  split
  · rename_i h2; rw [if_pos h2] at h; cases h
  rename_i h2
  rw [if_neg h2] at h
  split
  · rename_i h3; rw [if_pos h3] at h; cases h
  rename_i h3
  rw [if_neg h3] at h
  split
  · rename_i h4; rw [if_pos h4] at h; cases h
  rename_i h4
  clear h
  obtain ⟨hm, hnm, hc0, hc16, hhd⟩ := Decidable.of_not_not h1
  have hf := full_iff.1 hm
  have hlid := lastX_lt hw
  have hmax : ∀ t ∈ s.idxs, t.id ≤ lastX s.idxs := fun t ht => lastX_max hf.xp ht
  have hno : ∀ t ∈ s.idxs, t.name ≠ name := fun t ht e => by
    have := find_no (Bool.not_eq_true _ ▸ h2) t ht
    exact absurd e (of_decide_eq_false this)
  have htm := List.mem_of_find?_eq_some ht
  have hpl : plcB s ⟨lastX s.idxs + 1, t.id, name, cols, uniq, root⟩ = true := by
    have hu : s.tabs.find? (fun u => decide (u.id = t.id)) = some t := by
      cases ho : s.tabs.find? (fun u => decide (u.id = t.id)) with
      | none => have := List.find?_eq_none.1 ho t htm; simp at this
      | some u =>
        have hum := List.mem_of_find?_eq_some ho
        have hue : u.id = t.id := by simpa using List.find?_some ho
        obtain ⟨i, hi, rfl⟩ := List.mem_iff_getElem.1 hum
        obtain ⟨j, hj, rfl⟩ := List.mem_iff_getElem.1 htm
        have hp := List.pairwise_iff_getElem.1 hf.tp
        rcases Nat.lt_trichotomy i j with hij | hij | hij
        · have := (hp i j hi hj hij).1; omega
        · subst hij; rfl
        · have := (hp j i hj hi hij).1; omega
    rw [plcB]
    simp only
    rw [hu]
    simpa using h3
  simp only [not_or] at hhd h4
  generalize lastX s.idxs = m at *
  have hfull : Full ⟨s.tabs, s.idxs ++ [⟨m + 1, t.id, name, cols, uniq, root⟩]⟩ := by
    refine ⟨hf.lt, ?_, ?_, ?_, hf.t0, hf.tp, fun x hx => ?_, ?_⟩
    · have := hf.li
      simp only [List.length_append, List.length_singleton]
      omega
    · have hp : (pagesQ ⟨s.tabs, s.idxs ++ [⟨m + 1, t.id, name, cols, uniq, root⟩]⟩).Perm (root :: pagesQ s) := by
        simp only [pagesQ, List.map_append, List.map_cons, List.map_nil, ← List.append_assoc]
        exact List.perm_append_singleton ..
      exact hp.nodup_iff.2 (List.nodup_cons.2 ⟨hhd.1, hf.pn⟩)
    · have := hf.p0
      simp only [pagesQ, List.map_append, List.map_cons, List.map_nil, List.mem_append, List.mem_singleton, not_or] at this ⊢
      exact ⟨this.1, this.2, fun e => hhd.2 e.symm⟩
    · rcases List.mem_append.1 hx with hx | hx
      · exact hf.x0 x hx
      · obtain rfl : x = _ := by simpa using hx
        exact ⟨Nat.succ_ne_zero _, hnm, hpl⟩
    · refine List.pairwise_append.2 ⟨hf.xp, List.pairwise_singleton .., fun a ha b hb => ?_⟩
      obtain rfl : b = _ := by simpa using hb
      exact ⟨Nat.lt_succ_of_le (hmax a ha), hno a ha⟩
  refine ⟨full_iff.2 hfull, ⟨hw.tabs, fun x hx => ?_, hw.lt, ?_⟩, Nat.succ_pos _, by show m + 1 < _; omega, by simp, ?_⟩
  · rcases List.mem_append.1 hx with hx | hx
    · exact hw.idxs x hx
    · obtain rfl : x = _ := by simpa using hx
      exact ⟨by show m + 1 < _; omega, (hw.tabs t htm).id, hn, hc, by show cols.length ≤ _; omega, hh⟩
  · exact Nat.le_trans hfull.li (by decide)
  · rw [dropIdxQ, if_neg (by rw [full_iff.2 hfull]; decide)]
    simp only
    rw [find_last (fun u hu => decide_eq_false (hno u hu)) (decide_eq_true rfl)]
    simp only
    congr 1
    have e1 : (s.idxs ++ [(⟨m + 1, t.id, name, cols, uniq, root⟩ : PIdx)]).filter (fun u => decide (u.id ≠ m + 1)) = s.idxs := by
      rw [List.filter_append, List.filter_eq_self.2 fun u hu => decide_eq_true (by have := hmax u hu; omega)]
      simp
    rw [e1]
theorem pages_sub {s s' : PSch} (h1 : s'.tabs.Sublist s.tabs) (h2 : s'.idxs.Sublist s.idxs) : (pagesQ s').Sublist (pagesQ s) := (h1.map _).append (h2.map _)
theorem dropTab_bad {s : PSch} {name : ByteArray} (h : (dropTabQ s name).2 ≠ 0) : (dropTabQ s name).1 = zSch := by
  unfold dropTabQ at h ⊢
  split
  · rfl
  · rename_i h1
    rw [if_neg h1] at h
    split
    · rfl
    · rename_i t ht
      rw [ht] at h
      exact absurd rfl h
theorem find_keep {l : List PTab} {k n : Nat} (hk : k ≠ n) : (l.filter fun u => decide (u.id ≠ n)).find? (fun t => decide (t.id = k)) = l.find? (fun t => decide (t.id = k)) := by
  rw [List.find?_filter]
  congr 1
  funext t
  by_cases e : t.id = k
  · simp [e, hk]
  · simp [e]
theorem dropTab_good {s : PSch} {name : ByteArray} (hw : wfS s) (h : (dropTabQ s name).2 = 0) : mayS (dropTabQ s name).1 = true ∧ wfS (dropTabQ s name).1 := by
  unfold dropTabQ at h ⊢
  split
  · rename_i h1; rw [if_pos h1] at h; cases h
  rename_i h1
  rw [if_neg h1] at h
  split
  · rename_i ht; rw [ht] at h; cases h
  rename_i t ht
  have hf := full_iff.1 (by simpa using h1)
  have s1 := List.filter_sublist (l := s.tabs) (p := fun u => decide (u.id ≠ t.id))
  have s2 := List.filter_sublist (l := s.idxs) (p := fun x => decide (x.table ≠ t.id))
  refine ⟨full_iff.2 ⟨Nat.le_trans s1.length_le hf.lt, Nat.le_trans s2.length_le hf.li, (pages_sub s1 s2).nodup hf.pn, fun hp => hf.p0 ((pages_sub s1 s2).subset hp), fun u hu => hf.t0 u (s1.subset hu), hf.tp.sublist s1, fun x hx => ?_, hf.xp.sublist s2⟩,
    fun u hu => hw.tabs u (s1.subset hu), fun u hu => hw.idxs u (s2.subset hu), Nat.le_trans s1.length_le hw.lt, Nat.le_trans s2.length_le hw.li⟩
  obtain ⟨h1, h2, h3⟩ := hf.x0 x (s2.subset hx)
  have hne : x.table ≠ t.id := by simpa using (List.mem_filter.1 hx).2
  refine ⟨h1, h2, ?_⟩
  rw [plcB] at h3 ⊢
  rw [find_keep hne]
  exact h3
theorem dropIdx_bad {s : PSch} {name : ByteArray} (h : (dropIdxQ s name).2 ≠ 0) : (dropIdxQ s name).1 = zSch := by
  unfold dropIdxQ at h ⊢
  split
  · rfl
  · rename_i h1
    rw [if_neg h1] at h
    split
    · rfl
    · rename_i t ht
      rw [ht] at h
      exact absurd rfl h
theorem dropIdx_good {s : PSch} {name : ByteArray} (hw : wfS s) (h : (dropIdxQ s name).2 = 0) : mayS (dropIdxQ s name).1 = true ∧ wfS (dropIdxQ s name).1 := by
  unfold dropIdxQ at h ⊢
  split
  · rename_i h1; rw [if_pos h1] at h; cases h
  rename_i h1
  rw [if_neg h1] at h
  split
  · rename_i ht; rw [ht] at h; cases h
  rename_i t ht
  have hf := full_iff.1 (by simpa using h1)
  have s2 := List.filter_sublist (l := s.idxs) (p := fun x => decide (x.id ≠ t.id))
  have s1 : s.tabs.Sublist s.tabs := List.Sublist.refl _
  exact ⟨full_iff.2 ⟨hf.lt, Nat.le_trans s2.length_le hf.li, (pages_sub (s' := ⟨s.tabs, s.idxs.filter fun x => decide (x.id ≠ t.id)⟩) s1 s2).nodup hf.pn, fun hp => hf.p0 ((pages_sub (s' := ⟨s.tabs, s.idxs.filter fun x => decide (x.id ≠ t.id)⟩) s1 s2).subset hp), hf.t0, hf.tp, fun x hx => hf.x0 x (s2.subset hx), hf.xp.sublist s2⟩,
    hw.tabs, fun u hu => hw.idxs u (s2.subset hu), hw.lt, Nat.le_trans s2.length_le hw.li⟩
/-! ### Any change -/
structure PChg where
  what : Int
  name : ByteArray
  table : ByteArray
  cols : List Col
  keys : List Int
  uniq : Bool
  page : Nat
structure wfG (c : PChg) : Prop where
  what : -9223372036854775808 ≤ c.what ∧ c.what ≤ 9223372036854775807
  name : c.name.size ≤ 9223372036854775807
  table : c.table.size ≤ 9223372036854775807
  cols : ∀ x ∈ c.cols, wfC x
  clen : c.cols.length ≤ 4398046511104
  keys : ∀ n ∈ c.keys, -9223372036854775808 ≤ n ∧ n ≤ 9223372036854775807
  klen : c.keys.length ≤ 17592186044416
  page : c.page < 4294967296
def doesQ (s : PSch) (c : PChg) : PSch × Nat × Int :=
  if c.what.tmod 4 = 0 then addTabQ s c.name c.cols c.page
  else if c.what.tmod 4 = 2 ∨ c.what.tmod 4 = -2 then addIdxQ s c.name c.table c.keys c.uniq c.page
  else if c.what.tmod 4 = 1 ∨ c.what.tmod 4 = -3 then ((dropTabQ s c.name).1, 0, (dropTabQ s c.name).2)
  else ((dropIdxQ s c.name).1, 0, (dropIdxQ s c.name).2)
theorem does_bad {s : PSch} {c : PChg} (h : (doesQ s c).2.2 ≠ 0) : (doesQ s c).2.1 = 0 ∧ (doesQ s c).1 = zSch := by
  unfold doesQ at h ⊢
  split
  · rename_i h1; rw [if_pos h1] at h; exact addTab_bad h
  rename_i h1
  rw [if_neg h1] at h
  split
  · rename_i h2; rw [if_pos h2] at h; exact addIdx_bad h
  rename_i h2
  rw [if_neg h2] at h
  split
  · rename_i h3; rw [if_pos h3] at h; exact ⟨rfl, dropTab_bad h⟩
  rename_i h3
  rw [if_neg h3] at h
  exact ⟨rfl, dropIdx_bad h⟩
def undoC (s to : PSch) (c : PChg) : PChg := { c with what := if s.idxs.length < to.idxs.length then 3 else 1 }
theorem does_good {s : PSch} {c : PChg} (hw : wfS s) (hc : wfG c) (h : (doesQ s c).2.2 = 0) :
    mayS (doesQ s c).1 = true ∧ wfS (doesQ s c).1 ∧ (doesQ s c).2.1 < 4294967296 ∧ (0 < (doesQ s c).2.1 → doesQ (doesQ s c).1 (undoC s (doesQ s c).1 c) = (s, 0, 0)) := by
  unfold doesQ at h ⊢
  split
  · rename_i h1
    rw [if_pos h1] at h
    obtain ⟨g1, g2, g3, g4, g5, g6⟩ := addTab_good hw hc.name hc.cols hc.clen hc.page h
    refine ⟨g1, g2, g4, fun _ => ?_⟩
    have e : (undoC s (addTabQ s c.name c.cols c.page).1 c).what = 1 := by
      show (if _ then (3 : Int) else 1) = 1
      rw [if_neg (by rw [g5]; omega)]
    rw [e, if_neg (by decide), if_neg (by decide), if_pos (by decide)]
    show ((dropTabQ _ c.name).1, 0, (dropTabQ _ c.name).2) = _
    rw [g6]
  rename_i h1
  rw [if_neg h1] at h
  split
  · rename_i h2
    rw [if_pos h2] at h
    obtain ⟨g1, g2, g3, g4, g5, g6⟩ := addIdx_good hw hc.name hc.keys hc.page h
    refine ⟨g1, g2, g4, fun _ => ?_⟩
    have e : (undoC s (addIdxQ s c.name c.table c.keys c.uniq c.page).1 c).what = 3 := by
      show (if _ then (3 : Int) else 1) = 3
      rw [if_pos g5]
    rw [e, if_neg (by decide), if_neg (by decide), if_neg (by decide)]
    show ((dropIdxQ _ c.name).1, 0, (dropIdxQ _ c.name).2) = _
    rw [g6]
  rename_i h2
  rw [if_neg h2] at h
  split
  · rename_i h3
    rw [if_pos h3] at h
    obtain ⟨g1, g2⟩ := dropTab_good hw h
    exact ⟨g1, g2, Nat.succ_pos _, fun h => absurd h (Nat.lt_irrefl _)⟩
  rename_i h3
  rw [if_neg h3] at h
  obtain ⟨g1, g2⟩ := dropIdx_good hw h
  exact ⟨g1, g2, Nat.succ_pos _, fun h => absurd h (Nat.lt_irrefl _)⟩
theorem does_lt {s : PSch} {c : PChg} (hw : wfS s) (hc : wfG c) : (doesQ s c).2.1 < 4294967296 ∧ wfS (doesQ s c).1 := by
  by_cases h : (doesQ s c).2.2 = 0
  · exact ⟨(does_good hw hc h).2.2.1, (does_good hw hc h).2.1⟩
  · obtain ⟨h1, h2⟩ := does_bad h
    rw [h1, h2]
    exact ⟨by decide, zSch_wf⟩
end Go.Proofs.YtdjacjhojbkgjaaGreat.Ct
