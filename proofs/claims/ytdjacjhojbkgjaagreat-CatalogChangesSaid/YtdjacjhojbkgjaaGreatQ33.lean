/-
  The schema that rows say: the code's. Conditions: each theorem's own.
-/
import Derived.Test.YtdjacjhojbkgjaaGreatQ32
namespace Go.Proofs.YtdjacjhojbkgjaaGreat.Ct
open Go Go.K Go.Proofs Go.Proofs.YtdjacjhojbkgjaaGreat Go.Proofs.YtdjacjhojbkgjaaGreat.Rw
set_option linter.unusedVariables false
set_option linter.unusedSimpArgs false
set_option maxRecDepth 10000

/-! ### What is asked -/
def zSch : PSch := ⟨[], []⟩
structure ReadP (l : List (List Val)) (ok : Bool) (s : PSch) : Prop where
  yes : ok = true → mayS s = true ∧ l.Perm (rowsQ s)
  no : ok = false → s = zSch ∧ ∀ s', wfS s' → mayS s' = true → ¬ l.Perm (rowsQ s')
theorem rise_weak {l : List (List Val)} (h : Rising l) : RiseR l := h.imp fun h h2 => ltK_irr _ (ltK_trans h h2)
theorem rows_inj {s1 s2 : PSch} (h1 : mayS s1 = true) (h2 : mayS s2 = true) (w1 : wfS s1) (w2 : wfS s2) (hp : (rowsQ s1).Perm (rowsQ s2)) : s1 = s2 := by
  have e := sorted_one (may0 h2) ((sortedQ_perm s1).trans hp) (rise_weak (rising (may0 h1)))
  have e1 := put_sorted (may0 h1) w1
  have e2 := put_sorted (may0 h2) w2
  rw [e, e2] at e1
  cases e1
  rfl
theorem read_one {l : List (List Val)} {ok1 ok2 : Bool} {s1 s2 : PSch} (h1 : ReadP l ok1 s1) (h2 : ReadP l ok2 s2) (w1 : wfS s1) (w2 : wfS s2) : ok1 = ok2 ∧ s1 = s2 := by
  cases ok1 with
  | true =>
    obtain ⟨m1, p1⟩ := h1.yes rfl
    cases ok2 with
    | true =>
      obtain ⟨m2, p2⟩ := h2.yes rfl
      exact ⟨rfl, rows_inj m1 m2 w1 w2 (p1.symm.trans p2)⟩
    | false => exact absurd p1 ((h2.no rfl).2 s1 w1 m1)
  | false =>
    cases ok2 with
    | true =>
      obtain ⟨m2, p2⟩ := h2.yes rfl
      exact absurd p2 ((h1.no rfl).2 s2 w2 m2)
    | false => exact ⟨rfl, (h1.no rfl).1.trans (h2.no rfl).1.symm⟩
theorem zSch_wf : wfS zSch := ⟨fun t h => (by cases h), fun t h => (by cases h), Nat.zero_le _, Nat.zero_le _⟩
theorem zSch_c (h : Base) : SchC h zSch [.slice none 0 0, .slice none 0 0] := ⟨_, _, [], [], rfl, .inl ⟨none, 0, rfl, rfl⟩, Each.nil, .inl ⟨none, 0, rfl, rfl⟩, Each.nil⟩
/-! ### A schema's rows fit -/
theorem okN (n : Int) : okV (vN n) = true := decide_eq_true (.inr (.inl ⟨rfl, rfl⟩))
theorem okZ : okV vZ = true := decide_eq_true (.inl ⟨rfl, rfl, rfl⟩)
theorem okT {s : ByteArray} (h : s.size ≤ 64) : okV (vT s) = true := decide_eq_true (.inr (.inr (.inl ⟨rfl, rfl, h⟩)))
theorem okB (b : Bool) : okV (vB b) = true := decide_eq_true (.inr (.inr (.inr ⟨rfl, rfl, by cases b <;> simp [vB]⟩)))
theorem name64 {s : ByteArray} (h : nameB s.data.toList = true) : s.size ≤ 64 := by
  simp only [nameB, Bool.and_eq_true, decide_eq_true_eq] at h
  have := h.1.2
  have e : s.data.toList.length = s.size := by simp
  omega
theorem colsC_may : mayB colsC = true := by decide
theorem fitsL_tab (t : PTab) (h : t.name.size ≤ 64) : fitsL colsC (tabRow t) = 0 := by
  simp only [colsC, tabRow, fitsL, okN, okZ, okT h]
  simp
theorem fitsL_col (t : PTab) (i : Nat) (c : Col) (h : c.name.size ≤ 64) : fitsL colsC (colRow t i c) = 0 := by
  simp only [colsC, colRow, fitsL, okN, okZ, okT h, okB]
  simp
theorem fitsL_idx (t : PIdx) (h : t.name.size ≤ 64) : fitsL colsC (idxRow t) = 0 := by
  simp only [colsC, idxRow, fitsL, okN, okZ, okT h, okB]
  simp
theorem fitsL_key (t : PIdx) (i : Nat) (n : Int) : fitsL colsC (keyRow t i n) = 0 := by
  simp only [colsC, keyRow, fitsL, okN, okZ, okB]
  simp
theorem rows_fit {s : PSch} (hm : May0 s) : ∀ r ∈ rowsQ s, fitsE colsC r = 0 := fun r hr => by
  have h6 := rows_six r hr
  rw [fitsE, if_neg (by rw [colsC_may, h6]; simp [colsC])]
  rcases List.mem_append.1 hr with hr | hr
  · obtain ⟨t, ht, hr⟩ := List.mem_flatMap.1 hr
    obtain ⟨h1, h2⟩ := hm.tok t ht
    rcases List.mem_cons.1 hr with rfl | hr
    · exact fitsL_tab t (name64 h1)
    · obtain ⟨i, hi, rfl⟩ := List.mem_mapIdx.1 hr
      refine fitsL_col t i _ (name64 ?_)
      simp only [mayB, Bool.and_eq_true] at h2
      have := List.all_eq_true.1 h2.1.2 _ (List.getElem_mem hi)
      simp only [okC, Bool.and_eq_true] at this
      exact this.1
  · obtain ⟨t, ht, hr⟩ := List.mem_flatMap.1 hr
    obtain ⟨h1, h2⟩ := hm.xok t ht
    rcases List.mem_cons.1 hr with rfl | hr
    · exact fitsL_idx t (name64 h1)
    · obtain ⟨i, hi, rfl⟩ := List.mem_mapIdx.1 hr
      exact fitsL_key t i _
theorem fits_six {r : List Val} (h : fitsE colsC r = 0) : r.length = 6 := by
  rw [fitsE] at h
  split at h
  · cases h
  · rename_i hn
    simp only [not_or, Decidable.not_not] at hn
    rw [hn.2]
    rfl
/-! ### How great it gets -/
structure PutI (s : PSch) (n : Nat) : Prop where
  tabs : ∀ t ∈ s.tabs, t.id < 4294967296 ∧ t.name.size ≤ 9223372036854775807 ∧ (∀ c ∈ t.cols, wfC c) ∧ t.cols.length ≤ n ∧ t.head < 4294967296
  idxs : ∀ x ∈ s.idxs, x.id < 4294967296 ∧ x.table < 4294967296 ∧ x.name.size ≤ 9223372036854775807 ∧ (∀ c ∈ x.cols, 0 ≤ c ∧ c ≤ 4294967295) ∧ x.cols.length ≤ n ∧ x.root < 4294967296
  lt : s.tabs.length ≤ n
  li : s.idxs.length ≤ n
theorem PutI.wf {s : PSch} {n : Nat} (h : PutI s n) (hn : n ≤ 1000000) : wfS s :=
  ⟨fun t ht => by obtain ⟨h1, h2, h3, h4, h5⟩ := h.tabs t ht; exact ⟨h1, h2, h3, by omega, h5⟩,
   fun t ht => by obtain ⟨h1, h2, h3, h4, h5, h6⟩ := h.idxs t ht; exact ⟨h1, h2, h3, fun c hc => by have := h4 c hc; omega, by omega, h6⟩, by have := h.lt; omega, by have := h.li; omega⟩
theorem PutI.zero : PutI zSch 0 := ⟨fun t h => (by cases h), fun t h => (by cases h), Nat.le_refl _, Nat.le_refl _⟩
theorem PutI.up {s : PSch} {n : Nat} (h : PutI s n) : PutI s (n + 1) :=
  ⟨fun t ht => by obtain ⟨h1, h2, h3, h4, h5⟩ := h.tabs t ht; exact ⟨h1, h2, h3, by omega, h5⟩,
   fun t ht => by obtain ⟨h1, h2, h3, h4, h5, h6⟩ := h.idxs t ht; exact ⟨h1, h2, h3, h4, by omega, h6⟩, by have := h.lt; omega, by have := h.li; omega⟩
theorem addCol_mem {id : Nat} {c : Col} : ∀ {l l' : List PTab}, addCol id c l = some l' → l'.length = l.length ∧ ∀ t ∈ l', t ∈ l ∨ ∃ u ∈ l, t = { u with cols := u.cols ++ [c] }
  | [], l', h => by cases h
  | u :: l, l', h => by
    rw [addCol] at h
    split at h
    · cases h
      refine ⟨rfl, fun t ht => ?_⟩
      rcases List.mem_cons.1 ht with rfl | ht
      · exact .inr ⟨u, List.mem_cons_self, rfl⟩
      · exact .inl (List.mem_cons_of_mem _ ht)
    · cases hq : addCol id c l with
      | none => rw [hq] at h; cases h
      | some l2 =>
        rw [hq] at h
        cases h
        obtain ⟨h1, h2⟩ := addCol_mem hq
        refine ⟨by simp [h1], fun t ht => ?_⟩
        rcases List.mem_cons.1 ht with rfl | ht
        · exact .inl List.mem_cons_self
        · rcases h2 t ht with h | ⟨v, hv, e⟩
          · exact .inl (List.mem_cons_of_mem _ h)
          · exact .inr ⟨v, List.mem_cons_of_mem _ hv, e⟩
theorem addKey_mem {id : Nat} {c : Int} : ∀ {l l' : List PIdx}, addKey id c l = some l' → l'.length = l.length ∧ ∀ t ∈ l', t ∈ l ∨ ∃ u ∈ l, t = { u with cols := u.cols ++ [c] }
  | [], l', h => by cases h
  | u :: l, l', h => by
    rw [addKey] at h
    split at h
    · cases h
      refine ⟨rfl, fun t ht => ?_⟩
      rcases List.mem_cons.1 ht with rfl | ht
      · exact .inr ⟨u, List.mem_cons_self, rfl⟩
      · exact .inl (List.mem_cons_of_mem _ ht)
    · cases hq : addKey id c l with
      | none => rw [hq] at h; cases h
      | some l2 =>
        rw [hq] at h
        cases h
        obtain ⟨h1, h2⟩ := addKey_mem hq
        refine ⟨by simp [h1], fun t ht => ?_⟩
        rcases List.mem_cons.1 ht with rfl | ht
        · exact .inl List.mem_cons_self
        · rcases h2 t ht with h | ⟨v, hv, e⟩
          · exact .inl (List.mem_cons_of_mem _ h)
          · exact .inr ⟨v, List.mem_cons_of_mem _ hv, e⟩
theorem PutI.put {s s' : PSch} {n : Nat} {r : List Val} (h : PutI s n) (hw : ∀ v ∈ r, wfV v) (he : putQ s r = some s') : PutI s' (n + 1) := by
  unfold putQ at he
  split at he
  · rename_i r0 r1 r2 r3 r4 r5
    have w3 := (hw r3 (by simp)).s
    have w4 := hw r4 (by simp)
    split at he
    · rename_i hnn
      simp only [Bool.and_eq_true, nnV, decide_eq_true_eq] at hnn
      obtain ⟨g1, g2, g4⟩ := hnn
      have hu := h.up
      split at he
      · cases he
        refine ⟨fun t ht => ?_, hu.idxs, by simp; exact h.lt, hu.li⟩
        rcases List.mem_append.1 ht with ht | ht
        · exact hu.tabs t ht
        · rw [List.mem_singleton.1 ht]
          exact ⟨by show r1.n.toNat < _; omega, w3, fun c hc => (by cases hc), Nat.zero_le _, by show r4.n.toNat < _; omega⟩
      · split at he
        · cases hq : addCol r1.n.toNat ⟨r3.s, r4.n, decide (r5.n = 1)⟩ s.tabs with
          | none => rw [hq] at he; cases he
          | some l =>
            rw [hq] at he
            cases he
            obtain ⟨e1, e2⟩ := addCol_mem hq
            refine ⟨fun t ht => ?_, hu.idxs, by rw [e1]; exact hu.lt, hu.li⟩
            rcases e2 t ht with ht | ⟨u, hu', rfl⟩
            · exact hu.tabs t ht
            · obtain ⟨a1, a2, a3, a4, a5⟩ := h.tabs u hu'
              refine ⟨a1, a2, fun c hc => ?_, by simp; exact a4, a5⟩
              rcases List.mem_append.1 hc with hc | hc
              · exact a3 c hc
              · rw [List.mem_singleton.1 hc]
                exact ⟨w4.n1, w4.n2, w3⟩
        · split at he
          · cases he
            refine ⟨hu.tabs, fun t ht => ?_, hu.lt, by simp; exact h.li⟩
            rcases List.mem_append.1 ht with ht | ht
            · exact hu.idxs t ht
            · rw [List.mem_singleton.1 ht]
              exact ⟨by show r1.n.toNat < _; omega, by show r2.n.toNat < _; omega, w3, fun c hc => (by cases hc), Nat.zero_le _, by show r4.n.toNat < _; omega⟩
          · split at he
            · cases hq : addKey r1.n.toNat r4.n s.idxs with
              | none => rw [hq] at he; cases he
              | some l =>
                rw [hq] at he
                cases he
                obtain ⟨e1, e2⟩ := addKey_mem hq
                refine ⟨hu.tabs, fun t ht => ?_, hu.lt, by rw [e1]; exact hu.li⟩
                rcases e2 t ht with ht | ⟨u, hu', rfl⟩
                · exact hu.idxs t ht
                · obtain ⟨a1, a2, a3, a4, a5, a6⟩ := h.idxs u hu'
                  refine ⟨a1, a2, a3, fun c hc => ?_, by simp; exact a5, a6⟩
                  rcases List.mem_append.1 hc with hc | hc
                  · exact a4 c hc
                  · rw [List.mem_singleton.1 hc]
                    exact g4
            · cases he
    · cases he
  · cases he
theorem says_sch {h : Base} {a : Option Nat} {k : Nat} {a2 : Option Nat} {k2 : Nat} {ot : List Ot} {ox : List Ox} (hs : Says h [bufA 37 4 a ot.length k (ot.map Ot.c).flatten, bufA 43 6 a2 ox.length k2 (ox.map Ox.c).flatten, all (ot.map Ot.A), all (ox.map Ox.A)]) :
    SchC h (schP ot ox) [bufV a ot.length k, bufV a2 ox.length k2] := by
  have g1 := K.says_mem hs (B := bufA 37 4 a ot.length k (ot.map Ot.c).flatten) (by simp)
  have g2 := K.says_mem hs (B := bufA 43 6 a2 ox.length k2 (ox.map Ox.c).flatten) (by simp)
  have g3 := K.says_all (K.says_mem hs (B := all (ot.map Ot.A)) (by simp))
  have g4 := K.says_all (K.says_mem hs (B := all (ox.map Ox.A)) (by simp))
  have e1 : ot.length = (ot.map Ot.c).length := by simp
  have e2 : ox.length = (ox.map Ox.c).length := by simp
  rw [e1] at g1
  rw [e2] at g2
  have s1 := K.says_sl (ot4 ot) g1
  have s2 := K.says_sl (ox6 ox) g2
  rw [← e1] at s1
  rw [← e2] at s2
  refine ⟨_, _, _, _, rfl, s1, ⟨by simp, fun j c x hc hx => ?_⟩, s2, ⟨by simp, fun j c x hc hx => ?_⟩⟩
  · rw [List.getElem?_map] at hc hx
    cases ho : ot[j]? with
    | none => rw [ho] at hc; cases hc
    | some o =>
      rw [ho] at hc hx
      cases hc; cases hx
      have g5 := K.says_mem g3 (B := o.A) (List.mem_map.2 ⟨o, List.mem_of_getElem? ho, rfl⟩)
      have e3 : o.t.cols.length = (o.t.cols.map cC).length := by simp
      unfold Ot.A at g5
      rw [e3] at g5
      have := K.says_sl (three _) g5
      rw [← e3] at this
      exact ⟨_, rfl, this⟩
  · rw [List.getElem?_map] at hc hx
    cases ho : ox[j]? with
    | none => rw [ho] at hc; cases hc
    | some o =>
      rw [ho] at hc hx
      cases hc; cases hx
      have g5 := K.says_mem g4 (B := o.A) (List.mem_map.2 ⟨o, List.mem_of_getElem? ho, rfl⟩)
      have e3 : o.x.cols.length = (rowN o.x.cols).length := by simp [rowN]
      unfold Ox.A at g5
      rw [e3] at g5
      have := K.says_sl (oneN _) g5
      rw [← e3] at this
      exact ⟨_, rfl, this⟩
end Go.Proofs.YtdjacjhojbkgjaaGreat.Ct
