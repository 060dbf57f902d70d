/-
  The schema that rows say: the document's. Conditions: each theorem's own.
-/
import Derived.Test.YtdjacjhojbkgjaaWe

namespace Go.Proofs.Ytdjacjhojbkgjaa.Ct
open Go Go.K Go.Proofs Go.Proofs.Ytdjacjhojbkgjaa Go.Proofs.Ytdjacjhojbkgjaa.Rw
set_option linter.unusedVariables false
set_option linter.unusedSimpArgs false
set_option maxRecDepth 10000

/-! ### Sorted one by one -/
section
variable {α : Type} (gt : α → α → Bool) (key : α → Key)
theorem posN_spec (p : List α) (x : α) : ∀ k, k ≤ p.length → (∀ j y, posN gt p x k ≤ j → j < k → p[j]? = some y → gt y x = true) ∧ (posN gt p x k = 0 ∨ ∃ y, p[posN gt p x k - 1]? = some y ∧ gt y x = false)
  | 0, _ => ⟨fun j y h1 h2 => absurd h2 (Nat.not_lt_zero _), .inl rfl⟩
  | k + 1, hk => by
    obtain ⟨y, hy⟩ : ∃ y, p[k]? = some y := ⟨_, List.getElem?_eq_getElem (by omega)⟩
    obtain ⟨g1, g2⟩ := posN_spec p x k (by omega)
    rw [posN, hy]
    simp only
    by_cases h : gt y x = true
    · rw [if_pos h]
      refine ⟨fun j z h1 h2 hz => ?_, g2⟩
      by_cases hj : j < k
      · exact g1 j z h1 hj hz
      · obtain rfl : j = k := by omega
        rw [hy] at hz; cases hz; exact h
    · rw [if_neg h]
      exact ⟨fun j z h1 h2 => by omega, .inr ⟨y, by simpa using hy, by simpa using h⟩⟩
theorem insP_rise {p : List α} {x : α} (hp : p.Pairwise fun a b => ¬ ltK (key b) (key a)) (hg : ∀ y ∈ p, gt y x = true ↔ ltK (key x) (key y)) : (insP gt p x).Pairwise fun a b => ¬ ltK (key b) (key a) := by
  obtain ⟨g1, g2⟩ := posN_spec gt p x p.length (Nat.le_refl _)
  have hle := posN_le gt p x p.length
  unfold insP
  generalize posN gt p x p.length = k at g1 g2 hle ⊢
  have h1 : ∀ a ∈ p.take k, ¬ ltK (key x) (key a) := fun a ha => by
    obtain ⟨i, hi⟩ := List.mem_iff_getElem?.1 ha
    rw [List.getElem?_take] at hi
    split at hi
    · rename_i hik
      rcases g2 with g2 | ⟨y, hy, hn⟩
      · omega
      · have hyx : ¬ ltK (key x) (key y) := fun h => by
          rw [(hg y (List.mem_of_getElem? hy)).2 h] at hn; cases hn
        by_cases hik2 : i = k - 1
        · rw [hik2, hy] at hi; cases hi; exact hyx
        · obtain ⟨ha1, ha2⟩ := List.getElem?_eq_some_iff.1 hi
          obtain ⟨hb1, hb2⟩ := List.getElem?_eq_some_iff.1 hy
          have := List.pairwise_iff_getElem.1 hp i (k - 1) ha1 hb1 (by omega)
          rw [ha2, hb2] at this
          exact ltK_neg hyx this
    · cases hi
  have h2 : ∀ b ∈ p.drop k, ltK (key x) (key b) := fun b hb => by
    obtain ⟨i, hi⟩ := List.mem_iff_getElem?.1 hb
    rw [List.getElem?_drop] at hi
    exact (hg b (List.mem_of_getElem? hi)).1 (g1 (k + i) b (by omega) (List.getElem?_eq_some_iff.1 hi).1 hi)
  have hd := List.take_append_drop k p
  rw [← hd, List.pairwise_append] at hp
  rw [List.pairwise_append, List.pairwise_cons]
  refine ⟨hp.1, ⟨fun b hb h => ltK_irr _ (ltK_trans (h2 b hb) h), hp.2.1⟩, fun a ha b hb => ?_⟩
  rcases List.mem_cons.1 hb with rfl | hb
  · exact h1 a ha
  · exact hp.2.2 a ha b hb
theorem insAll_rise : ∀ (l p : List α), (p.Pairwise fun a b => ¬ ltK (key b) (key a)) → (∀ x y, x ∈ p ++ l → y ∈ p ++ l → (gt y x = true ↔ ltK (key x) (key y))) → (insAll gt p l).Pairwise fun a b => ¬ ltK (key b) (key a)
  | [], p, hp, _ => hp
  | x :: l, p, hp, hg => by
    rw [insAll]
    refine insAll_rise l _ (insP_rise gt key hp fun y hy => hg x y (by simp) (List.mem_append_left _ hy)) fun a b ha hb => hg a b ?_ ?_
    · have := ((insP_perm gt p x).append_right l).subset ha
      simpa using this
    · have := ((insP_perm gt p x).append_right l).subset hb
      simpa using this
end
/-! ### The order of a schema's rows -/
theorem ordV_refl (v : Val) : ordV v v = 0 := by
  unfold ordV
  rw [if_neg (by omega), if_neg (by omega)]
  split
  · exact K.cmp_refl _
  · rw [if_neg (by omega), if_neg (by omega)]
theorem ordR_refl : ∀ r : List Val, ordR r r = 0
  | [] => by rw [ordR]
  | v :: r => by rw [ordR, if_neg (fun h => h (ordV_refl v)), ordR_refl r]
theorem ordV_N (a b : Int) : ordV (vN a) (vN b) = if a < b then -1 else if b < a then 1 else 0 := by
  unfold ordV
  have e : placeQ (vN a).kind = 2 := rfl
  rw [e]
  simp only [Int.lt_irrefl, if_false]
  rw [if_neg (show ¬ (1 : Int) = 2 by decide)]
/-- How a schema's row begins. -/
def Head (r : List Val) (k : Key) : Prop := ∃ c rest, r = vN k.1 :: vN k.2.1 :: c :: rest ∧ ((k.1 = 1 ∧ c = vZ ∧ k.2.2 = 0) ∨ (k.1 ≠ 1 ∧ c = vN k.2.2))
theorem rows_head {s : PSch} : ∀ r ∈ rowsQ s, Head r (key3 r) := fun r hr => by
  rcases List.mem_append.1 hr with hr | hr
  · obtain ⟨t, _, hr⟩ := List.mem_flatMap.1 hr
    rcases List.mem_cons.1 hr with rfl | hr
    · exact ⟨vZ, _, rfl, .inl ⟨rfl, rfl, rfl⟩⟩
    · obtain ⟨i, hi, rfl⟩ := List.mem_mapIdx.1 hr
      exact ⟨_, _, rfl, .inr ⟨(by decide : (2 : Int) ≠ 1), rfl⟩⟩
  · obtain ⟨t, _, hr⟩ := List.mem_flatMap.1 hr
    rcases List.mem_cons.1 hr with rfl | hr
    · exact ⟨_, _, rfl, .inr ⟨(by decide : (3 : Int) ≠ 1), rfl⟩⟩
    · obtain ⟨i, hi, rfl⟩ := List.mem_mapIdx.1 hr
      exact ⟨_, _, rfl, .inr ⟨(by decide : (4 : Int) ≠ 1), rfl⟩⟩
theorem gt_head {x y : List Val} {a b : Key} (hx : Head x a) (hy : Head y b) (hne : a ≠ b) : gtR y x = true ↔ ltK a b := by
  obtain ⟨c, rx, rfl, hc⟩ := hx
  obtain ⟨d, ry, rfl, hd⟩ := hy
  obtain ⟨a0, a1, a2⟩ := a
  obtain ⟨b0, b1, b2⟩ := b
  simp only at hc hd ⊢
  rw [gtR, decide_eq_true_iff, ordR, ordV_N]
  unfold ltK
  simp only
  by_cases h1 : b0 < a0
  · rw [if_pos h1, if_pos (by decide)]; omega
  by_cases h2 : a0 < b0
  · rw [if_neg h1, if_pos h2, if_pos (by decide)]; omega
  obtain rfl : a0 = b0 := by omega
  rw [if_neg h1, if_neg h2, if_neg (by decide), ordR, ordV_N]
  by_cases h3 : b1 < a1
  · rw [if_pos h3, if_pos (by decide)]; omega
  by_cases h4 : a1 < b1
  · rw [if_neg h3, if_pos h4, if_pos (by decide)]; omega
  obtain rfl : a1 = b1 := by omega
  rw [if_neg h3, if_neg h4, if_neg (by decide), ordR]
  rcases hc with ⟨e1, rfl, rfl⟩ | ⟨e1, rfl⟩
  · rcases hd with ⟨_, rfl, rfl⟩ | ⟨e2, rfl⟩
    · exact absurd rfl hne
    · exact absurd e1 e2
  · rcases hd with ⟨e2, _⟩ | ⟨e2, rfl⟩
    · exact absurd e2 e1
    · rw [ordV_N]
      have hn : a2 ≠ b2 := fun e => hne (by rw [e])
      by_cases h5 : b2 < a2
      · rw [if_pos h5, if_pos (by decide)]; omega
      · rw [if_neg h5, if_pos (show a2 < b2 by omega), if_pos (by decide)]; omega
theorem gt_rows {s : PSch} (hm : May0 s) {x y : List Val} (hx : x ∈ rowsQ s) (hy : y ∈ rowsQ s) : gtR y x = true ↔ ltK (key3 x) (key3 y) := by
  by_cases he : key3 x = key3 y
  · have hp := (sortedQ_perm s).symm
    obtain rfl := rise_inj (rising hm) (hp.subset hx) (hp.subset hy) he
    rw [gtR, ordR_refl]
    exact ⟨fun h => (by cases h), fun h => absurd h (ltK_irr _)⟩
  · exact gt_head (rows_head x hx) (rows_head y hy) he
theorem sortQ_rows {s : PSch} (hm : May0 s) {l : List (List Val)} (hp : l.Perm (rowsQ s)) : sortQ l = sortedQ s :=
  sorted_one hm ((sortQ_perm l).trans hp) (insAll_rise gtR key3 l [] .nil fun x y hx hy => gt_rows hm (hp.subset (by simpa using hx)) (hp.subset (by simpa using hy)))
/-! ### What is guessed of a schema's rows -/
theorem has_key {w id a : Int} {r : List Val} (h : hasK w id a r = true) : key3 r = (w, id, a) := by
  unfold hasK at h
  split at h
  · rename_i r0 r1 r2 r3 r4 r5
    simp only [Bool.and_eq_true, decide_eq_true_eq] at h
    obtain ⟨rfl, rfl, rfl⟩ := h
    rfl
  · cases h
theorem id_inj {s : PSch} (hm : May0 s) {t u : PTab} (ht : t ∈ s.tabs) (hu : u ∈ s.tabs) (e : t.id = u.id) : t = u := by
  obtain ⟨i, hi, rfl⟩ := List.getElem_of_mem ht
  obtain ⟨j, hj, rfl⟩ := List.getElem_of_mem hu
  rcases Nat.lt_trichotomy i j with h | h | h
  · have := List.pairwise_iff_getElem.1 hm.tid i j hi hj h; omega
  · subst h; rfl
  · have := List.pairwise_iff_getElem.1 hm.tid j i hj hi h; omega
theorem xid_inj {s : PSch} (hm : May0 s) {t u : PIdx} (ht : t ∈ s.idxs) (hu : u ∈ s.idxs) (e : t.id = u.id) : t = u := by
  obtain ⟨i, hi, rfl⟩ := List.getElem_of_mem ht
  obtain ⟨j, hj, rfl⟩ := List.getElem_of_mem hu
  rcases Nat.lt_trichotomy i j with h | h | h
  · have := List.pairwise_iff_getElem.1 hm.xid i j hi hj h; omega
  · subst h; rfl
  · have := List.pairwise_iff_getElem.1 hm.xid j i hj hi h; omega
theorem rows_col {s : PSch} (hm : May0 s) {t : PTab} (ht : t ∈ s.tabs) {k : Nat} {r : List Val} (hr : r ∈ rowsQ s) (hk : key3 r = (2, (t.id : Int), (k : Int))) : ∃ c, t.cols[k]? = some c ∧ r = colRow t k c := by
  rcases List.mem_append.1 hr with hr | hr
  · obtain ⟨u, hu, hr⟩ := List.mem_flatMap.1 hr
    rcases List.mem_cons.1 hr with rfl | hr
    · have := congrArg Prod.fst hk; cases this
    · obtain ⟨i, hi, rfl⟩ := List.mem_mapIdx.1 hr
      have e1 : (u.id : Int) = t.id := congrArg (fun q : Key => q.2.1) hk
      have e2 : (i : Int) = k := congrArg (fun q : Key => q.2.2) hk
      obtain rfl := id_inj hm hu ht (by omega)
      obtain rfl : i = k := by omega
      exact ⟨_, List.getElem?_eq_getElem hi, rfl⟩
  · obtain ⟨u, hu, hr⟩ := List.mem_flatMap.1 hr
    rcases List.mem_cons.1 hr with rfl | hr
    · have := congrArg Prod.fst hk; cases this
    · obtain ⟨i, hi, rfl⟩ := List.mem_mapIdx.1 hr
      have := congrArg Prod.fst hk; cases this
theorem rows_keyr {s : PSch} (hm : May0 s) {t : PIdx} (ht : t ∈ s.idxs) {k : Nat} {r : List Val} (hr : r ∈ rowsQ s) (hk : key3 r = (4, (t.id : Int), (k : Int))) : ∃ c, t.cols[k]? = some c ∧ r = keyRow t k c := by
  rcases List.mem_append.1 hr with hr | hr
  · obtain ⟨u, hu, hr⟩ := List.mem_flatMap.1 hr
    rcases List.mem_cons.1 hr with rfl | hr
    · have := congrArg Prod.fst hk; cases this
    · obtain ⟨i, hi, rfl⟩ := List.mem_mapIdx.1 hr
      have := congrArg Prod.fst hk; cases this
  · obtain ⟨u, hu, hr⟩ := List.mem_flatMap.1 hr
    rcases List.mem_cons.1 hr with rfl | hr
    · have := congrArg Prod.fst hk; cases this
    · obtain ⟨i, hi, rfl⟩ := List.mem_mapIdx.1 hr
      have e1 : (u.id : Int) = t.id := congrArg (fun q : Key => q.2.1) hk
      have e2 : (i : Int) = k := congrArg (fun q : Key => q.2.2) hk
      obtain rfl := xid_inj hm hu ht (by omega)
      obtain rfl : i = k := by omega
      exact ⟨_, List.getElem?_eq_getElem hi, rfl⟩
theorem col_in {s : PSch} {t : PTab} (ht : t ∈ s.tabs) {k : Nat} {c : Col} (hc : t.cols[k]? = some c) : colRow t k c ∈ rowsQ s :=
  List.mem_append_left _ (List.mem_flatMap.2 ⟨t, ht, List.mem_cons_of_mem _ (by
    obtain ⟨h1, h2⟩ := List.getElem?_eq_some_iff.1 hc
    exact List.mem_mapIdx.2 ⟨k, h1, by rw [h2]⟩)⟩)
theorem key_in {s : PSch} {t : PIdx} (ht : t ∈ s.idxs) {k : Nat} {c : Int} (hc : t.cols[k]? = some c) : keyRow t k c ∈ rowsQ s :=
  List.mem_append_right _ (List.mem_flatMap.2 ⟨t, ht, List.mem_cons_of_mem _ (by
    obtain ⟨h1, h2⟩ := List.getElem?_eq_some_iff.1 hc
    exact List.mem_mapIdx.2 ⟨k, h1, by rw [h2]⟩)⟩)
theorem has_col (t : PTab) (k : Nat) (c : Col) : hasK 2 t.id k (colRow t k c) = true := by simp [hasK, colRow]
theorem has_keyr (t : PIdx) (k : Nat) (c : Int) : hasK 4 t.id k (keyRow t k c) = true := by simp [hasK, keyRow]
theorem vB_eq (b : Bool) : decide (vB b = vB true) = b := by cases b <;> decide
theorem colsG_rows {s : PSch} (hm : May0 s) {l : List (List Val)} (hp : l.Perm (rowsQ s)) {t : PTab} (ht : t ∈ s.tabs) (h16 : t.cols.length ≤ 16) : ∀ f k, f + k = 17 → colsG l t.id f k = t.cols.drop k
  | 0, k, h => by rw [colsG, List.drop_eq_nil_of_le (by omega)]
  | f + 1, k, h => by
    cases hf : l.find? (hasK 2 t.id k) with
    | none =>
      rw [colsG_none hf]
      cases hc : t.cols[k]? with
      | none => rw [List.drop_eq_nil_of_le (by have := List.getElem?_eq_none_iff.1 hc; exact this)]
      | some c =>
        have := List.find?_eq_none.1 hf _ (hp.symm.subset (col_in ht hc))
        rw [has_col] at this
        exact absurd rfl this
    | some r =>
      obtain ⟨c, hc, rfl⟩ := rows_col hm ht (hp.subset (List.mem_of_find?_eq_some hf)) (has_key (List.find?_some hf))
      obtain ⟨h1, h2⟩ := List.getElem?_eq_some_iff.1 hc
      rw [colRow, ] at hf
      rw [colsG_some hf, colsG_rows hm hp ht h16 f (k + 1) (by omega), List.drop_eq_getElem_cons h1, h2, vB_eq]
theorem keysG_rows {s : PSch} (hm : May0 s) {l : List (List Val)} (hp : l.Perm (rowsQ s)) {t : PIdx} (ht : t ∈ s.idxs) (h16 : t.cols.length ≤ 16) : ∀ f k, f + k = 17 → keysG l t.id f k = t.cols.drop k
  | 0, k, h => by rw [keysG, List.drop_eq_nil_of_le (by omega)]
  | f + 1, k, h => by
    cases hf : l.find? (hasK 4 t.id k) with
    | none =>
      rw [keysG_none hf]
      cases hc : t.cols[k]? with
      | none => rw [List.drop_eq_nil_of_le (by have := List.getElem?_eq_none_iff.1 hc; exact this)]
      | some c =>
        have := List.find?_eq_none.1 hf _ (hp.symm.subset (key_in ht hc))
        rw [has_keyr] at this
        exact absurd rfl this
    | some r =>
      obtain ⟨c, hc, rfl⟩ := rows_keyr hm ht (hp.subset (List.mem_of_find?_eq_some hf)) (has_key (List.find?_some hf))
      obtain ⟨h1, h2⟩ := List.getElem?_eq_some_iff.1 hc
      rw [keyRow] at hf
      rw [keysG_some hf, keysG_rows hm hp ht h16 f (k + 1) (by omega), List.drop_eq_getElem_cons h1, h2]
theorem fit_of {n : Int} (h0 : 0 ≤ n) (h1 : n ≤ 4294967295) : fitV (vN n) = true := decide_eq_true ⟨rfl, h0, h1⟩
theorem guess_tabs {s : PSch} (hm : May0 s) (hw : wfS s) {l : List (List Val)} (hp : l.Perm (rowsQ s)) : ∀ (ts : List PTab) (q : PSch), (∀ t ∈ ts, t ∈ s.tabs) → (ts.map tabRow).foldl (gStep l) q = ⟨q.tabs ++ ts, q.idxs⟩
  | [], q, _ => by simp
  | t :: ts, q, h => by
    have ht := h t List.mem_cons_self
    have hwt := hw.tabs t ht
    have h1 := hwt.id
    have h2 := hwt.head
    have hc := colsG_rows hm hp ht (mayB_len16 (hm.tok t ht).2).2 17 0 rfl
    have e : gStep l q (tabRow t) = ⟨q.tabs ++ [t], q.idxs⟩ := by
      simp only [gStep, tabRow, fit_of (n := t.id) (by omega) (by omega), fit_of (n := t.head) (by omega) (by omega), Bool.and_self, if_true, Int.toNat_natCast]
      rw [hc]
      rfl
    rw [List.map_cons, List.foldl_cons, e, guess_tabs hm hw hp ts _ fun u hu => h u (List.mem_cons_of_mem _ hu)]
    simp
theorem guess_idxs {s : PSch} (hm : May0 s) (hw : wfS s) {l : List (List Val)} (hp : l.Perm (rowsQ s)) : ∀ (ts : List PIdx) (q : PSch), (∀ t ∈ ts, t ∈ s.idxs) → (ts.map idxRow).foldl (gStep l) q = ⟨q.tabs, q.idxs ++ ts⟩
  | [], q, _ => by simp
  | t :: ts, q, h => by
    have ht := h t List.mem_cons_self
    have hwt := hw.idxs t ht
    have h1 := hwt.id
    have h2 := hwt.root
    have h3 := hwt.table
    have hc := keysG_rows hm hp ht (hm.xok t ht).2.1 17 0 rfl
    have e : gStep l q (idxRow t) = ⟨q.tabs, q.idxs ++ [t]⟩ := by
      simp only [gStep, idxRow, fit_of (n := t.id) (by omega) (by omega), fit_of (n := t.root) (by omega) (by omega), fit_of (n := t.table) (by omega) (by omega), Bool.and_self, if_true, Int.toNat_natCast]
      rw [if_neg (by decide), if_pos (by simp), hc, vB_eq]
      rfl
    rw [List.map_cons, List.foldl_cons, e, guess_idxs hm hw hp ts _ fun u hu => h u (List.mem_cons_of_mem _ hu)]
    simp
theorem guess_skip {l : List (List Val)} : ∀ (rs : List (List Val)) (q : PSch), (∀ r ∈ rs, (key3 r).1 = 2 ∨ (key3 r).1 = 4) → rs.foldl (gStep l) q = q
  | [], q, _ => rfl
  | r :: rs, q, h => by
    have e : gStep l q r = q := by
      have h0 := h r List.mem_cons_self
      unfold gStep
      split
      · rename_i r0 r1 r2 r3 r4 r5
        have h1 : r0 ≠ vN 1 := fun e => by subst e; rcases h0 with h0 | h0 <;> cases h0
        have h3 : r0 ≠ vN 3 := fun e => by subst e; rcases h0 with h0 | h0 <;> cases h0
        split
        · first | rw [if_neg h1, if_neg (fun e => h3 e.1)] | rw [if_neg (fun e => h3 e.1)]
        · rfl
      · rfl
    rw [List.foldl_cons, e, guess_skip rs q fun r hr => h r (List.mem_cons_of_mem _ hr)]
theorem guess_rows {s : PSch} (hm : May0 s) (hw : wfS s) {l : List (List Val)} (hp : l.Perm (rowsQ s)) : guessQ l = s := by
  have k2 : ∀ r ∈ s.tabs.flatMap colRows, (key3 r).1 = 2 ∨ (key3 r).1 = 4 := fun r hr => by
    obtain ⟨t, _, hr⟩ := List.mem_flatMap.1 hr
    obtain ⟨i, e⟩ := key_col hr
    exact .inl (by rw [e])
  have k4 : ∀ r ∈ s.idxs.flatMap keyRows, (key3 r).1 = 2 ∨ (key3 r).1 = 4 := fun r hr => by
    obtain ⟨t, _, hr⟩ := List.mem_flatMap.1 hr
    obtain ⟨i, e⟩ := key_key hr
    exact .inr (by rw [e])
  rw [guessQ, sortQ_rows hm hp, sortedQ, List.foldl_append, List.foldl_append, List.foldl_append, guess_tabs hm hw hp s.tabs zSch fun t h => h, guess_skip _ _ k2, guess_idxs hm hw hp s.idxs _ fun t h => h, guess_skip _ _ k4]
  rfl
theorem rows_wf {s : PSch} (hw : wfS s) (hm : mayS s = true) : ∀ r ∈ rowsQ s, (∀ y ∈ r, wfV y) ∧ r.length ≤ 9223372036854775807 := fun r hr => by
  have wN : ∀ {n : Int}, -9223372036854775808 ≤ n → n ≤ 9223372036854775807 → wfV (vN n) := fun h1 h2 => ⟨(by decide : (-9223372036854775808 : Int) ≤ 1), (by decide : (1 : Int) ≤ 9223372036854775807), h1, h2, (by decide : noT.size ≤ 9223372036854775807)⟩
  have wZ : wfV vZ := ⟨(by decide : (-9223372036854775808 : Int) ≤ 0), (by decide : (0 : Int) ≤ 9223372036854775807), (by decide : (-9223372036854775808 : Int) ≤ 0), (by decide : (0 : Int) ≤ 9223372036854775807), by decide⟩
  have wT : ∀ {s : ByteArray}, s.size ≤ 9223372036854775807 → wfV (vT s) := fun h => ⟨(by decide : (-9223372036854775808 : Int) ≤ 2), (by decide : (2 : Int) ≤ 9223372036854775807), (by decide : (-9223372036854775808 : Int) ≤ 0), (by decide : (0 : Int) ≤ 9223372036854775807), h⟩
  have wB : ∀ b, wfV (vB b) := fun b => by cases b <;> exact ⟨by decide, by decide, by decide, by decide, by decide⟩
  refine ⟨fun y hy => ?_, by have := rows_six r hr; omega⟩
  rcases List.mem_append.1 hr with hr | hr
  · obtain ⟨t, ht, hr⟩ := List.mem_flatMap.1 hr
    have hwt := hw.tabs t ht
    have g1 := hwt.id
    have g2 := hwt.head
    have g3 := hwt.len
    rcases List.mem_cons.1 hr with rfl | hr
    · simp only [tabRow, List.mem_cons, List.mem_nil_iff, or_false] at hy
      rcases hy with rfl | rfl | rfl | rfl | rfl | rfl
      · exact wN (by decide) (by decide)
      · exact wN (by omega) (by omega)
      · exact wZ
      · exact wT hwt.name
      · exact wN (by omega) (by omega)
      · exact wZ
    · obtain ⟨i, hi, rfl⟩ := List.mem_mapIdx.1 hr
      have hwc := hwt.cols _ (List.getElem_mem hi)
      simp only [colRow, List.mem_cons, List.mem_nil_iff, or_false] at hy
      rcases hy with rfl | rfl | rfl | rfl | rfl | rfl
      · exact wN (by decide) (by decide)
      · exact wN (by omega) (by omega)
      · exact wN (by omega) (by omega)
      · exact wT hwc.s
      · exact wN hwc.k1 hwc.k2
      · exact wB _
  · obtain ⟨t, ht, hr⟩ := List.mem_flatMap.1 hr
    have hwt := hw.idxs t ht
    have g1 := hwt.id
    have g2 := hwt.root
    have g3 := hwt.len
    have g4 := hwt.table
    rcases List.mem_cons.1 hr with rfl | hr
    · simp only [idxRow, List.mem_cons, List.mem_nil_iff, or_false] at hy
      rcases hy with rfl | rfl | rfl | rfl | rfl | rfl
      · exact wN (by decide) (by decide)
      · exact wN (by omega) (by omega)
      · exact wN (by omega) (by omega)
      · exact wT hwt.name
      · exact wN (by omega) (by omega)
      · exact wB _
    · obtain ⟨i, hi, rfl⟩ := List.mem_mapIdx.1 hr
      have hwc := hwt.cols _ (List.getElem_mem hi)
      simp only [keyRow, List.mem_cons, List.mem_nil_iff, or_false] at hy
      rcases hy with rfl | rfl | rfl | rfl | rfl | rfl
      · exact wN (by decide) (by decide)
      · exact wN (by omega) (by omega)
      · exact wN (by omega) (by omega)
      · exact wZ
      · exact wN hwc.1 hwc.2
      · exact wZ
end Go.Proofs.Ytdjacjhojbkgjaa.Ct
