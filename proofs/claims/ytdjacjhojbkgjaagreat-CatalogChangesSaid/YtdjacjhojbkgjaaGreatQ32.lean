/-
  Plain: a schema's rows in their order; what is put in that order is the schema. Conditions: each theorem's own.
-/
import Derived.Test.YtdjacjhojbkgjaaGreatQ31
namespace Go.Proofs.YtdjacjhojbkgjaaGreat.Ct
open Go Go.K Go.Proofs Go.Proofs.YtdjacjhojbkgjaaGreat Go.Proofs.YtdjacjhojbkgjaaGreat.Rw
set_option linter.unusedVariables false
set_option linter.unusedSimpArgs false
set_option maxRecDepth 10000

abbrev colRows (t : PTab) : List (List Val) := t.cols.mapIdx (colRow t)
abbrev keyRows (x : PIdx) : List (List Val) := x.cols.mapIdx (keyRow x)
def sortedQ (s : PSch) : List (List Val) := (s.tabs.map tabRow ++ s.tabs.flatMap colRows) ++ (s.idxs.map idxRow ++ s.idxs.flatMap keyRows)
theorem flat_split {α β : Type} (f : α → β) (g : α → List β) : ∀ l : List α, (l.flatMap fun x => f x :: g x).Perm (l.map f ++ l.flatMap g)
  | [] => .refl _
  | x :: l => by
    simp only [List.flatMap_cons, List.map_cons, List.cons_append]
    refine .cons _ ?_
    have := (flat_split f g l).append_left (g x)
    refine this.trans ?_
    rw [← List.append_assoc, ← List.append_assoc]
    exact List.perm_append_comm.append_right _
theorem sortedQ_perm (s : PSch) : (sortedQ s).Perm (rowsQ s) := ((flat_split tabRow colRows s.tabs).append (flat_split idxRow keyRows s.idxs)).symm
theorem rows_six {s : PSch} : ∀ r ∈ rowsQ s, r.length = 6 := fun r hr => by
  rcases List.mem_append.1 hr with hr | hr
  · obtain ⟨t, _, hr⟩ := List.mem_flatMap.1 hr
    rcases List.mem_cons.1 hr with rfl | hr
    · rfl
    · obtain ⟨i, hi, rfl⟩ := List.mem_mapIdx.1 hr
      rfl
  · obtain ⟨t, _, hr⟩ := List.mem_flatMap.1 hr
    rcases List.mem_cons.1 hr with rfl | hr
    · rfl
    · obtain ⟨i, hi, rfl⟩ := List.mem_mapIdx.1 hr
      rfl
/-! ### A schema that may be -/
structure May0 (s : PSch) : Prop where
  lt : s.tabs.length ≤ 32
  li : s.idxs.length ≤ 64
  tid : s.tabs.Pairwise fun a b => a.id < b.id
  xid : s.idxs.Pairwise fun a b => a.id < b.id
  tok : ∀ t ∈ s.tabs, nameB t.name.data.toList = true ∧ mayB t.cols = true
  xok : ∀ x ∈ s.idxs, nameB x.name.data.toList = true ∧ x.cols.length ≤ 16 ∧ ∀ c ∈ x.cols, 0 ≤ c ∧ c < 16
theorem pair_of {α : Type} {f : α → Nat} {l : List α} (h : ∀ (j : Nat) (x : α), l[j]? = some x → ∀ u ∈ l.take j, f u < f x) : l.Pairwise fun a b => f a < f b :=
  List.pairwise_iff_getElem.2 fun i j hi hj hij => h j _ (List.getElem?_eq_getElem hj) _ (in_take hij (List.getElem?_eq_getElem hi) rfl)
theorem may0 {s : PSch} (hm : mayS s = true) : May0 s := by
  simp only [mayS, Bool.and_eq_true, decide_eq_true_eq] at hm
  obtain ⟨h1, h2, _, _, h3, h4⟩ := hm
  have ht := allB_iff.1 h3
  have hx := allB_iff.1 h4
  have hc16 : ∀ t ∈ s.tabs, t.cols.length ≤ 16 := fun t ht' => by
    obtain ⟨j, hj⟩ := List.mem_iff_getElem?.1 ht'
    have := ht j t hj
    simp only [tabB, Bool.and_eq_true] at this
    exact (mayB_len16 this.2.2.1).2
  refine ⟨h1, h2, pair_of fun j x hj u hu => ?_, pair_of fun j x hj u hu => ?_, fun t ht' => ?_, fun x hx' => ?_⟩
  · have := ht j x hj
    simp only [tabB, Bool.and_eq_true, decide_eq_true_eq] at this
    exact (this.2.2.2 u hu).1
  · have := hx j x hj
    simp only [idxB, Bool.and_eq_true, decide_eq_true_eq] at this
    exact (this.2.2.2 u hu).1
  · obtain ⟨j, hj⟩ := List.mem_iff_getElem?.1 ht'
    have := ht j t hj
    simp only [tabB, Bool.and_eq_true] at this
    exact ⟨this.2.1, this.2.2.1⟩
  · obtain ⟨j, hj⟩ := List.mem_iff_getElem?.1 hx'
    have := hx j x hj
    simp only [idxB, Bool.and_eq_true] at this
    refine ⟨this.2.1, ?_⟩
    have h5 := this.2.2.1
    simp only [plcB] at h5
    cases ho : s.tabs.find? (fun t => decide (t.id = x.table)) with
    | none => rw [ho] at h5; cases h5
    | some t =>
      rw [ho] at h5
      have := hc16 t (List.mem_of_find?_eq_some ho)
      simp only [placesB, Bool.and_eq_true, decide_eq_true_eq] at h5
      exact ⟨h5.2.1, fun c hc => ⟨(h5.2.2.1 c hc).1, by have := (h5.2.2.1 c hc).2; omega⟩⟩
/-! ### The order -/
theorem key_col {t : PTab} {r : List Val} (hr : r ∈ colRows t) : ∃ i : Nat, key3 r = (2, (t.id : Int), (i : Int)) := by
  obtain ⟨i, hi, rfl⟩ := List.mem_mapIdx.1 hr
  exact ⟨i, rfl⟩
theorem key_key {x : PIdx} {r : List Val} (hr : r ∈ keyRows x) : ∃ i : Nat, key3 r = (4, (x.id : Int), (i : Int)) := by
  obtain ⟨i, hi, rfl⟩ := List.mem_mapIdx.1 hr
  exact ⟨i, rfl⟩
def Rising (l : List (List Val)) : Prop := l.Pairwise fun x y => ltK (key3 x) (key3 y)
theorem rise_idx {α : Type} (w id : Int) (f : Nat → α → List Val) (hf : ∀ i x, key3 (f i x) = (w, id, (i : Int))) (l : List α) : Rising (l.mapIdx f) :=
  List.pairwise_iff_getElem.2 fun i j hi hj hij => by
    simp only [List.getElem_mapIdx, hf]
    exact .inr ⟨rfl, .inr ⟨rfl, by show (i : Int) < j; omega⟩⟩
theorem rise_flat {α : Type} (w : Int) (id : α → Nat) (g : α → List (List Val)) (hg : ∀ x, Rising (g x)) (hk : ∀ x r, r ∈ g x → ∃ i : Nat, key3 r = (w, (id x : Int), (i : Int))) : ∀ (l : List α), (l.Pairwise fun a b => id a < id b) → Rising (l.flatMap g)
  | [], _ => .nil
  | x :: l, h => by
    obtain ⟨h1, h2⟩ := List.pairwise_cons.1 h
    rw [Rising, List.flatMap_cons, List.pairwise_append]
    refine ⟨hg x, rise_flat w id g hg hk l h2, fun a ha b hb => ?_⟩
    obtain ⟨y, hy, hb⟩ := List.mem_flatMap.1 hb
    obtain ⟨i, e1⟩ := hk x a ha
    obtain ⟨j, e2⟩ := hk y b hb
    rw [e1, e2]
    exact .inr ⟨rfl, .inl (by have := h1 y hy; show (id x : Int) < id y; omega)⟩
theorem rising {s : PSch} (hm : May0 s) : Rising (sortedQ s) := by
  have k1 : ∀ r ∈ s.tabs.map tabRow, (key3 r).1 = 1 := fun r hr => by
    obtain ⟨t, _, rfl⟩ := List.mem_map.1 hr; rfl
  have k2 : ∀ r ∈ s.tabs.flatMap colRows, (key3 r).1 = 2 := fun r hr => by
    obtain ⟨t, _, hr⟩ := List.mem_flatMap.1 hr
    obtain ⟨i, e⟩ := key_col hr
    rw [e]
  have k3 : ∀ r ∈ s.idxs.map idxRow, (key3 r).1 = 3 := fun r hr => by
    obtain ⟨t, _, rfl⟩ := List.mem_map.1 hr; rfl
  have k4 : ∀ r ∈ s.idxs.flatMap keyRows, (key3 r).1 = 4 := fun r hr => by
    obtain ⟨t, _, hr⟩ := List.mem_flatMap.1 hr
    obtain ⟨i, e⟩ := key_key hr
    rw [e]
  have lo : ∀ {a b : List Val} {m n : Int}, (key3 a).1 = m → (key3 b).1 = n → m < n → ltK (key3 a) (key3 b) := fun e1 e2 h => .inl (by rw [e1, e2]; exact h)
  rw [Rising, sortedQ, List.pairwise_append, List.pairwise_append, List.pairwise_append]
  refine ⟨⟨List.pairwise_map.2 (hm.tid.imp fun h => .inr ⟨rfl, .inl (Int.ofNat_lt.2 h)⟩), rise_flat 2 PTab.id colRows (fun t => rise_idx 2 t.id _ (fun i x => rfl) _) (fun t r hr => key_col hr) _ hm.tid, fun a ha b hb => lo (k1 a ha) (k2 b hb) (by decide)⟩,
    ⟨List.pairwise_map.2 (hm.xid.imp fun h => .inr ⟨rfl, .inl (Int.ofNat_lt.2 h)⟩), rise_flat 4 PIdx.id keyRows (fun t => rise_idx 4 t.id _ (fun i x => rfl) _) (fun t r hr => key_key hr) _ hm.xid, fun a ha b hb => lo (k3 a ha) (k4 b hb) (by decide)⟩, fun a ha b hb => ?_⟩
  rcases List.mem_append.1 ha with ha | ha <;> rcases List.mem_append.1 hb with hb | hb
  · exact lo (k1 a ha) (k3 b hb) (by decide)
  · exact lo (k1 a ha) (k4 b hb) (by decide)
  · exact lo (k2 a ha) (k3 b hb) (by decide)
  · exact lo (k2 a ha) (k4 b hb) (by decide)
theorem rise_inj {l : List (List Val)} (hr : Rising l) {a b : List Val} (ha : a ∈ l) (hb : b ∈ l) (e : key3 a = key3 b) : a = b := by
  obtain ⟨i, hi, rfl⟩ := List.getElem_of_mem ha
  obtain ⟨j, hj, rfl⟩ := List.getElem_of_mem hb
  rcases Nat.lt_trichotomy i j with h | h | h
  · have := List.pairwise_iff_getElem.1 hr i j hi hj h
    rw [e] at this
    exact absurd this (ltK_irr _)
  · subst h; rfl
  · have := List.pairwise_iff_getElem.1 hr j i hj hi h
    rw [e] at this
    exact absurd this (ltK_irr _)
theorem sorted_one {s : PSch} (hm : May0 s) {l : List (List Val)} (hp : l.Perm (rowsQ s)) (hr : RiseR l) : l = sortedQ s := by
  have hp2 := hp.trans (sortedQ_perm s).symm
  refine List.Perm.eq_of_pairwise (le := fun x y => ¬ ltK (key3 y) (key3 x)) (fun a b ha hb h1 h2 => ?_) hr ((rising hm).imp fun h h2 => ltK_irr _ (ltK_trans h h2)) hp2
  exact rise_inj (rising hm) (hp2.subset ha) hb (ltK_tri h2 h1)
/-! ### What is put -/
def putAll : List (List Val) → PSch → Option PSch
  | [], s => some s
  | r :: l, s => match putQ s r with
    | some s' => putAll l s'
    | none => none
theorem putAll_append : ∀ (l l' : List (List Val)) (s : PSch), putAll (l ++ l') s = (putAll l s).bind (putAll l')
  | [], l', s => rfl
  | r :: l, l', s => by
    simp only [List.cons_append, putAll]
    cases putQ s r with
    | none => rfl
    | some s' => exact putAll_append l l' s'
theorem nn_of {n : Int} (h0 : 0 ≤ n) (h1 : n ≤ 4294967295) : nnV (vN n) = true := decide_eq_true ⟨h0, h1⟩
theorem nn_z : nnV vZ = true := rfl
theorem put_tabs : ∀ (l : List PTab) (s : PSch), (∀ t ∈ l, wfTb t) → putAll (l.map tabRow) s = some ⟨s.tabs ++ l.map (fun t => { t with cols := [] }), s.idxs⟩
  | [], s, _ => by simp [putAll]
  | t :: l, s, hw => by
    have h := hw t List.mem_cons_self
    have e : putQ s (tabRow t) = some ⟨s.tabs ++ [{ t with cols := [] }], s.idxs⟩ := by
      have h1 := h.id
      have h2 := h.head
      simp only [putQ, tabRow, nn_of (n := t.id) (by omega) (by omega), nn_of (n := t.head) (by omega) (by omega), nn_z, Bool.and_self, if_true, Int.toNat_natCast]
    rw [List.map_cons, putAll, e]
    simp only
    rw [put_tabs l _ fun x hx => hw x (List.mem_cons_of_mem _ hx)]
    simp
theorem addCol_mid {id : Nat} {c : Col} {l1 l2 : List PTab} {t : PTab} (h1 : ∀ u ∈ l1, u.id ≠ id) (ht : t.id = id) : addCol id c (l1 ++ t :: l2) = some (l1 ++ { t with cols := t.cols ++ [c] } :: l2) := by
  induction l1 with
  | nil => rw [List.nil_append, addCol, if_pos ht]; rfl
  | cons u l1 ih =>
    rw [List.cons_append, addCol, if_neg (h1 u List.mem_cons_self), ih fun x hx => h1 x (List.mem_cons_of_mem _ hx)]
    rfl
theorem addKey_mid {id : Nat} {c : Int} {l1 l2 : List PIdx} {t : PIdx} (h1 : ∀ u ∈ l1, u.id ≠ id) (ht : t.id = id) : addKey id c (l1 ++ t :: l2) = some (l1 ++ { t with cols := t.cols ++ [c] } :: l2) := by
  induction l1 with
  | nil => rw [List.nil_append, addKey, if_pos ht]; rfl
  | cons u l1 ih =>
    rw [List.cons_append, addKey, if_neg (h1 u List.mem_cons_self), ih fun x hx => h1 x (List.mem_cons_of_mem _ hx)]
    rfl
theorem vB_n (b : Bool) : decide ((if b = true then (1 : Int) else 0) = 1) = b := by cases b <;> rfl
theorem put_cols (t : PTab) (hid : t.id < 4294967296) (l1 l2 : List PTab) (xs : List PIdx) (h1 : ∀ u ∈ l1, u.id ≠ t.id) : ∀ (k : Nat) (cs pre : List Col), (∀ c ∈ cs, 0 ≤ c.kind ∧ c.kind ≤ 3) → k + cs.length ≤ 4294967296 →
    putAll (cs.mapIdx fun i c => colRow t (k + i) c) ⟨l1 ++ { t with cols := pre } :: l2, xs⟩ = some ⟨l1 ++ { t with cols := pre ++ cs } :: l2, xs⟩
  | k, [], pre, _, _ => by simp [putAll]
  | k, c :: cs, pre, hc, hk => by
    have hc0 := hc c List.mem_cons_self
    simp only [List.length_cons] at hk
    have e : putQ ⟨l1 ++ { t with cols := pre } :: l2, xs⟩ (colRow t (k + 0) c) = some ⟨l1 ++ { t with cols := pre ++ [c] } :: l2, xs⟩ := by
      simp only [putQ, colRow, nn_of (n := t.id) (by omega) (by omega), nn_of (n := ((k + 0 : Nat) : Int)) (by omega) (by omega), nn_of (n := c.kind) (by omega) (by omega), Bool.and_self, if_true, Int.toNat_natCast]
      rw [if_neg (by decide), vB_n, addCol_mid (t := { t with cols := pre }) h1 rfl]
      rfl
    rw [List.mapIdx_cons, putAll, e]
    simp only
    have := put_cols t hid l1 l2 xs h1 (k + 1) cs (pre ++ [c]) (fun x hx => hc x (List.mem_cons_of_mem _ hx)) (by omega)
    rw [show (fun i c => colRow t (k + (i + 1)) c) = fun i c => colRow t (k + 1 + i) c from by funext i c; rw [show k + (i + 1) = k + 1 + i by omega], this, List.append_assoc]
    rfl
theorem put_allcols (xs : List PIdx) : ∀ (l l1 : List PTab), (∀ t ∈ l, t.id < 4294967296 ∧ mayB t.cols = true) → ((l1 ++ l).Pairwise fun a b => a.id < b.id) → putAll (l.flatMap colRows) ⟨l1 ++ l.map (fun t => { t with cols := [] }), xs⟩ = some ⟨l1 ++ l, xs⟩
  | [], l1, _, _ => by simp [putAll]
  | t :: l, l1, hl, hp => by
    obtain ⟨h1, h2⟩ := hl t List.mem_cons_self
    have h16 := mayB_len16 h2
    have hck : ∀ c ∈ t.cols, 0 ≤ c.kind ∧ c.kind ≤ 3 := fun c hc => by
      simp only [mayB, Bool.and_eq_true] at h2
      have := List.all_eq_true.1 h2.1.2 c hc
      simp only [okC, Bool.and_eq_true, decide_eq_true_eq] at this
      omega
    have hn : ∀ u ∈ l1, u.id ≠ t.id := fun u hu => by
      have := (List.pairwise_append.1 hp).2.2 u hu t List.mem_cons_self
      omega
    rw [List.flatMap_cons, putAll_append, List.map_cons]
    have e := put_cols t h1 l1 (l.map fun t => { t with cols := [] }) xs hn 0 t.cols [] hck (by omega)
    simp only [Nat.zero_add, List.nil_append] at e
    rw [show colRows t = t.cols.mapIdx fun i c => colRow t i c from rfl, e]
    have := put_allcols xs l (l1 ++ [t]) (fun x hx => hl x (List.mem_cons_of_mem _ hx)) (by rw [List.append_assoc]; exact hp)
    simpa [List.append_assoc] using this
theorem put_idxs : ∀ (l : List PIdx) (s : PSch), (∀ t ∈ l, wfIx t) → putAll (l.map idxRow) s = some ⟨s.tabs, s.idxs ++ l.map (fun t => { t with cols := [] })⟩
  | [], s, _ => by simp [putAll]
  | t :: l, s, hw => by
    have h := hw t List.mem_cons_self
    have e : putQ s (idxRow t) = some ⟨s.tabs, s.idxs ++ [{ t with cols := [] }]⟩ := by
      have h1 := h.id
      have h2 := h.root
      have h3 := h.table
      simp only [putQ, idxRow, nn_of (n := t.id) (by omega) (by omega), nn_of (n := t.root) (by omega) (by omega), nn_of (n := t.table) (by omega) (by omega), Bool.and_self, if_true, Int.toNat_natCast]
      rw [if_neg (by decide), if_neg (by decide), vB_n]
    rw [List.map_cons, putAll, e]
    simp only
    rw [put_idxs l _ fun x hx => hw x (List.mem_cons_of_mem _ hx)]
    simp
theorem put_keys (t : PIdx) (hid : t.id < 4294967296) (l1 l2 : List PIdx) (xs : List PTab) (h1 : ∀ u ∈ l1, u.id ≠ t.id) : ∀ (k : Nat) (cs pre : List Int), (∀ c ∈ cs, 0 ≤ c ∧ c < 16) → k + cs.length ≤ 4294967296 →
    putAll (cs.mapIdx fun i c => keyRow t (k + i) c) ⟨xs, l1 ++ { t with cols := pre } :: l2⟩ = some ⟨xs, l1 ++ { t with cols := pre ++ cs } :: l2⟩
  | k, [], pre, _, _ => by simp [putAll]
  | k, c :: cs, pre, hc, hk => by
    have hc0 := hc c List.mem_cons_self
    simp only [List.length_cons] at hk
    have e : putQ ⟨xs, l1 ++ { t with cols := pre } :: l2⟩ (keyRow t (k + 0) c) = some ⟨xs, l1 ++ { t with cols := pre ++ [c] } :: l2⟩ := by
      simp only [putQ, keyRow, nn_of (n := t.id) (by omega) (by omega), nn_of (n := ((k + 0 : Nat) : Int)) (by omega) (by omega), nn_of (n := c) (by omega) (by omega), Bool.and_self, if_true, Int.toNat_natCast]
      rw [if_neg (by decide), if_neg (by decide), if_neg (by decide), addKey_mid (t := { t with cols := pre }) h1 rfl]
      rfl
    rw [List.mapIdx_cons, putAll, e]
    simp only
    have := put_keys t hid l1 l2 xs h1 (k + 1) cs (pre ++ [c]) (fun x hx => hc x (List.mem_cons_of_mem _ hx)) (by omega)
    rw [show (fun i c => keyRow t (k + (i + 1)) c) = fun i c => keyRow t (k + 1 + i) c from by funext i c; rw [show k + (i + 1) = k + 1 + i by omega], this, List.append_assoc]
    rfl
theorem put_allkeys (xs : List PTab) : ∀ (l l1 : List PIdx), (∀ t ∈ l, t.id < 4294967296 ∧ t.cols.length ≤ 16 ∧ ∀ c ∈ t.cols, 0 ≤ c ∧ c < 16) → ((l1 ++ l).Pairwise fun a b => a.id < b.id) → putAll (l.flatMap keyRows) ⟨xs, l1 ++ l.map (fun t => { t with cols := [] })⟩ = some ⟨xs, l1 ++ l⟩
  | [], l1, _, _ => by simp [putAll]
  | t :: l, l1, hl, hp => by
    obtain ⟨h1, h2, h3⟩ := hl t List.mem_cons_self
    have hn : ∀ u ∈ l1, u.id ≠ t.id := fun u hu => by
      have := (List.pairwise_append.1 hp).2.2 u hu t List.mem_cons_self
      omega
    rw [List.flatMap_cons, putAll_append, List.map_cons]
    have e := put_keys t h1 l1 (l.map fun t => { t with cols := [] }) xs hn 0 t.cols [] h3 (by omega)
    simp only [Nat.zero_add, List.nil_append] at e
    rw [show keyRows t = t.cols.mapIdx fun i c => keyRow t i c from rfl, e]
    have := put_allkeys xs l (l1 ++ [t]) (fun x hx => hl x (List.mem_cons_of_mem _ hx)) (by rw [List.append_assoc]; exact hp)
    simpa [List.append_assoc] using this
theorem put_sorted {s : PSch} (hm : May0 s) (hw : wfS s) : putAll (sortedQ s) ⟨[], []⟩ = some s := by
  have e1 := put_tabs s.tabs ⟨[], []⟩ hw.tabs
  have e2 := put_allcols [] s.tabs [] (fun t ht => ⟨(hw.tabs t ht).id, (hm.tok t ht).2⟩) (by simpa using hm.tid)
  have e3 := put_idxs s.idxs ⟨s.tabs, []⟩ hw.idxs
  have e4 := put_allkeys s.tabs s.idxs [] (fun t ht => ⟨(hw.idxs t ht).id, (hm.xok t ht).2⟩) (by simpa using hm.xid)
  simp only [List.nil_append] at e1 e2 e3 e4
  rw [sortedQ, putAll_append, putAll_append, e1]
  simp only [Option.bind_some]
  rw [e2]
  simp only [Option.bind_some]
  rw [putAll_append, e3]
  simp only [Option.bind_some]
  rw [e4]
end Go.Proofs.YtdjacjhojbkgjaaGreat.Ct
