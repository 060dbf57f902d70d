/-
  Trees of pages: a right tree's entries rise, and the first one that is not below a text is found; the law's walk. Conditions: each theorem's own.
-/
import Derived.Test.YtahdbncfegedjaaYd

namespace Go.Proofs.Ytahdbncfegedjaa.Nd
open Go Go.K Go.Proofs Go.Proofs.Ytahdbncfegedjaa Go.Proofs.Ytahdbncfegedjaa.Pg
set_option linter.unusedVariables false
set_option linter.unusedSimpArgs false
set_option maxRecDepth 10000

theorem lt_le {a b c : List UInt8} (h1 : lt8 a b = true) (h2 : lt8 c b = false) : lt8 a c = true := by
  have h3 := less_tot b c
  rw [show Op.bytesLess c b = false from h2] at h3
  simp only [Bool.not_false] at h3
  rcases Bool.or_eq_true_iff.1 h3.symm with h | h
  · exact lt8_trans h1 h
  · have := of_decide_eq_true h
    rw [← this]; exact h1
theorem le_lt {a b c : List UInt8} (h1 : lt8 b a = false) (h2 : lt8 b c = true) : lt8 a c = true := by
  cases h : lt8 a c with
  | true => rfl
  | false => have := lt_le h2 h; rw [h1] at this; cases this
theorem le_le {a b c : List UInt8} (h1 : lt8 b a = false) (h2 : lt8 c b = false) : lt8 c a = false := by
  cases h : lt8 c a with
  | false => rfl
  | true => have := lt_le h h1; rw [h2] at this; cases this
abbrev Lv := Nat × Pag
def Kids (R : Nat × Plc → List Lv → Prop) : List (Nat × Plc) → List Lv → Prop
  | [], L => L = []
  | y :: r, L => ∃ L1 L2, R y L1 ∧ Kids R r L2 ∧ L = L1 ++ L2
def TrL (G : Option GetQ) : Nat → Nat × Plc → List Lv → Prop
  | 0, _, _ => False
  | k + 1, y, L => ∃ p, pageQ G y.1 = .ok p ∧ (∀ c ∈ p.cells, fineQ y.2 (keyQ p.kind c) = true) ∧ ((p.kind = 2 ∧ L = [(y.1, p)]) ∨ (¬ p.kind = 2 ∧ Kids (TrL G k) (kplc y.2 p) L))
def Both (G : Option GetQ) (k : Nat) : Prop := ∀ (s : List Nat) (st : CkS) (y : Nat × Plc) (q : List Nat × CkS), walkQ G visC k (s, st) y = .ok q → ∃ L, TrL G k y L ∧ q.2.leaves = st.leaves ++ L.map (·.1) ∧ q.2.nexts = st.nexts ++ L.map (·.2.next) ∧ (L.length + s.length ≤ q.1.length ∧ (SeenG G s → SeenG G q.1)) ∧ ∀ sa, walkQ G visA k (s, sa) y = .ok (q.1, sa ++ L.flatMap (·.2.cells))
theorem fold_both {G : Option GetQ} {k : Nat} (ih : Both G k) : ∀ (l : List (Nat × Plc)) (s : List Nat) (st : CkS) (q : List Nat × CkS), foldE (walkQ G visC k) l (s, st) = .ok q → ∃ L, Kids (TrL G k) l L ∧ q.2.leaves = st.leaves ++ L.map (·.1) ∧ q.2.nexts = st.nexts ++ L.map (·.2.next) ∧ (L.length + s.length ≤ q.1.length ∧ (SeenG G s → SeenG G q.1)) ∧ ∀ sa, foldE (walkQ G visA k) l (s, sa) = .ok (q.1, sa ++ L.flatMap (·.2.cells))
  | [], s, st, q, h => by
    cases h
    exact ⟨[], rfl, by simp, by simp, ⟨by simp, fun h => h⟩, fun sa => by simp [foldE]⟩
  | y :: r, s, st, q, h => by
    rw [foldE] at h
    split at h
    · cases h
    · rename_i q1 h1
      obtain ⟨s1, st1⟩ := q1
      obtain ⟨L1, a1, b1, c1, ⟨n1, g1⟩, d1⟩ := ih _ _ _ _ h1
      obtain ⟨L2, a2, b2, c2, ⟨n2, g2⟩, d2⟩ := fold_both ih r s1 st1 q h
      dsimp only at n1 g1
      refine ⟨L1 ++ L2, ⟨L1, L2, a1, a2, rfl⟩, ?_, ?_, ⟨by rw [List.length_append]; omega, fun h => g2 (g1 h)⟩, fun sa => ?_⟩
      · rw [b2, b1]; simp
      · rw [c2, c1]; simp
      · rw [foldE, d1]
        dsimp only
        rw [d2]
        simp
theorem visC_fine {st st' : CkS} {n : Nat} {p : Pag} {x : Plc} (h : visC st n p x = .ok st') : ∀ c ∈ p.cells, fineQ x (keyQ p.kind c) = true := by
  unfold visC at h
  split at h
  · rename_i ha
    exact List.all_eq_true.1 ha
  · cases h
theorem walk_both {G : Option GetQ} : ∀ k, Both G k
  | 0 => fun s st y q h => by cases h
  | k + 1 => fun s st y q h => by
    rw [walkQ] at h
    split at h
    · cases h
    · rename_i hin
      split at h
      · cases h
      · rename_i p hp
        split at h
        · cases h
        · rename_i st1 hst
          have hf := visC_fine hst
          dsimp only at hst hin
          rcases visC_leaf hst with ⟨h2, rfl, _⟩ | ⟨h2, rfl⟩
          · rw [if_pos h2] at h
            cases h
            refine ⟨[(y.1, p)], ⟨p, hp, hf, .inl ⟨h2, rfl⟩⟩, rfl, rfl, ⟨by simp; omega, fun hs => hs.cons hin hp⟩, fun sa => ?_⟩
            rw [walkQ, if_neg hin, hp]
            simp [visA, h2]
          · rw [if_neg h2] at h
            obtain ⟨L, a, b, c, ⟨nn, g⟩, d⟩ := fold_both (walk_both k) _ _ _ _ h
            refine ⟨L, ⟨p, hp, hf, .inr ⟨h2, a⟩⟩, b, c, ⟨by simp at nn ⊢; omega, fun hs => g (hs.cons hin hp)⟩, fun sa => ?_⟩
            rw [walkQ, if_neg hin, hp]
            simp only [visA, if_neg h2]
            exact d sa

/-! ### Where entries lie -/
structure InP (x : Plc) (d : List UInt8) : Prop where
  lo : lt8 d x.lo = false
  hi : x.fin = true → lt8 d x.hi = true
theorem fine_in {x : Plc} {d : List UInt8} (h : fineQ x d = true) : InP x d := by
  unfold fineQ at h
  simp only [Bool.and_eq_true, Bool.or_eq_true, Bool.not_eq_true'] at h
  exact ⟨h.2.1, fun hf => by rcases h.2.2 with h | h <;> simp_all⟩
theorem cells_rise {p : Pag} (h : goodP p = true) : p.cells.Pairwise fun a b => lt8 (keyQ p.kind a) (keyQ p.kind b) = true := by
  obtain ⟨a, b, c⟩ := good_iff.1 h
  have hm := (mayQ_iff p).1 a
  refine pair_of (R := fun a b : PCell => lt8 (keyQ p.kind a) (keyQ p.kind b) = true) (fun a b c h1 h2 => lt8_trans h1 h2) fun i x y hx hy => ?_
  have := ((hm.2.2.1 (i + 1) y hy).2.2 b).2.2 (by omega)
  rw [ltPrev, show i + 1 - 1 = i by omega, hx] at this
  have h2 := of_decide_eq_true this
  show Op.bytesLess _ _ = true
  rw [K.less_iff]
  exact decide_eq_true h2
theorem rise_at {p : Pag} (h : goodP p = true) {i j : Nat} {x y : PCell} (hx : p.cells[i]? = some x) (hy : p.cells[j]? = some y) (hij : i ≤ j) : lt8 (keyQ p.kind y) (keyQ p.kind x) = false := by
  rcases Nat.lt_or_ge i j with hl | hl
  · have := List.pairwise_iff_getElem.1 (cells_rise h) i j (List.getElem?_eq_some_iff.1 hx).1 (List.getElem?_eq_some_iff.1 hy).1 hl
    rw [(List.getElem?_eq_some_iff.1 hx).2, (List.getElem?_eq_some_iff.1 hy).2] at this
    exact lt8_asymm this
  · obtain rfl : i = j := by omega
    rw [hx] at hy; cases hy
    exact lt8_irr _
theorem kids_mem {R : Nat × Plc → List Lv → Prop} : ∀ {l : List (Nat × Plc)} {L : List Lv}, Kids R l L → ∀ e ∈ L, ∃ y ∈ l, ∃ L1, R y L1 ∧ e ∈ L1
  | [], L, h, e, he => by cases h; cases he
  | y :: r, L, ⟨L1, L2, h1, h2, h3⟩, e, he => by
    subst h3
    rcases List.mem_append.1 he with he | he
    · exact ⟨y, List.mem_cons_self .., L1, h1, he⟩
    · obtain ⟨z, hz, L3, h4, h5⟩ := kids_mem h2 e he
      exact ⟨z, List.mem_cons_of_mem _ hz, L3, h4, h5⟩
theorem kids_split {R : Nat × Plc → List Lv → Prop} {y : Nat × Plc} {l2 : List (Nat × Plc)} : ∀ {l1 : List (Nat × Plc)} {L : List Lv}, Kids R (l1 ++ y :: l2) L → ∃ La Lj Lb, L = La ++ (Lj ++ Lb) ∧ Kids R l1 La ∧ R y Lj ∧ Kids R l2 Lb
  | [], L, ⟨L1, L2, h1, h2, h3⟩ => ⟨[], L1, L2, h3, rfl, h1, h2⟩
  | z :: l1, L, ⟨L1, L2, h1, h2, h3⟩ => by
    obtain ⟨La, Lj, Lb, e, a, b, c⟩ := kids_split h2
    exact ⟨L1 ++ La, Lj, Lb, by rw [h3, e, List.append_assoc], ⟨L1, La, h1, a, rfl⟩, b, c⟩
theorem kplc_at {x : Plc} {p : Pag} {j : Nat} {y : Nat × Plc} (h : (kplc x p)[j]? = some y) : j ≤ p.cells.length ∧ y = (((kidsQ p).getD j ([], 0)).2, plcAt x p j) := by
  have hl := (List.getElem?_eq_some_iff.1 h).1
  rw [kplc_len, kids_len] at hl
  refine ⟨by omega, ?_⟩
  rw [kplc, List.getElem?_map, List.getElem?_range (by rw [kids_len]; exact hl)] at h
  cases h; rfl
theorem kid_key {p : Pag} {j : Nat} {c : PCell} (h : p.cells[j]? = some c) : (kidsQ p).getD (j + 1) ([], 0) = (keyOf c, childOf c) := by
  rw [List.getD_eq_getElem?_getD, kidsQ, List.getElem?_cons_succ, List.getElem?_map, h]; rfl
theorem key3 {p : Pag} (h3 : p.kind = 3) (c : PCell) : keyQ p.kind c = keyOf c := by rw [keyQ, if_pos h3]; rfl
theorem plc_in {x : Plc} {p : Pag} (h3 : p.kind = 3) (hf : ∀ c ∈ p.cells, fineQ x (keyQ p.kind c) = true) {j : Nat} (hj : j ≤ p.cells.length) {d : List UInt8} (h : InP (plcAt x p j) d) : InP x d := by
  refine ⟨?_, fun hx => ?_⟩
  · cases j with
    | zero => exact h.lo
    | succ j =>
      obtain ⟨c, hc⟩ : ∃ c, p.cells[j]? = some c := ⟨_, List.getElem?_eq_getElem (by omega)⟩
      have h1 := h.lo
      unfold plcAt at h1
      dsimp only at h1
      rw [if_pos (Nat.succ_pos j), kid_key hc] at h1
      have h2 := (fine_in (hf c (List.mem_of_getElem? hc))).lo
      rw [key3 h3] at h2
      exact le_le h2 h1
  · by_cases hjl : j < p.cells.length
    · obtain ⟨c, hc⟩ : ∃ c, p.cells[j]? = some c := ⟨_, List.getElem?_eq_getElem hjl⟩
      have h1 := h.hi
      unfold plcAt at h1
      dsimp only at h1
      rw [if_pos hjl, if_pos hjl, List.getD_eq_getElem?_getD, hc] at h1
      have h2 := (fine_in (hf c (List.mem_of_getElem? hc))).hi hx
      rw [key3 h3] at h2
      exact lt8_trans (h1 rfl) h2
    · have h1 := h.hi
      unfold plcAt at h1
      dsimp only at h1
      rw [if_neg hjl, if_neg hjl] at h1
      exact h1 hx
/-- One child's entries are below the next one's. -/
theorem plc_below {x : Plc} {p : Pag} (hg : goodP p = true) (h3 : p.kind = 3) {i j : Nat} (hij : i < j) (hj : j ≤ p.cells.length) : (plcAt x p i).fin = true ∧ lt8 (plcAt x p j).lo (plcAt x p i).hi = false := by
  obtain ⟨c, hc⟩ : ∃ c, p.cells[i]? = some c := ⟨_, List.getElem?_eq_getElem (by omega)⟩
  obtain ⟨d, hd⟩ : ∃ c, p.cells[j - 1]? = some c := ⟨_, List.getElem?_eq_getElem (by omega)⟩
  have hr := rise_at hg hc hd (by omega)
  rw [key3 h3, key3 h3] at hr
  have hk := kid_key hd
  rw [show j - 1 + 1 = j by omega] at hk
  unfold plcAt
  dsimp only
  rw [if_pos (show i < p.cells.length by omega), if_pos (show 0 < j by omega), if_pos (show i < p.cells.length by omega), hk, List.getD_eq_getElem?_getD, hc]
  exact ⟨rfl, hr⟩
theorem tr_in {G : Option GetQ} : ∀ {k : Nat} {y : Nat × Plc} {L : List Lv}, TrL G k y L → ∀ e ∈ L, (pageQ G e.1 = .ok e.2 ∧ e.2.kind = 2) ∧ ∀ c ∈ e.2.cells, InP y.2 c.data
  | 0, y, L, h, e, he => h.elim
  | k + 1, y, L, ⟨p, hp, hf, h⟩, e, he => by
    rcases h with ⟨h2, rfl⟩ | ⟨h2, hk⟩
    · rw [List.mem_singleton.1 he]
      refine ⟨⟨hp, h2⟩, fun c hc => ?_⟩
      have := fine_in (hf c hc)
      rw [keyQ, if_neg (by omega)] at this
      exact this
    · obtain ⟨z, hz, L1, h4, h5⟩ := kids_mem hk e he
      obtain ⟨j, hj⟩ := List.mem_iff_getElem?.1 hz
      obtain ⟨hjl, rfl⟩ := kplc_at hj
      obtain ⟨a, b⟩ := tr_in h4 e h5
      exact ⟨a, fun c hc => plc_in (inner_of (page_good hp) h2).2.1 hf hjl (b c hc)⟩
def Rise (l : List PCell) : Prop := l.Pairwise fun a b => lt8 a.data b.data = true
theorem kids_rising {R : Nat × Plc → List Lv → Prop} (hin : ∀ y L, R y L → ∀ e ∈ L, ∀ c ∈ e.2.cells, InP y.2 c.data) (hr : ∀ y L, R y L → Rise (L.flatMap (·.2.cells))) :
    ∀ {l : List (Nat × Plc)} {L : List Lv}, l.Pairwise (fun y z => y.2.fin = true ∧ lt8 z.2.lo y.2.hi = false) → Kids R l L → Rise (L.flatMap (·.2.cells))
  | [], L, _, h => by cases h; exact List.Pairwise.nil
  | y :: r, L, hp, ⟨L1, L2, h1, h2, h3⟩ => by
    subst h3
    obtain ⟨g1, g2⟩ := List.pairwise_cons.1 hp
    rw [List.flatMap_append]
    refine List.pairwise_append.2 ⟨hr y L1 h1, kids_rising hin hr g2 h2, fun a ha b hb => ?_⟩
    obtain ⟨e, he, hae⟩ := List.mem_flatMap.1 ha
    obtain ⟨f, hf, hbf⟩ := List.mem_flatMap.1 hb
    have ia := hin y L1 h1 e he a hae
    obtain ⟨z, hz, L3, h4, h5⟩ := kids_mem h2 f hf
    have ib := hin z L3 h4 f h5 b hbf
    obtain ⟨q1, q2⟩ := g1 z hz
    exact lt_le (lt_le (ia.hi q1) q2) ib.lo
theorem kplc_pair {x : Plc} {p : Pag} (hg : goodP p = true) (h3 : p.kind = 3) : (kplc x p).Pairwise (fun y z => y.2.fin = true ∧ lt8 z.2.lo y.2.hi = false) := by
  rw [List.pairwise_iff_getElem]
  intro i j hi hj hij
  obtain ⟨_, e1⟩ := kplc_at (List.getElem?_eq_getElem hi)
  obtain ⟨hjl, e2⟩ := kplc_at (List.getElem?_eq_getElem hj)
  rw [e1, e2]
  exact plc_below hg h3 hij hjl
theorem tr_rise {G : Option GetQ} : ∀ {k : Nat} {y : Nat × Plc} {L : List Lv}, TrL G k y L → Rise (L.flatMap (·.2.cells))
  | 0, y, L, h => h.elim
  | k + 1, y, L, ⟨p, hp, hf, h⟩ => by
    have hg := page_good hp
    rcases h with ⟨h2, rfl⟩ | ⟨h2, hk⟩
    · have := cells_rise hg
      simp only [List.flatMap_cons, List.flatMap_nil, List.append_nil]
      refine this.imp fun {a b} h => ?_
      rw [keyQ, keyQ, if_neg (by omega), if_neg (by omega)] at h
      exact h
    · have h3 := (inner_of hg h2).2.1
      exact kids_rising (fun y L h e he => (tr_in h e he).2) (fun y L h => tr_rise h) (kplc_pair hg h3) hk
theorem step_at {s : List UInt8} : ∀ (l : List Kid) (n : Nat), (∃ (j : Nat) (x : Kid), l[j]? = some x ∧ lt8 s x.1 = false ∧ l.foldl (stepF s) n = x.2) ∨ (l.foldl (stepF s) n = n ∧ ∀ x ∈ l, lt8 s x.1 = true)
  | [], n => .inr ⟨rfl, fun x hx => by cases hx⟩
  | y :: l, n => by
    rw [List.foldl_cons]
    rcases step_at l (stepF s n y) with ⟨j, x, h1, h2, h3⟩ | ⟨h1, h2⟩
    · exact .inl ⟨j + 1, x, by simpa using h1, h2, h3⟩
    · cases hy : lt8 s y.1 with
      | false => exact .inl ⟨0, y, rfl, hy, by rw [h1, stepF, hy]; rfl⟩
      | true =>
        refine .inr ⟨by rw [h1, stepF, hy]; rfl, fun x hx => ?_⟩
        rcases List.mem_cons.1 hx with rfl | hx
        · exact hy
        · exact h2 x hx
theorem step_kid (p : Pag) (s : List UInt8) : ∃ (j : Nat) (x : Kid), (kidsQ p)[j]? = some x ∧ lt8 s x.1 = false ∧ stepQ p s = x.2 := by
  rcases step_at (s := s) (kidsQ p) p.next with h | ⟨_, h⟩
  · exact h
  · have := h ([], p.next) (by simp [kidsQ])
    cases s <;> simp [lt8, Op.bytesLess] at this
theorem way_tr {G : Option GetQ} {s : List UInt8} : ∀ {k K : Nat} {y : Nat × Plc} {L : List Lv}, TrL G k y L → k ≤ K + 1 → ∃ l, wayQ G s K y.1 = .ok l ∧ ∃ L1 e L2, L = L1 ++ e :: L2 ∧ l.getLastD 0 = e.1 ∧ ∀ f ∈ L1, ∀ c ∈ f.2.cells, lt8 c.data s = true
  | 0, K, y, L, h, _ => h.elim
  | k + 1, K, y, L, ⟨p, hp, hf, h⟩, hK => by
    have hg := page_good hp
    rcases h with ⟨h2, rfl⟩ | ⟨h2, hk⟩
    · exact ⟨[y.1], way_leaf hp h2, [], (y.1, p), [], rfl, rfl, fun f hf => by cases hf⟩
    · have h3 := (inner_of hg h2).2.1
      obtain ⟨j, x, hj, hx, hst⟩ := step_kid p s
      have hjl := (List.getElem?_eq_some_iff.1 hj).1
      have hgd : (kidsQ p).getD j ([], 0) = x := by rw [List.getD_eq_getElem?_getD, hj]; rfl
      have hsp : kplc y.2 p = (kplc y.2 p).take j ++ (x.2, plcAt y.2 p j) :: (kplc y.2 p).drop (j + 1) := by
        have h4 : j < (kplc y.2 p).length := by rw [kplc_len]; exact hjl
        obtain ⟨_, e⟩ := kplc_at (List.getElem?_eq_getElem h4)
        rw [hgd] at e
        rw [← e, ← List.drop_eq_getElem_cons h4, List.take_append_drop]
      rw [hsp] at hk
      obtain ⟨La, Lj, Lb, e, ha, hb, hc⟩ := kids_split hk
      cases K with
      | zero =>
        have : k = 0 := by omega
        subst this
        exact hb.elim
      | succ K =>
        obtain ⟨l, hl, L1, e1, L2, hL, hlast, hbe⟩ := way_tr (s := s) hb (by omega : k ≤ K + 1)
        refine ⟨y.1 :: l, ?_, La ++ L1, e1, L2 ++ Lb, ?_, ?_, fun f hf' c hc' => ?_⟩
        · rw [wayQ, hp]
          dsimp only
          rw [if_neg h2, hst]
          rw [show ((x.2, plcAt y.2 p j) : Nat × Plc).1 = x.2 from rfl] at hl
          rw [hl]
        · rw [e, hL]; simp
        · have hne : l ≠ [] := way_ne hl
          rw [← hlast]
          cases l with
          | nil => exact absurd rfl hne
          | cons a r => simp [List.getLastD_cons]
        · rcases List.mem_append.1 hf' with hf' | hf'
          · obtain ⟨z, hz, L3, h4, h5⟩ := kids_mem ha f hf'
            obtain ⟨i, hi⟩ := List.mem_iff_getElem?.1 hz
            have hij : i < j := by
              have := (List.getElem?_eq_some_iff.1 hi).1
              rw [List.length_take] at this
              omega
            rw [List.getElem?_take, if_pos hij] at hi
            obtain ⟨_, rfl⟩ := kplc_at hi
            have hin := (tr_in h4 f h5).2 c hc'
            rw [kids_len] at hjl
            obtain ⟨q1, q2⟩ := plc_below (x := y.2) hg h3 hij (by omega)
            have hlo : (plcAt y.2 p j).lo = x.1 := by unfold plcAt; dsimp only; rw [if_pos (by omega), hgd]
            rw [hlo] at q2
            exact lt_le (lt_le (hin.hi q1) q2) hx
          · exact hbe f hf' c hc'
theorem seek_tr {G : Option GetQ} {s : List UInt8} : ∀ {M : List Lv} {k : Nat}, (∀ e ∈ M, pageQ G e.1 = .ok e.2 ∧ e.2.kind = 2) → M.map (·.2.next) = (M.map (·.1)).tail ++ [0] → M.length ≤ k →
    ((∀ e ∈ M, ∀ c ∈ e.2.cells, lt8 c.data s = true) → seekL G s k ((M.map (·.1)).headD 0) = .error 6) ∧
    (∀ (i : Nat) c, (M.flatMap (·.2.cells))[i]? = some c → (∀ (j : Nat) d, j < i → (M.flatMap (·.2.cells))[j]? = some d → lt8 d.data s = true) → lt8 c.data s = false → ∃ n, ∃ a : Nat, ∃ p, seekL G s k ((M.map (·.1)).headD 0) = .ok (n, (a : Int)) ∧ pageQ G n = .ok p ∧ p.cells[a]? = some c)
  | [], k, _, h, _ => by simp at h
  | e :: M, k, hp, hn, hk => by
    obtain ⟨he, h2⟩ := hp e (List.mem_cons_self ..)
    have hne : ¬ e.1 = 0 := fun h0 => by rw [h0] at he; unfold pageQ at he; simp at he
    rw [List.length_cons] at hk
    obtain ⟨k, rfl⟩ : ∃ k', k = k' + 1 := ⟨k - 1, by omega⟩
    have hsk := seek_page (s := s) (k := k) hne he h2
    have hnx : e.2.next = (M.map (·.1)).headD 0 := by
      cases M with
      | nil => simp at hn; simp [hn]
      | cons f M => simp at hn; simp [hn.1]
    have hn' : M ≠ [] → M.map (·.2.next) = (M.map (·.1)).tail ++ [0] := fun hM => by
      cases M with
      | nil => exact absurd rfl hM
      | cons f M => simp at hn ⊢; exact hn.2
    have hend : M = [] → seekL G s k ((M.map (·.1)).headD 0) = .error 6 := fun hM => by subst hM; exact seek_nil
    simp only [List.map_cons, List.headD_cons]
    rw [hsk]
    constructor
    · intro hall
      have h0 : e.2.cells.findIdx? (fun c => !lt8 c.data s) = none := by
        rw [List.findIdx?_eq_none_iff]
        intro c hc
        simp [hall e (List.mem_cons_self ..) c hc]
      rw [h0]
      dsimp only
      rw [hnx]
      by_cases hM : M = []
      · exact hend hM
      · exact (seek_tr (fun f hf => hp f (List.mem_cons_of_mem _ hf)) (hn' hM) (by omega)).1 fun f hf => hall f (List.mem_cons_of_mem _ hf)
    · intro i c hi hb hc
      rw [List.flatMap_cons] at hi hb
      by_cases hil : i < e.2.cells.length
      · rw [List.getElem?_append_left hil] at hi
        have h0 : e.2.cells.findIdx? (fun c => !lt8 c.data s) = some i := by
          rw [List.findIdx?_eq_some_iff_getElem]
          refine ⟨hil, ?_, fun j hj => ?_⟩
          · rw [(List.getElem?_eq_some_iff.1 hi).2, hc]; rfl
          · have := hb j (e.2.cells[j]) hj (by rw [List.getElem?_append_left (by omega)]; exact List.getElem?_eq_getElem (by omega))
            simp [this]
        rw [h0]
        exact ⟨e.1, i, e.2, rfl, he, hi⟩
      · have h0 : e.2.cells.findIdx? (fun c => !lt8 c.data s) = none := by
          rw [List.findIdx?_eq_none_iff]
          intro d hd
          obtain ⟨j, hj⟩ := List.mem_iff_getElem?.1 hd
          have hjl := (List.getElem?_eq_some_iff.1 hj).1
          simp [hb j d (by omega) (by rw [List.getElem?_append_left hjl]; exact hj)]
        rw [h0]
        dsimp only
        rw [hnx]
        rw [List.getElem?_append_right (by omega)] at hi
        have hM : M ≠ [] := fun hM => by subst hM; simp at hi
        refine (seek_tr (fun f hf => hp f (List.mem_cons_of_mem _ hf)) (hn' hM) (by omega)).2 _ c hi (fun j d hj hd => ?_) hc
        refine hb (j + e.2.cells.length) d (by omega) ?_
        rw [List.getElem?_append_right (by omega), Nat.add_sub_cancel]
        exact hd
theorem flat_le : ∀ {L : List Lv}, (∀ e ∈ L, e.2.cells.length ≤ 60) → (L.flatMap (·.2.cells)).length ≤ 60 * L.length
  | [], _ => Nat.zero_le _
  | e :: L, h => by
    have h1 := h e (List.mem_cons_self ..)
    have h2 := flat_le (L := L) fun f hf => h f (List.mem_cons_of_mem _ hf)
    rw [List.flatMap_cons, List.length_append, List.length_cons]
    omega
theorem drop_mid (A : List Nat) (x : Nat) (B : List Nat) : (A ++ x :: B).drop (A.length + 1) = B := by
  induction A with
  | nil => rfl
  | cons a A ih => simp
/-- A right tree: its entries rise, and the first one that is not below a text is found. -/
theorem right_tree {G : Option GetQ} {root l : Nat} {s : List UInt8} (hG : ∀ l : List Nat, SeenG G l → l.length ≤ 8000) (h : checkQ G root = .ok l) : ∃ C, cellsQ G root = .ok C ∧ (Rise C ∧ C.length ≤ 480000) ∧ ((∀ c ∈ C, lt8 c.data s = true) → seekQ G root s = .error 6) ∧
    (∀ (i : Nat) c, C[i]? = some c → (∀ (j : Nat) d, j < i → C[j]? = some d → lt8 d.data s = true) → lt8 c.data s = false → ∃ n, ∃ a : Nat, ∃ p, seekQ G root s = .ok (n, (a : Int)) ∧ pageQ G n = .ok p ∧ p.cells[a]? = some c) := by
  unfold checkQ at h
  split at h
  · cases h
  · rename_i q hq
    split at h
    · rename_i hnx
      unfold allQ at hq
      split at hq
      · cases hq
      · rename_i h0
        obtain ⟨L, a, b, c, ⟨nn, g⟩, d⟩ := walk_both 8 _ _ _ _ hq
        have b : q.2.leaves = L.map (·.1) := b
        have c : q.2.nexts = L.map (·.2.next) := c
        rw [b, c] at hnx
        obtain ⟨l, hl, L1, e, L2, hL, hlast, hbe⟩ := way_tr (s := s) a (Nat.le_refl 8)
        have hin := tr_in a
        have hlen : L.length ≤ 8000 := by
          have := hG _ (g ⟨List.nodup_nil, fun n hn => by cases hn⟩)
          simp at nn
          omega
        have hcq : cellsQ G root = .ok (L.flatMap (·.2.cells)) := by
          rw [cellsQ, allQ, if_neg h0, d]
          rfl
        have hM : (e :: L2).map (·.2.next) = ((e :: L2).map (·.1)).tail ++ [0] := by
          rw [hL] at hnx
          have := congrArg (List.drop L1.length) hnx
          cases L1 with
          | nil => exact this.symm
          | cons f L1 =>
            have e1 := drop_mid (L1.map (·.1)) e.1 (L2.map (·.1) ++ [0])
            rw [List.length_map] at e1
            have e2 : e.2.next :: L2.map (·.2.next) = (L1.map (·.1) ++ e.1 :: (L2.map (·.1) ++ [0])).drop (L1.length + 1) := by simpa using this.symm
            rw [e1] at e2
            simpa using e2
        have hsk : seekQ G root s = seekL G s 8192 (((e :: L2).map (·.1)).headD 0) := by
          rw [seekQ, if_neg h0, seekW, hl]
          show seekL G s 8192 (l.getLastD 0) = _
          rw [hlast]; rfl
        obtain ⟨g1, g2⟩ := seek_tr (G := G) (s := s) (M := e :: L2) (k := 8192) (fun f hf => (hin f (by rw [hL]; exact List.mem_append_right _ hf)).1) hM (by
          rw [hL, List.length_append] at hlen
          omega)
        refine ⟨_, hcq, ⟨tr_rise a, Nat.le_trans (flat_le fun e he => (good_data (page_good (hin e he).1.1)).2.1) (by omega)⟩, fun hall => ?_, fun i c hi hb hc => ?_⟩
        · rw [hsk]
          exact g1 fun f hf c hc => hall c (List.mem_flatMap.2 ⟨f, by rw [hL]; exact List.mem_append_right _ hf, hc⟩)
        · rw [hsk]
          rw [hL, List.flatMap_append] at hi hb
          have hil : (L1.flatMap (·.2.cells)).length ≤ i := by
            rcases Nat.lt_or_ge i (L1.flatMap (·.2.cells)).length with hlt | hge
            · rw [List.getElem?_append_left hlt] at hi
              obtain ⟨f, hf, hcf⟩ := List.mem_flatMap.1 (List.mem_of_getElem? hi)
              have := hbe f hf c hcf
              rw [hc] at this; cases this
            · exact hge
          rw [List.getElem?_append_right hil] at hi
          refine g2 _ c hi (fun j d hj hd => ?_) hc
          refine hb (j + (L1.flatMap (·.2.cells)).length) d (by omega) ?_
          rw [List.getElem?_append_right (by omega), Nat.add_sub_cancel]
          exact hd
    · cases h
theorem fold_ne0 {α σ : Type} {f : σ → α → Except Int σ} (hf : ∀ s a e, f s a = .error e → e ≠ 0) : ∀ (l : List α) (s : σ) (e : Int), foldE f l s = .error e → e ≠ 0
  | [], s, e, h => by cases h
  | a :: l, s, e, h => by
    rw [foldE] at h
    split at h
    · rename_i e' he
      cases h
      exact hf _ _ _ he
    · exact fold_ne0 hf l _ _ h
theorem walk_ne0 {G : Option GetQ} (hG : ∀ n e, pageQ G n = .error e → e ≠ 0) : ∀ (k : Nat) (s : List Nat × CkS) (y : Nat × Plc) (e : Int), walkQ G visC k s y = .error e → e ≠ 0
  | 0, s, y, e, h => by cases h; decide
  | k + 1, s, y, e, h => by
    rw [walkQ] at h
    split at h
    · cases h; decide
    · split at h
      · rename_i e' he
        cases h
        exact hG _ _ he
      · split at h
        · rename_i e' he
          cases h
          unfold visC at he
          split at he
          · split at he
            · split at he
              · cases he
              · cases he; decide
            · cases he
          · cases he; decide
        · split at h
          · cases h
          · exact fold_ne0 (walk_ne0 hG k) _ _ _ h
theorem check_ne0 {G : Option GetQ} (hG : ∀ n e, pageQ G n = .error e → e ≠ 0) {root : Nat} {e : Int} (h : checkQ G root = .error e) : e ≠ 0 := by
  unfold checkQ allQ at h
  split at h
  · rename_i e' he
    cases h
    split at he
    · cases he; decide
    · exact walk_ne0 hG _ _ _ _ he
  · split at h
    · cases h
    · cases h; decide
theorem tree_ne0 (t : PTree) : ∀ n e, pageQ (some (treeG t)) n = .error e → e ≠ 0 := fun n e h => page_ne (okG_tree t) h
theorem page_get {t : PTree} {n : Nat} {p : Pag} (h : pageQ (some (treeG t)) n = .ok p) : treeG t n = .ok p := by
  unfold pageQ at h
  split at h
  · cases h
  · dsimp only at h
    split at h
    · cases h
    · rename_i q hq
      split at h
      · cases h; exact hq
      · cases h
theorem few_short {t : PTree} (h : t.pages.length ≤ 300) : ∀ l : List Nat, SeenG (some (treeG t)) l → l.length ≤ 300 := fun l hl => by
  have := K.nodup_le hl.1 (m := t.pages.map (·.page)) fun n hn => by
    obtain ⟨p, hp⟩ := hl.2 n hn
    exact page_find hp
  rw [List.length_map] at this
  omega
set_option maxHeartbeats 1000000 in
theorem Rising (h : Base) (v : Value) (l : List PCell) (hv : CellsV h v l) (hr : Rise l) (hl : l.length ≤ 9223372036854775807) : TrV Try.prog 20 [v] h [] (.bool true) [] := by
  obtain ⟨es, hv, hel, hc⟩ := hv
  obtain ⟨ao, ca, rfl⟩ := hv.len
  rw [hel] at hv ⊢
  refine K.enter Try.func20 rfl (Nat.le_of_ble_eq_true rfl) (fun F => ?_)
  simp only [List.nil_append]
  (repeat' (first | refine X.rq ?_ | (refine X.rc ?_ ?_ <;> intro hc <;> first | (exfalso; omega) | skip)))
  refine K.c_loop (σ := Nat) (fun j => [(0, .slice ao l.length ca), (3, .int .i64 ((j + 1 : Nat) : Int))]) (fun _ => h) (fun _ => F) (fun j => j ≤ l.length) (fun j => l.length - j) 0 (Nat.zero_le _) (by repeat (first | exact K.Sub.nil _ | refine K.Sub.cons rfl ?_)) rfl rfl ?_
  intro j hj KL hKL
  by_cases hjl : j + 1 < l.length
  · obtain ⟨x, hxj⟩ : ∃ x, l[j]? = some x := ⟨_, List.getElem?_eq_getElem (by omega)⟩
    obtain ⟨y, hyj⟩ : ∃ x, l[j + 1]? = some x := ⟨_, List.getElem?_eq_getElem hjl⟩
    obtain ⟨c, hcj⟩ : ∃ x, es[j]? = some x := ⟨_, List.getElem?_eq_getElem (by omega)⟩
    obtain ⟨d, hdj⟩ : ∃ x, es[j + 1]? = some x := ⟨_, List.getElem?_eq_getElem (by omega)⟩
    have hlt : lt8 x.data y.data = true := by
      have := List.pairwise_iff_getElem.1 hr j (j + 1) (by omega) hjl (by omega)
      rwa [(List.getElem?_eq_some_iff.1 hxj).2, (List.getElem?_eq_some_iff.1 hyj).2] at this
    obtain ⟨_, _, ao3, ca3, rfl, hb3⟩ := hc j c x hcj hxj
    obtain ⟨_, _, ao4, ca4, rfl, hb4⟩ := hc (j + 1) d y hdj hyj
    obtain ⟨bb, oo, rfl, hcx⟩ := hv.at hcj
    obtain ⟨b2, o2, e2, hcy⟩ := hv.at hdj
    cases e2
    have ej : ((j + 1 : Nat) : Int) - 1 = (j : Int) := by omega
    (repeat' (first | refine X.rq ?_ | (refine X.rc ?_ ?_ <;> intro hc <;> first | (exfalso; omega) | skip)))
    refine X.draw ([]) [] (.pu 0 (.pu 1 (.pu 2 (.pu 3 (.pu 4 (.pu 7 (.pu 8 (.pu 9 (.pu 10 (.st 5 (.st 6 (.st 11 (.st 12 (.pu 13 .nil)))))))))))))) ?_ (hQ := by repeat (first | with_reducible refine K.NoPanic.then ?_ | with_reducible refine K.NoPanic.inBlock ?_ | with_reducible exact K.post_noPanic _ _ | exact K.post_noPanic _ _ | exact K.QN_noPanic | exact K.postS_noPanic | exact K.postX_noPanic | exact K.RPX_noPanic))
    refine K.d_pu rfl (fun _ _ => X.mv) rfl ?_
    refine K.d_pu rfl (fun _ _ => X.mv) rfl ?_
    refine K.d_pu rfl (fun _ _ => X.bsub) rfl ?_
    rw [ej]
    refine K.d_pu rfl (fun _ _ => X.ia) rfl ?_
    refine K.d_pu rfl (fun _ _ => X.fa) rfl ?_
    refine K.d_pu rfl (fun _ _ => X.mv) rfl ?_
    refine K.d_pu rfl (fun _ _ => X.mv) rfl ?_
    refine K.d_pu rfl (fun _ _ => X.ia) rfl ?_
    refine K.d_pu rfl (fun _ _ => X.fa) rfl ?_
    refine K.d_st rfl (K.p_load (Fx.agg rfl) rfl (Cels.get (Cels.up hcx) 2 (.slice ao3 x.data.length ca3) rfl)) rfl ?_
    refine K.d_st rfl (K.p_textB hb3 (Fx.und rfl) (Fx.und rfl) (Fx.und rfl) rfl) rfl ?_
    refine K.d_st rfl (K.p_load (Fx.agg rfl) rfl (Cels.get (Cels.up hcy) 2 (.slice ao4 y.data.length ca4) rfl)) rfl ?_
    refine K.d_st rfl (K.p_textB hb4 (Fx.und rfl) (Fx.und rfl) (Fx.und rfl) rfl) rfl ?_
    refine K.d_pu rfl (fun _ _ => X.bgeq) rfl ?_
    rw [txt_lt, hlt]
    refine K.d_nil ?_
    (repeat' (first | refine X.rq ?_ | (refine X.rc ?_ ?_ <;> intro hc <;> first | (exfalso; omega) | skip)))
    refine K.a_round hKL (j + 1) (by omega) (by repeat (first | exact K.Sub.nil _ | refine K.Sub.cons rfl ?_)) rfl rfl (by omega)
  · (repeat' (first | refine X.rq ?_ | (refine X.rc ?_ ?_ <;> intro hc <;> first | (exfalso; omega) | skip)))
    refine K.done (by first | exact Or.inl rfl | exact Or.inr rfl) rfl (by first | exact K.Base.le.refl _ | assumption) (H' := []) rfl ⟨rfl, rfl, rfl⟩
theorem get_okS {h : Base} {r : Except Int Pag} {v : Value} {p : Pag} (hg : GetR h r v) (hr : r = .ok p) : ∃ cs, v = .tuple #[.agg cs.toArray, .int .i64 0] ∧ PagC h cs p := by
  obtain ⟨p', cs, e, rfl, hp, _, ⟨rfl, h1⟩ | ⟨h1, h2⟩⟩ := hg
  · rw [hr] at h1; cases h1; exact ⟨cs, rfl, hp⟩
  · rw [hr] at h2; cases h2
set_option maxHeartbeats 4000000 in
theorem NodeSeeksW (h : Base) (cs : List Value) (t : PTree) (root : Nat) (s : List UInt8) (hx : TreeC h cs t) (hr : root < 4294967296) :
    Tr Try.prog 5 [.agg cs.toArray, uV root, txt s] h [] (fun u h' H' => u = .bool true ∧ H' = []) := by
  have hsz := txt_size s
  obtain ⟨hb0, he0, hl0, pv, rfl, hiv⟩ := id hx
  obtain ⟨es, hv, _⟩ := id hiv
  obtain ⟨ao, ca, rfl⟩ := hv.len
  refine K.enter Try.func5 rfl (Nat.le_of_ble_eq_true rfl) (fun F => ?_)
  simp only [List.nil_append]
  (repeat' (first | refine X.rq ?_ | (refine X.rc ?_ ?_ <;> intro hc <;> first | (exfalso; omega) | skip)))
  refine K.l_box rfl rfl rfl (fun B3 => ?_)
  (repeat' (first | refine X.rq ?_ | (refine X.rc ?_ ?_ <;> intro hc <;> first | (exfalso; omega) | skip)))
  refine K.l_call (Fx.cal rfl) rfl (LongT h _ t hx) (K.pp [] rfl) rfl ?_
  rintro v h' H' - ⟨e, rfl, b, rfl, hb⟩
  obtain rfl := e.symm
  simp only [List.set_cons_zero, List.set_cons_succ, List.eraseIdx_cons_zero, List.eraseIdx_cons_succ, List.cons_append, List.nil_append]
  cases b with
  | true =>
    (repeat' (first | refine X.rq ?_ | (refine X.rc ?_ ?_ <;> intro hc <;> first | (exfalso; omega) | skip)))
    refine K.l_call (Fx.cal rfl) rfl (Alive h) (K.pp [] rfl) rfl ?_
    rintro v hz H' lez ⟨rfl, rfl⟩
    simp only [List.set_cons_zero, List.set_cons_succ, List.eraseIdx_cons_zero, List.eraseIdx_cons_succ, List.cons_append, List.nil_append]
    (repeat' (first | refine X.rq ?_ | (refine X.rc ?_ ?_ <;> intro hc <;> first | (exfalso; omega) | skip)))
    exact K.doneC (vs := [.bool true]) (by first | exact Or.inl rfl | exact Or.inr rfl) (.tmp rfl .nil) lez (D := [_]) (H' := []) rfl ⟨rfl, rfl⟩
  | false =>
    have hsh := hb rfl
    have h300 := hsh.1
    have hfew := few_tree (t := t) (by omega)
    (repeat' (first | refine X.rq ?_ | (refine X.rc ?_ ?_ <;> intro hc <;> first | (exfalso; omega) | skip)))
    · refine K.l_call (Fx.cal rfl) rfl (Alive h) (K.pp [] rfl) rfl ?_
      rintro v hz H' lez ⟨rfl, rfl⟩
      simp only [List.set_cons_zero, List.set_cons_succ, List.eraseIdx_cons_zero, List.eraseIdx_cons_succ, List.cons_append, List.nil_append]
      (repeat' (first | refine X.rq ?_ | (refine X.rc ?_ ?_ <;> intro hc <;> first | (exfalso; omega) | skip)))
      exact K.doneC (vs := [.bool true]) (by first | exact Or.inl rfl | exact Or.inr rfl) (.tmp rfl .nil) lez (D := [_]) (H' := []) rfl ⟨rfl, rfl⟩
    refine K.s_pure (K.p_makeFuncB rfl rfl) rfl ?_
    (repeat' (first | refine X.rq ?_ | (refine X.rc ?_ ?_ <;> intro hc <;> first | (exfalso; omega) | skip)))
    try refine K.s_take rfl rfl ?_
    refine K.l_call (Fx.cal rfl) rfl (Check h _ (some (treeG t)) hfew root (getV_tree hx) hr) (K.pp [] rfl) rfl ?_
    rintro v h1 H' le1 ⟨rfl, rfl⟩
    simp only [List.set_cons_zero, List.set_cons_succ, List.eraseIdx_cons_zero, List.eraseIdx_cons_succ, List.cons_append, List.nil_append]
    cases hck : checkQ (some (treeG t)) root with
    | error e =>
      have hne := check_ne0 (tree_ne0 t) hck
      dsimp only [errOf]
      (repeat' (first | refine X.rq ?_ | (refine X.rc ?_ ?_ <;> intro hc <;> first | (exfalso; omega) | skip)))
      all_goals try (exfalso; omega)
      refine K.l_call (Fx.cal rfl) rfl (Alive h1) (K.pp [] rfl) rfl ?_
      rintro v hz H' lez ⟨rfl, rfl⟩
      simp only [List.set_cons_zero, List.set_cons_succ, List.eraseIdx_cons_zero, List.eraseIdx_cons_succ, List.cons_append, List.nil_append]
      (repeat' (first | refine X.rq ?_ | (refine X.rc ?_ ?_ <;> intro hc <;> first | (exfalso; omega) | skip)))
      exact K.doneC (vs := [.bool true]) (by first | exact Or.inl rfl | exact Or.inr rfl) (.tmp rfl .nil) (le1.trans lez) (D := [_]) (H' := []) rfl ⟨rfl, rfl⟩
    | ok l0 =>
      obtain ⟨C, hcq, ⟨hrise, hCl⟩, hend, hfind⟩ := right_tree (s := s) (fun l hl => Nat.le_trans (few_short h300 l hl) (by decide)) hck
      dsimp only [errOf]
      (repeat' (first | refine X.rq ?_ | (refine X.rc ?_ ?_ <;> intro hc <;> first | (exfalso; omega) | skip)))
      all_goals try (exfalso; omega)
      refine K.s_pure (K.p_makeFuncB rfl rfl) rfl ?_
      (repeat' (first | refine X.rq ?_ | (refine X.rc ?_ ?_ <;> intro hc <;> first | (exfalso; omega) | skip)))
      refine K.l_call (Fx.cal rfl) rfl (All h1 _ (some (treeG t)) hfew root (getV_tree (hx.le le1)) hr) (K.pp [] rfl) rfl ?_
      rintro v h2 H' le2 hw
      obtain ⟨u2, rfl, a2, k2, er, rfl, hrow, rfl⟩ := cells_ok hw hcq
      simp only [List.set_cons_zero, List.set_cons_succ, List.eraseIdx_cons_zero, List.eraseIdx_cons_succ, List.cons_append, List.nil_append]
      refine K.WL.freezeRowN (es := er) hrow.1.symm hrow.2.1 (fun h3 le3 hs3 => ?_)
      have hrow3 := hrow.le le3
      have hcv3 : CellsV h3 (bufV a2 C.length k2) C := CellsV.of hs3 hrow3
      obtain ⟨ac, cc, ec⟩ : ∃ ac cc, bufV a2 C.length k2 = .slice ac C.length cc := ⟨_, _, rfl⟩
      rw [ec] at hs3 hcv3 ⊢
      (repeat' (first | refine X.rq ?_ | (refine X.rc ?_ ?_ <;> intro hc <;> first | (exfalso; omega) | skip)))
      refine K.s_pure (K.p_makeFuncB rfl rfl) rfl ?_
      (repeat' (first | refine X.rq ?_ | (refine X.rc ?_ ?_ <;> intro hc <;> first | (exfalso; omega) | skip)))
      refine K.l_call (Fx.cal rfl) rfl (Seek h3 _ (some (treeG t)) root s (getV_tree (hx.le (le1.trans (le2.trans le3)))) hr) (K.pp [] rfl) rfl ?_
      rintro v h4 H' le4 ⟨rfl, hsk⟩
      obtain ⟨nn, ii, ee, rfl, hnn, hres⟩ := hsk
      have le14 := le1.trans (le2.trans (le3.trans le4))
      simp only [List.set_cons_zero, List.set_cons_succ, List.eraseIdx_cons_zero, List.eraseIdx_cons_succ, List.cons_append, List.nil_append]
      (repeat' (first | refine X.rq ?_ | (refine X.rc ?_ ?_ <;> intro hc <;> first | (exfalso; omega) | skip)))
      try refine K.s_take rfl rfl ?_
      refine K.l_callV (Fx.cal rfl) rfl (Rising h4 _ C (hcv3.le le4) hrise (by omega)) (K.pp [] rfl) rfl rfl ?_
      simp only [List.set_cons_zero, List.set_cons_succ, List.eraseIdx_cons_zero, List.eraseIdx_cons_succ, List.cons_append, List.nil_append]
      (repeat' (first | refine X.rq ?_ | (refine X.rc ?_ ?_ <;> intro hc <;> first | (exfalso; omega) | skip)))
      have hs4 := hs3.le le4
      refine K.c_loop (σ := Nat) (fun i => [(2, txt s), (3, .pointer (some ⟨B3, 0, none⟩)), (7, .slice ac C.length cc), (9, uV nn), (10, .int .i64 ii), (11, .int .i64 ee), (12, .int .i64 i)]) (fun _ => h4) (fun _ => blk B3 26 [.slice ao es.length ca, .int .u32 t.bad, .int .i64 t.err] :: F)
        (fun i => i ≤ C.length ∧ ∀ (j : Nat) d, j < i → C[j]? = some d → lt8 d.data s = true) (fun i => C.length - i) 0 ⟨Nat.zero_le _, fun j d hj => absurd hj (Nat.not_lt_zero _)⟩ (by repeat (first | exact K.Sub.nil _ | refine K.Sub.cons rfl ?_)) rfl rfl ?_
      rintro i ⟨hi, hyes⟩ KL hKL
      by_cases hil : i < C.length
      · obtain ⟨d, hdi⟩ : ∃ d, C[i]? = some d := ⟨_, List.getElem?_eq_getElem hil⟩
        obtain ⟨ce, hce⟩ : ∃ ce, er[(i : Int).toNat]? = some ce := ⟨_, List.getElem?_eq_getElem (by have := hrow.1; omega)⟩
        obtain ⟨_, _, ao5, ca5, rfl, hbv5⟩ := (hrow3.le le4).2.2 i ce d hce hdi
        (repeat' (first | refine X.rq ?_ | (refine X.rc ?_ ?_ <;> intro hc <;> first | (exfalso; omega) | skip)))
        try refine K.s_take rfl rfl ?_
        refine K.s_pureE (K.p_indexL hs4 (Fx.und rfl) (Fx.sz rfl) rfl rfl (by omega) hce) rfl ?_
        rintro v2 ⟨b, o, rfl, hcel⟩
        have g2 := Cels.get (Cels.up (K := blk B3 26 [.slice ao es.length ca, .int .u32 t.bad, .int .i64 t.err] :: F) hcel) 2 (.slice ao5 d.data.length ca5) rfl
        (repeat' (first | refine X.rq ?_ | (refine X.rc ?_ ?_ <;> intro hc <;> first | (exfalso; omega) | skip)))
        try refine K.s_take rfl rfl ?_
        refine K.s_pure (K.p_textB hbv5 (Fx.und rfl) (Fx.und rfl) (Fx.und rfl) rfl) rfl ?_
        (repeat' (first | refine X.rq ?_ | (refine X.rc ?_ ?_ <;> intro hc <;> first | (exfalso; omega) | skip)))
        · have hlt : lt8 d.data s = true := by rw [← txt_lt]; assumption
          refine K.a_round hKL (i + 1) ⟨by omega, fun j y hj hy => ?_⟩ (by repeat (first | exact K.Sub.nil _ | refine K.Sub.cons rfl ?_)) rfl rfl (by omega)
          by_cases hij : j < i
          · exact hyes j y hij hy
          · obtain rfl : j = i := by omega
            rw [hdi] at hy; cases hy; exact hlt
        · have hlt : lt8 d.data s = false := by rw [← txt_lt]; assumption
          obtain ⟨n, a, p, hsq, hpq, hpa⟩ := hfind i d hdi (fun j y hj hy => hyes j y hj hy) hlt
          obtain ⟨rfl, rfl, rfl⟩ : nn = n ∧ ii = (a : Int) ∧ ee = 0 := by
            rcases hres with ⟨h1, h2⟩ | ⟨h1, h2, h3⟩
            · rw [hsq] at h2; cases h2; exact ⟨rfl, rfl, h1⟩
            · rw [hsq] at h1; cases h1
          have hal := (List.getElem?_eq_some_iff.1 hpa).1
          (repeat' (first | refine X.rq ?_ | (refine X.rc ?_ ?_ <;> intro hc <;> first | (exfalso; omega) | skip)))
          refine K.l_call (Fx.cal rfl) rfl (TGet h4 _ t nn (hx.le le14) hnn) (K.pp [] rfl) rfl ?_
          rintro v h5 H' le5 ⟨rfl, rfl, hgt⟩
          obtain ⟨pc, rfl, hpc⟩ := get_okS hgt (page_get hpq)
          obtain ⟨hwp, pcv, rfl, qes, hqs, hqel, hqc⟩ := hpc
          obtain ⟨aq, cq, rfl⟩ := hqs.len
          rw [hqel] at hqs ⊢
          obtain ⟨qc, hqi⟩ : ∃ qc, qes[a]? = some qc := ⟨_, List.getElem?_eq_getElem (by omega)⟩
          obtain ⟨_, _, ao6, ca6, rfl, hbv6⟩ := hqc a qc d hqi hpa
          obtain ⟨bq, oq, rfl, hcq⟩ := hqs.at hqi
          obtain ⟨bc, oc, rfl, hcc⟩ := hs4.at (show er[i]? = some _ from hce)
          simp only [List.set_cons_zero, List.set_cons_succ, List.eraseIdx_cons_zero, List.eraseIdx_cons_succ, List.cons_append, List.nil_append]
          (repeat' (first | refine X.rq ?_ | (refine X.rc ?_ ?_ <;> intro hc <;> first | (exfalso; omega) | skip)))
          refine K.l_alloc (Fx.zr rfl) rfl rfl (fun B13 => ?_)
          refine X.stw ?_
          simp only [List.set_cons_zero, List.set_cons_succ, List.eraseIdx_cons_zero, List.eraseIdx_cons_succ, List.cons_append, List.nil_append]
          (repeat' (first | refine X.rq ?_ | (refine X.rc ?_ ?_ <;> intro hc <;> first | (exfalso; omega) | skip)))
          refine X.draw ([blk B13 55 (cP p (.slice (some ⟨bq, oq, none⟩) p.cells.length cq)), blk B3 26 [.slice ao es.length ca, .int .u32 t.bad, .int .i64 t.err]]) [] (.pu 0 (.pu 1 (.pu 2 (.pu 3 (.pu 4 (.pu 5 (.pu 6 (.pu 7 (.pu 8 (.pu 9 (.pu 10 (.pu 11 (.pu 12 (.st 13 (.pu 14 (.pu 15 (.pu 16 (.pu 17 (.pu 18 (.pu 20 (.pu 25 (.pu 26 (.pu 27 (.pu 28 (.st 19 (.pu 21 (.pu 22 (.st 23 (.st 24 (.st 29 (.st 30 (.pu 31 (.pu 32 (.pu 33 (.on 34 (.pu 35 (.pu 36 .nil))))))))))))))))))))))))))))))))))))) ?_ (hQ := by repeat (first | with_reducible refine K.NoPanic.then ?_ | with_reducible refine K.NoPanic.inBlock ?_ | with_reducible exact K.post_noPanic _ _ | exact K.post_noPanic _ _ | exact K.QN_noPanic | exact K.postS_noPanic | exact K.postX_noPanic | exact K.RPX_noPanic))
          refine K.d_pu rfl (fun _ _ => X.mv) rfl ?_
          refine K.d_pu rfl (fun _ _ => X.beql) rfl ?_
          refine K.d_pu rfl (fun _ _ => X.mv) rfl ?_
          first | refine K.d_skip rfl rfl rfl rfl ?_ | refine K.d_skipU rfl rfl rfl rfl rfl ?_ | refine K.d_puG rfl rfl rfl (fun _ _ => X.mv) rfl ?_
          first | refine K.d_skip rfl rfl rfl rfl ?_ | refine K.d_skipU rfl rfl rfl rfl rfl ?_ | refine K.d_puG rfl rfl rfl (fun _ _ => X.beql) rfl ?_
          refine K.d_pu rfl (fun _ _ => X.pk) rfl ?_
          refine K.d_pu rfl (fun _ _ => X.mv) rfl ?_
          first | refine K.d_skip rfl rfl rfl rfl ?_ | refine K.d_skipU rfl rfl rfl rfl rfl ?_ | refine K.d_puG rfl rfl rfl (fun _ _ => X.mv) rfl ?_
          first | refine K.d_skip rfl rfl rfl rfl ?_ | refine K.d_skipU rfl rfl rfl rfl rfl ?_ | refine K.d_puG rfl rfl rfl (fun _ _ => X.bgeq) rfl ?_
          rw [decide_eq_true (show (a : Int) ≥ 0 by omega)]
          refine K.d_pu rfl (fun _ _ => X.pk) rfl ?_
          refine K.d_pu rfl (fun _ _ => X.mv) rfl ?_
          first | refine K.d_skip rfl rfl rfl rfl ?_ | refine K.d_skipU rfl rfl rfl rfl rfl ?_ | refine K.d_puG rfl rfl rfl (fun _ _ => X.mv) rfl ?_
          first | refine K.d_skip rfl rfl rfl rfl ?_ | refine K.d_skipU rfl rfl rfl rfl rfl ?_ | refine K.d_puG rfl rfl rfl (fun _ _ => X.fa) rfl ?_
          first | refine K.d_skipS rfl rfl rfl rfl ?_ | refine K.d_skipUS rfl rfl rfl rfl rfl ?_ | refine K.d_stG rfl rfl rfl X.ld rfl ?_
          first | refine K.d_skip rfl rfl rfl rfl ?_ | refine K.d_skipU rfl rfl rfl rfl rfl ?_ | refine K.d_puG rfl rfl rfl (fun _ _ => X.len) rfl ?_
          first | refine K.d_skip rfl rfl rfl rfl ?_ | refine K.d_skipU rfl rfl rfl rfl rfl ?_ | refine K.d_puG rfl rfl rfl (fun _ _ => X.blss) rfl ?_
          rw [decide_eq_true (show (a : Int) < (p.cells.length : Int) by omega)]
          refine K.d_pu rfl (fun _ _ => X.pk) rfl ?_
          refine K.d_pu rfl (fun _ _ => X.mv) rfl ?_
          first | refine K.d_skip rfl rfl rfl rfl ?_ | refine K.d_skipU rfl rfl rfl rfl rfl ?_ | refine K.d_puG rfl rfl rfl (fun _ _ => X.fa) rfl ?_
          first | refine K.d_skip rfl rfl rfl rfl ?_ | refine K.d_skipU rfl rfl rfl rfl rfl ?_ | refine K.d_puG rfl rfl rfl (fun _ _ => X.mv) rfl ?_
          first | refine K.d_skip rfl rfl rfl rfl ?_ | refine K.d_skipU rfl rfl rfl rfl rfl ?_ | refine K.d_puG rfl rfl rfl (fun _ _ => X.mv) rfl ?_
          first | refine K.d_skip rfl rfl rfl rfl ?_ | refine K.d_skipU rfl rfl rfl rfl rfl ?_ | refine K.d_puG rfl rfl rfl (fun _ _ => X.mv) rfl ?_
          first | refine K.d_skip rfl rfl rfl rfl ?_ | refine K.d_skipU rfl rfl rfl rfl rfl ?_ | refine K.d_puG rfl rfl rfl (fun _ _ => X.ia) rfl ?_
          first | refine K.d_skip rfl rfl rfl rfl ?_ | refine K.d_skipU rfl rfl rfl rfl rfl ?_ | refine K.d_puG rfl rfl rfl (fun _ _ => X.fa) rfl ?_
          first | refine K.d_skipS rfl rfl rfl rfl ?_ | refine K.d_skipUS rfl rfl rfl rfl rfl ?_ | refine K.d_stG rfl rfl rfl X.ld rfl ?_
          first | refine K.d_skip rfl rfl rfl rfl ?_ | refine K.d_skipU rfl rfl rfl rfl rfl ?_ | refine K.d_puG rfl rfl rfl (fun _ _ => X.ia) rfl ?_
          first | refine K.d_skip rfl rfl rfl rfl ?_ | refine K.d_skipU rfl rfl rfl rfl rfl ?_ | refine K.d_puG rfl rfl rfl (fun _ _ => X.fa) rfl ?_
          refine K.d_stG rfl rfl rfl (K.p_load (Fx.agg rfl) rfl (Cels.get (Cels.up hcq) 2 (.slice ao6 d.data.length ca6) rfl)) rfl ?_
          refine K.d_stG rfl rfl rfl (K.p_textB hbv6 (Fx.und rfl) (Fx.und rfl) (Fx.und rfl) rfl) rfl ?_
          refine K.d_stG rfl rfl rfl (K.p_load (Fx.agg rfl) rfl (Cels.get (Cels.up hcc) 2 (.slice ao5 d.data.length ca5) rfl)) rfl ?_
          refine K.d_stG rfl rfl rfl (K.p_textB hbv5 (Fx.und rfl) (Fx.und rfl) (Fx.und rfl) rfl) rfl ?_
          first | refine K.d_skip rfl rfl rfl rfl ?_ | refine K.d_skipU rfl rfl rfl rfl rfl ?_ | refine K.d_puG rfl rfl rfl (fun _ _ => X.beql) rfl ?_
          rw [text_eq, decide_eq_true rfl]
          refine K.d_pu rfl (fun _ _ => X.pk) rfl ?_
          refine K.d_pu rfl (fun _ _ => X.mv) rfl ?_
          refine K.d_on rfl (fun KK hKK => ?_)
          refine K.s_take rfl rfl ?_
          refine K.l_call (Fx.cal rfl) rfl (Alive h5) (K.pp [] rfl) rfl ?_
          rintro v hz H' lez ⟨rfl, rfl⟩
          simp only [List.set_cons_zero, List.set_cons_succ, List.eraseIdx_cons_zero, List.eraseIdx_cons_succ, List.cons_append, List.nil_append]
          refine K.l_nil ?_
          refine X.onE hKK ?_
          refine K.d_pu rfl (fun _ _ => X.pk) rfl ?_
          refine K.d_pu rfl (fun _ _ => X.sg) rfl ?_
          refine K.d_nil ?_
          (repeat' (first | refine X.rq ?_ | (refine X.rc ?_ ?_ <;> intro hc <;> first | (exfalso; omega) | skip)))
          exact K.doneC (vs := [.bool true]) (by first | exact Or.inl rfl | exact Or.inr rfl) (.tmp rfl .nil) (le14.trans lez) (D := [_, _]) (H' := []) rfl ⟨rfl, rfl⟩
      · obtain rfl : i = C.length := by omega
        have hall : ∀ c ∈ C, lt8 c.data s = true := fun c hc => by
          obtain ⟨j, hj⟩ := List.mem_iff_getElem?.1 hc
          exact hyes j c (List.getElem?_eq_some_iff.1 hj).1 hj
        have hsq := hend hall
        obtain ⟨rfl, rfl, rfl⟩ : nn = 0 ∧ ii = 0 ∧ ee = 6 := by
          rcases hres with ⟨_, h1⟩ | ⟨h1, h2, h3⟩
          · rw [hsq] at h1; cases h1
          · rw [hsq] at h1; cases h1; exact ⟨h2, h3, rfl⟩
        (repeat' (first | refine X.rq ?_ | (refine X.rc ?_ ?_ <;> intro hc <;> first | (exfalso; omega) | skip)))
        try refine K.s_take rfl rfl ?_
        refine K.l_call (Fx.cal rfl) rfl (Alive h4) (K.pp [] rfl) rfl ?_
        rintro v hz H' lez ⟨rfl, rfl⟩
        simp only [List.set_cons_zero, List.set_cons_succ, List.eraseIdx_cons_zero, List.eraseIdx_cons_succ, List.cons_append, List.nil_append]
        (repeat' (first | refine X.rq ?_ | (refine X.rc ?_ ?_ <;> intro hc <;> first | (exfalso; omega) | skip)))
        exact K.doneC (vs := [.bool true]) (by first | exact Or.inl rfl | exact Or.inr rfl) (.tmp rfl .nil) (le14.trans lez) (D := [_]) (H' := []) rfl ⟨rfl, rfl⟩
theorem NodeSeeksB (h : Base) (cs : List Value) (t : PTree) (root : Nat) (s : ByteArray) (hx : TreeC h cs t) (hr : root < 4294967296) :
    Tr Try.prog 5 [.agg cs.toArray, uV root, .string s] h [] (fun u h' H' => u = .bool true ∧ H' = []) := by
  have := NodeSeeksW h cs t root s.data.toList hx hr
  rwa [show txt s.data.toList = Value.string s from by cases s; simp [txt]] at this
end Go.Proofs.Ytahdbncfegedjaa.Nd
