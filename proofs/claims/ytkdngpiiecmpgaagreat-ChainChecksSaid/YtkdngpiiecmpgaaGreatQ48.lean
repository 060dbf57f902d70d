/-
 History repeated, plainly: page by page; pages that have seen some of it. Conditions: each theorem's own.
-/
import Derived.Test.YtkdngpiiecmpgaaGreatQ34
namespace Go.Proofs.YtkdngpiiecmpgaaGreat.Ch
open Go Go.K Go.Proofs Go.Proofs.YtkdngpiiecmpgaaGreat Go.Proofs.YtkdngpiiecmpgaaGreat.Pg Go.Proofs.YtkdngpiiecmpgaaGreat.Rc
set_option linter.unusedVariables false
set_option linter.unusedSimpArgs false

def imgP (lsn : Nat) (x m : PImg) : PImg := if m.page = x.page ∧ x.to.lsn < lsn then ⟨x.page, { m.to with lsn := lsn }⟩ else x
def imgsP (lsn : Nat) (ms : List PImg) (x : PImg) : PImg := ms.foldl (imgP lsn) x
def stepP (r : Recd) (x : PImg) : PImg :=
 if r.kind = 2 ∨ r.kind = 3 then (if r.page = x.page ∧ x.to.lsn < r.lsn then ⟨x.page, { (doQ x.to r.op).1 with lsn := r.lsn }⟩ else x)
 else if r.kind = 4 then imgsP r.lsn r.images x else x
def okP (r : Recd) (x : PImg) : Prop := r.kind = 2 ∨ r.kind = 3 → r.page = x.page → x.to.lsn < r.lsn → (doQ x.to r.op).2 = 0
def placeP (l : List Nat) (r : Recd) : Prop := (r.kind = 2 ∨ r.kind = 3 → r.page ∈ l) ∧ (r.kind = 4 → ∀ m ∈ r.images, m.page ∈ l)
def touchP (r : Recd) (n : Nat) : Prop := ((r.kind = 2 ∨ r.kind = 3) ∧ r.page = n) ∨ (r.kind = 4 ∧ ∃ m ∈ r.images, m.page = n)
theorem imgP_page (lsn : Nat) (x m : PImg) : (imgP lsn x m).page = x.page := by
 unfold imgP; split <;> rfl
theorem imgP_lsn (lsn : Nat) (x m : PImg) : x.to.lsn ≤ (imgP lsn x m).to.lsn := by
 unfold imgP; split
 ·rename_i h; exact Nat.le_of_lt h.2
 ·exact Nat.le_refl _
theorem imgsP_page (lsn : Nat) : ∀ (ms : List PImg) (x : PImg), (imgsP lsn ms x).page = x.page
 | [], _ => rfl
 | m :: ms, x => (imgsP_page lsn ms _).trans (imgP_page lsn x m)
theorem imgsP_lsn (lsn : Nat) : ∀ (ms : List PImg) (x : PImg), x.to.lsn ≤ (imgsP lsn ms x).to.lsn
 | [], _ => Nat.le_refl _
 | m :: ms, x => Nat.le_trans (imgP_lsn lsn x m) (imgsP_lsn lsn ms _)
theorem imgP_seen {lsn : Nat} {x m : PImg} (h : lsn ≤ x.to.lsn) : imgP lsn x m = x := if_neg (by omega)
theorem imgsP_seen {lsn : Nat} : ∀ {ms : List PImg} {x : PImg}, lsn ≤ x.to.lsn → imgsP lsn ms x = x
 | [], _, _ => rfl
 | m :: ms, x, h => by
  show imgsP lsn ms (imgP lsn x m) = x
  rw [imgP_seen h]; exact imgsP_seen h
theorem imgsP_off {lsn : Nat} : ∀ {ms : List PImg} {x : PImg}, (∀ m ∈ ms, m.page ≠ x.page) → imgsP lsn ms x = x
 | [], _, _ => rfl
 | m :: ms, x, h => by
  show imgsP lsn ms (imgP lsn x m) = x
  have : imgP lsn x m = x := if_neg (fun e => h m List.mem_cons_self e.1)
  rw [this]; exact imgsP_off fun y hy => h y (List.mem_cons_of_mem _ hy)
theorem imgsP_on {lsn : Nat} : ∀ {ms : List PImg} {x : PImg}, (∃ m ∈ ms, m.page = x.page) → lsn ≤ (imgsP lsn ms x).to.lsn
 | [], _, ⟨_, hm, _⟩ => by cases hm
 | m :: ms, x, ⟨y, hm, he⟩ => by
  show lsn ≤ (imgsP lsn ms (imgP lsn x m)).to.lsn
  by_cases h : m.page = x.page
  ·refine Nat.le_trans ?_ (imgsP_lsn lsn ms _)
   unfold imgP
   split
   ·exact Nat.le_refl _
   ·rename_i h2
    have : ¬ x.to.lsn < lsn := fun e => h2 ⟨h, e⟩
    omega
  ·rcases List.mem_cons.1 hm with rfl | hm
   ·exact absurd he h
   ·exact imgsP_on ⟨y, hm, by rw [imgP_page]; exact he⟩
theorem stepP_page (r : Recd) (x : PImg) : (stepP r x).page = x.page := by
 unfold stepP
 split
 ·split <;> rfl
 ·split
  ·exact imgsP_page _ _ _
  ·rfl
theorem stepP_lsn (r : Recd) (x : PImg) : x.to.lsn ≤ (stepP r x).to.lsn := by
 unfold stepP
 split
 ·split
  ·rename_i h; exact Nat.le_of_lt h.2
  ·exact Nat.le_refl _
 ·split
  ·exact imgsP_lsn _ _ _
  ·exact Nat.le_refl _
theorem stepP_seen {r : Recd} {x : PImg} (h : r.lsn ≤ x.to.lsn) : stepP r x = x ∧ okP r x := by
 refine ⟨?_, fun _ _ h2 => absurd h2 (by omega)⟩
 unfold stepP
 split
 ·exact if_neg (by omega)
 ·split
  ·exact imgsP_seen h
  ·rfl
theorem stepP_off {r : Recd} {x : PImg} (h : ¬ touchP r x.page) : stepP r x = x ∧ okP r x := by
 refine ⟨?_, fun hk hp _ => absurd (.inl ⟨hk, hp⟩) h⟩
 unfold stepP
 split
 ·rename_i hk
  exact if_neg (fun e => h (.inl ⟨hk, e.1⟩))
 ·split
  ·rename_i hk
   exact imgsP_off fun m hm e => h (.inr ⟨hk, m, hm, e⟩)
  ·rfl
theorem stepP_on {r : Recd} {x : PImg} (h : touchP r x.page) : r.lsn ≤ (stepP r x).to.lsn := by
 unfold stepP
 rcases h with ⟨hk, hp⟩ | ⟨hk, hm⟩
 ·rw [if_pos hk]
  split
  ·exact Nat.le_refl _
  ·rename_i h2
   have : ¬ x.to.lsn < r.lsn := fun e => h2 ⟨hp, e⟩
   omega
 ·rw [if_neg (by omega), if_pos hk]
  exact imgsP_on hm
def runP (rs : List Recd) (x : PImg) : PImg := rs.foldl (fun x r => stepP r x) x
theorem runP_append (a b : List Recd) (x : PImg) : runP (a ++ b) x = runP b (runP a x) := List.foldl_append
theorem runP_page : ∀ (rs : List Recd) (x : PImg), (runP rs x).page = x.page
 | [], _ => rfl
 | r :: rs, x => (runP_page rs _).trans (stepP_page r x)
theorem runP_lsn : ∀ (rs : List Recd) (x : PImg), x.to.lsn ≤ (runP rs x).to.lsn
 | [], _ => Nat.le_refl _
 | r :: rs, x => Nat.le_trans (stepP_lsn r x) (runP_lsn rs _)
theorem runP_seen {rs : List Recd} {r : Recd} (x : PImg) (h : r ∈ rs) : stepP r (runP rs x) = runP rs x ∧ okP r (runP rs x) := by
 by_cases ht : touchP r x.page
 ·obtain ⟨a, b, rfl⟩ := List.append_of_mem h
  refine stepP_seen ?_
  rw [runP_append]
  show r.lsn ≤ (runP b (stepP r (runP a x))).to.lsn
  exact Nat.le_trans (stepP_on (by rw [runP_page]; exact ht)) (runP_lsn b _)
 ·exact stepP_off (by rw [runP_page]; exact ht)

/-! Lists of pages that rise. -/
theorem plc_mem {l : List PImg} (hr : Rising PImg.page l) {n : Nat} : plcB l n = true ↔ n ∈ l.map PImg.page := by
 constructor
 ·intro h
  obtain ⟨x, hx, he⟩ := plc_some h
  exact List.mem_map.2 ⟨x, List.mem_of_getElem? hx, he⟩
 ·intro h
  obtain ⟨x, hx, rfl⟩ := List.mem_map.1 h
  obtain ⟨i, hi⟩ := List.mem_iff_getElem?.1 hx
  have hlt := (List.getElem?_eq_some_iff.1 hi).1
  have : plcI l x.page = i := plc_of (Nat.le_of_lt hlt) (fun j y hj hy => by
   have hy' := List.getElem?_eq_some_iff.1 hy
   have hx' := List.getElem?_eq_some_iff.1 hi
   have := List.pairwise_iff_getElem.1 hr j i (by omega) (by omega) hj
   rw [hy'.2, hx'.2] at this
   exact this) (fun y hy => by rw [hi] at hy; cases hy; exact Nat.le_refl _)
  unfold plcB
  rw [this, hi]
  exact decide_eq_true rfl
theorem set_map {l : List PImg} (hr : Rising PImg.page l) {i : Nat} {x y : PImg} (hx : l[i]? = some x) {g : PImg → PImg} (hg : g x = y) (ho : ∀ z ∈ l, z.page ≠ x.page → g z = z) : l.set i y = l.map g := by
 obtain ⟨hi, rfl⟩ := List.getElem?_eq_some_iff.1 hx
 refine List.ext_getElem (by simp) fun j h1 h2 => ?_
 rw [List.getElem_set, List.getElem_map]
 have hj : j < l.length := by simpa using h1
 split
 ·subst_vars; rfl
 ·rename_i hne
  refine (ho _ (List.getElem_mem hj) fun e => ?_).symm
  rcases Nat.lt_or_ge i j with hlt | hge
  ·have := List.pairwise_iff_getElem.1 hr i j hi hj hlt
   omega
  ·have := List.pairwise_iff_getElem.1 hr j i hj hi (by omega)
   omega
theorem map_self {l : List PImg} {g : PImg → PImg} (h : ∀ z ∈ l, g z = z) : l.map g = l := by
 conv => rhs; rw [← List.map_id l]
 exact List.map_congr_left fun z hz => h z hz
theorem page_eq {l : List PImg} (hr : Rising PImg.page l) {x y : PImg} (hx : x ∈ l) (hy : y ∈ l) (h : x.page = y.page) : x = y := by
 obtain ⟨i, hi⟩ := List.mem_iff_getElem?.1 hx
 obtain ⟨j, hj⟩ := List.mem_iff_getElem?.1 hy
 obtain ⟨h1, rfl⟩ := List.getElem?_eq_some_iff.1 hi
 obtain ⟨h2, rfl⟩ := List.getElem?_eq_some_iff.1 hj
 rcases Nat.lt_trichotomy i j with h3 | rfl | h3
 ·have := List.pairwise_iff_getElem.1 hr i j h1 h2 h3; omega
 ·rfl
 ·have := List.pairwise_iff_getElem.1 hr j i h2 h1 h3; omega
theorem pages_map {l : List PImg} {g : PImg → PImg} (h : ∀ x, (g x).page = x.page) : (l.map g).map PImg.page = l.map PImg.page := by
 rw [List.map_map]
 exact List.map_congr_left fun x _ => h x
theorem imgQ1_map {l : List PImg} (hr : Rising PImg.page l) {lsn : Nat} {m : PImg} : imgQ1 l lsn m = if m.page ∈ l.map PImg.page then some (l.map fun x => imgP lsn x m) else none := by
 unfold imgQ1
 by_cases hp : plcB l m.page = true
 ·rw [if_pos hp, if_pos ((plc_mem hr).1 hp)]
  obtain ⟨x, hx, he⟩ := plc_some hp
  rw [hx]
  dsimp only
  split
  ·rename_i hl
   rw [set_map hr hx (g := fun x => imgP lsn x m) (if_pos ⟨he.symm, hl⟩) (fun z _ hz => if_neg (fun e => hz (e.1.symm.trans he.symm)))]
  ·rename_i hl
   rw [map_self]
   intro z hz
   refine if_neg fun e => ?_
   obtain rfl := page_eq hr hz (List.mem_of_getElem? hx) (e.1.symm.trans he.symm)
   exact hl e.2
 ·rw [if_neg hp, if_neg (fun e => hp ((plc_mem hr).2 e))]
theorem imgsQ_map : ∀ {ms l : List PImg} {lsn : Nat}, Rising PImg.page l → ((imgsQ l lsn ms).2 = 0 ↔ ∀ m ∈ ms, m.page ∈ l.map PImg.page) ∧ ((imgsQ l lsn ms).2 = 0 → (imgsQ l lsn ms).1 = l.map (imgsP lsn ms))
 | [], l, lsn, hr => by
  refine ⟨⟨(fun _ m hm => by cases hm), fun _ => rfl⟩, fun _ => ?_⟩
  exact (map_self fun z _ => rfl).symm
 | m :: ms, l, lsn, hr => by
  rw [imgsQ, imgQ1_map hr]
  by_cases hm : m.page ∈ l.map PImg.page
  ·rw [if_pos hm]
   dsimp only
   have hpp : (l.map fun x => imgP lsn x m).map PImg.page = l.map PImg.page := pages_map fun x => imgP_page lsn x m
   obtain ⟨h1, h2⟩ := imgsQ_map (ms := ms) (lsn := lsn) (rising_pages hpp hr)
   rw [hpp] at h1
   refine ⟨h1.trans ⟨fun h y hy => ?_, fun h y hy => h y (List.mem_cons_of_mem _ hy)⟩, fun h => ?_⟩
   ·rcases List.mem_cons.1 hy with rfl | hy
    ·exact hm
    ·exact h y hy
   ·rw [h2 h, List.map_map]
    rfl
  ·rw [if_neg hm]
   dsimp only
   exact ⟨⟨fun h => absurd h (by decide), fun h => absurd (h m List.mem_cons_self) hm⟩, fun h => absurd h (by decide)⟩
theorem redoQ_map {l : List PImg} (hr : Rising PImg.page l) (r : Recd) : ((redoQ l r).2 = 0 ↔ placeP (l.map PImg.page) r ∧ ∀ x ∈ l, okP r x) ∧ ((redoQ l r).2 = 0 → (redoQ l r).1 = l.map (stepP r)) := by
 unfold redoQ
 by_cases hk : r.kind = 2 ∨ r.kind = 3
 ·have hk4 : r.kind ≠ 4 := by omega
  rw [if_pos hk]
  unfold opQ
  by_cases hp : plcB l r.page = true
  ·rw [if_pos hp]
   obtain ⟨x, hx, he⟩ := plc_some hp
   have hmem := List.mem_of_getElem? hx
   have hpl : placeP (l.map PImg.page) r := ⟨fun _ => (plc_mem hr).1 hp, fun e => absurd e hk4⟩
   have hoth : ∀ z ∈ l, z.page ≠ x.page → stepP r z = z := fun z _ hz => (stepP_off (by
    rintro (⟨_, h2⟩ | ⟨h1, _⟩)
    ·exact hz (h2.symm.trans he.symm)
    ·exact hk4 h1)).1
   rw [hx]
   dsimp only
   by_cases hl : r.lsn ≤ x.to.lsn
   ·rw [if_pos hl]
    dsimp only
    refine ⟨⟨fun _ => ⟨hpl, fun z hz _ h2 h3 => ?_⟩, fun _ => rfl⟩, fun _ => (map_self fun z hz => ?_).symm⟩
    ·obtain rfl := page_eq hr hz hmem (h2.symm.trans he.symm)
     omega
    ·by_cases hzp : z.page = x.page
     ·obtain rfl := page_eq hr hz hmem hzp
      exact (stepP_seen hl).1
     ·exact hoth z hz hzp
   ·rw [if_neg hl]
    by_cases hd : (doQ x.to r.op).2 = 0
    ·rw [if_pos hd]
     dsimp only
     refine ⟨⟨fun _ => ⟨hpl, fun z hz _ h2 h3 => ?_⟩, fun _ => rfl⟩, fun _ => ?_⟩
     ·obtain rfl := page_eq hr hz hmem (h2.symm.trans he.symm)
      exact hd
     ·refine set_map hr hx ?_ hoth
      unfold stepP
      rw [if_pos hk, if_pos ⟨he.symm, by omega⟩]
    ·rw [if_neg hd]
     dsimp only
     exact ⟨⟨fun h => absurd h (by decide), fun h => absurd (h.2 x hmem hk he.symm (by omega)) hd⟩, fun h => absurd h (by decide)⟩
  ·rw [if_neg hp]
   dsimp only
   exact ⟨⟨fun h => absurd h (by decide), fun h => absurd ((plc_mem hr).2 (h.1.1 hk)) hp⟩, fun h => absurd h (by decide)⟩
 ·rw [if_neg hk]
  by_cases hk4 : r.kind = 4
  ·rw [if_pos hk4]
   obtain ⟨h1, h2⟩ := imgsQ_map (ms := r.images) (lsn := r.lsn) hr
   refine ⟨h1.trans ⟨fun h => ⟨⟨fun e => absurd e hk, fun _ => h⟩, fun x _ e => absurd e hk⟩, fun h => h.1.2 hk4⟩, fun h => ?_⟩
   rw [h2 h]
   refine List.map_congr_left fun x _ => ?_
   unfold stepP
   rw [if_neg hk, if_pos hk4]
  ·rw [if_neg hk4]
   dsimp only
   refine ⟨⟨fun _ => ⟨⟨fun e => absurd e hk, fun e => absurd e hk4⟩, fun x _ e => absurd e hk⟩, fun _ => rfl⟩, fun _ => (map_self fun z _ => ?_).symm⟩
   unfold stepP
   rw [if_neg hk, if_neg hk4]
theorem redos_all : ∀ {rs : List Recd} {l : List PImg}, Rising PImg.page l → (redosQ 0 l rs).2 = 0 → (redosQ 0 l rs).1 = l.map (runP rs) ∧ ∀ (k : Nat) r, rs[k]? = some r → placeP (l.map PImg.page) r ∧ ∀ x ∈ l, okP r (runP (rs.take k) x)
 | [], l, hr, h => ⟨(map_self fun z _ => rfl).symm, fun k r hk => by simp at hk⟩
 | r :: rs, l, hr, h => by
  rw [redosQ, if_neg (by omega)] at h ⊢
  obtain ⟨h1, h2⟩ := redoQ_map hr r
  by_cases he : (redoQ l r).2 = 0
  ·rw [if_neg (fun e => e he)] at h ⊢
   rw [h2 he] at h ⊢
   have hpp : (l.map (stepP r)).map PImg.page = l.map PImg.page := pages_map (stepP_page r)
   obtain ⟨i1, i2⟩ := redos_all (rising_pages hpp hr) h
   refine ⟨by rw [i1, List.map_map]; rfl, fun k q hk => ?_⟩
   cases k with
   | zero => cases hk; exact h1.1 he
   | succ k =>
    obtain ⟨j1, j2⟩ := i2 k q hk
    rw [hpp] at j1
    exact ⟨j1, fun x hx => j2 _ (List.mem_map.2 ⟨x, hx, rfl⟩)⟩
  ·rw [if_pos he] at h
   exact absurd h he
def Seen (rs : List Recd) (n : Nat) (x y : PImg) : Prop := ∃ k, n ≤ k ∧ k ≤ rs.length ∧ y = runP (rs.take k) x
def SeenL (rs : List Recd) (n : Nat) (l m : List PImg) : Prop := m.length = l.length ∧ ∀ (i : Nat) x y, l[i]? = some x → m[i]? = some y → Seen rs n x y
theorem SeenL.pages {rs : List Recd} {n : Nat} {l m : List PImg} (h : SeenL rs n l m) : m.map PImg.page = l.map PImg.page := by
 refine List.ext_getElem (by simp [h.1]) fun i h1 h2 => ?_
 rw [List.getElem_map, List.getElem_map]
 obtain ⟨k, _, _, e⟩ := h.2 i _ _ (List.getElem?_eq_getElem (by simpa using h2)) (List.getElem?_eq_getElem (by simpa using h1))
 rw [e, runP_page]
theorem redos_mixed {rs : List Recd} {l : List PImg} (hri : Rising PImg.page l) (hfull : ∀ (k : Nat) r, rs[k]? = some r → placeP (l.map PImg.page) r ∧ ∀ x ∈ l, okP r (runP (rs.take k) x)) {f least : Nat} (hf : ∀ (j : Nat) r, rs[j]? = some r → r.lsn < f → j < least) :
  ∀ (n j : Nat) (m : List PImg), n + j = rs.length → SeenL rs (max least j) l m → redosQ f m (rs.drop j) = (l.map (runP rs), 0)
 | 0, j, m, hn, hs => by
  obtain rfl : j = rs.length := by omega
  rw [List.drop_length]
  show (m, (0 : Int)) = _
  have : m = l.map (runP rs) := by
   refine List.ext_getElem (by simp [hs.1]) fun i h1 h2 => ?_
   rw [List.getElem_map]
   obtain ⟨k, h3, h4, e⟩ := hs.2 i _ _ (List.getElem?_eq_getElem (by simpa using h2)) (List.getElem?_eq_getElem (by simpa using h1))
   obtain rfl : k = rs.length := by omega
   rw [e, List.take_length]
  rw [this]
 | n + 1, j, m, hn, hs => by
  have hj : rs[j]? = some (rs[j]'(by omega)) := List.getElem?_eq_getElem (by omega)
  generalize rs[j]'(by omega) = r at hj
  rw [redos_step hj]
  by_cases hl : r.lsn < f
  ·rw [if_pos hl]
   have hjl := hf j r hj hl
   exact redos_mixed hri hfull hf n (j + 1) m (by omega) (by rw [show max least (j + 1) = max least j by omega]; exact hs)
  ·rw [if_neg hl]
   have hpg := hs.pages
   obtain ⟨h1, h2⟩ := redoQ_map (rising_pages hpg hri) r
   obtain ⟨f1, f2⟩ := hfull j r hj
   have key : ∀ (i : Nat) x y, l[i]? = some x → m[i]? = some y → okP r y ∧ Seen rs (max least (j + 1)) x (stepP r y) := by
    intro i x y hx hy
    obtain ⟨k, h3, h4, rfl⟩ := hs.2 i x y hx hy
    have hjk : j ≤ k := by omega
    rcases Nat.lt_or_ge j k with hlt | hge
    ·have hm : r ∈ rs.take k := List.mem_iff_getElem?.2 ⟨j, by rw [List.getElem?_take, if_pos hlt]; exact hj⟩
     obtain ⟨e1, e2⟩ := runP_seen x hm
     exact ⟨e2, k, by omega, h4, e1⟩
    ·obtain rfl : k = j := by omega
     refine ⟨f2 x (List.mem_of_getElem? hx), k + 1, by omega, by omega, ?_⟩
     rw [List.take_add_one, hj, runP_append]
     rfl
   have hok : (redoQ m r).2 = 0 := h1.2 ⟨by rw [hpg]; exact f1, fun y hy => by
    obtain ⟨i, hi⟩ := List.mem_iff_getElem?.1 hy
    have hlt := (List.getElem?_eq_some_iff.1 hi).1
    exact (key i _ y (List.getElem?_eq_getElem (by have := hs.1; omega)) hi).1⟩
   rw [if_neg (fun e => e hok), h2 hok]
   refine redos_mixed hri hfull hf n (j + 1) _ (by omega) ⟨by rw [List.length_map]; exact hs.1, fun i x y hx hy => ?_⟩
   rw [List.getElem?_map] at hy
   cases hmi : m[i]? with
   | none => rw [hmi] at hy; cases hy
   | some z =>
    rw [hmi] at hy
    cases hy
    exact (key i x z hx hmi).2
/-! The pages may be handed in again. -/
def fitP (x : PImg) : Bool := mayQ x.to || zeroQ x.to
theorem imgP_fit {lsn : Nat} {x m : PImg} (hx : fitP x = true) (hm : mayQ m.to = true) : fitP (imgP lsn x m) = true := by
 unfold imgP
 split
 ·show (mayQ m.to || _) = true
  rw [hm]; rfl
 ·exact hx
theorem imgsP_fit {lsn : Nat} : ∀ {ms : List PImg} {x : PImg}, fitP x = true → (∀ m ∈ ms, mayQ m.to = true) → fitP (imgsP lsn ms x) = true
 | [], _, hx, _ => hx
 | m :: ms, x, hx, hm => imgsP_fit (ms := ms) (imgP_fit hx (hm m List.mem_cons_self)) fun y hy => hm y (List.mem_cons_of_mem _ hy)
theorem stepP_fit {r : Recd} {x : PImg} (hx : fitP x = true) (hr : mayR r = true) (ho : okP r x) : fitP (stepP r x) = true := by
 have hok : okR r := by
  unfold mayR at hr
  rw [Bool.and_eq_true] at hr
  exact of_decide_eq_true hr.1
 unfold stepP
 split
 ·rename_i hk
  split
  ·rename_i h
   have hd := ho hk h.1 h.2
   have hmq := do_may (p := x.to) (o := r.op) (q := (doQ x.to r.op).1) (Prod.ext rfl hd)
   show (mayQ (doQ x.to r.op).1 || _) = true
   rw [hmq]; rfl
  ·exact hx
 ·split
  ·exact imgsP_fit hx fun m hm => by
    have := hok.2.2.2.2.2.2.1 m hm
    unfold imgQ at this
    rw [Bool.and_eq_true] at this
    exact this.1
  ·exact hx
theorem rightQ_may : ∀ {rs : List Recd} {n : Nat}, rightQ n rs = true → ∀ r ∈ rs, n < r.lsn ∧ mayR r = true
 | [], _, _, r, hr => by cases hr
 | q :: rs, n, h, r, hr => by
  rw [rightQ, Bool.and_eq_true, Bool.and_eq_true, decide_eq_true_eq] at h
  rcases List.mem_cons.1 hr with rfl | hr
  ·exact h.1
  ·obtain ⟨h1, h2⟩ := rightQ_may h.2 r hr
   exact ⟨by omega, h2⟩
theorem rightQ_take : ∀ {rs : List Recd} {n : Nat} (k : Nat), rightQ n rs = true → rightQ n (rs.take k) = true
 | [], _, k, _ => by rw [List.take_nil]; rfl
 | q :: rs, n, 0, h => rfl
 | q :: rs, n, k + 1, h => by
  rw [rightQ, Bool.and_eq_true] at h
  rw [List.take_succ_cons, rightQ, Bool.and_eq_true]
  exact ⟨h.1, rightQ_take k h.2⟩
theorem rightQ_rise : ∀ {rs : List Recd} {n : Nat}, rightQ n rs = true → rs.Pairwise fun a b => a.lsn < b.lsn
 | [], _, _ => List.Pairwise.nil
 | q :: rs, n, h => by
  rw [rightQ, Bool.and_eq_true] at h
  exact List.pairwise_cons.2 ⟨fun b hb => (rightQ_may h.2 b hb).1, rightQ_rise h.2⟩
theorem runP_fit {rs : List Recd} {x : PImg} (hx : fitP x = true) (hr : ∀ r ∈ rs, mayR r = true) (ho : ∀ (k : Nat) r, rs[k]? = some r → okP r (runP (rs.take k) x)) : ∀ k, fitP (runP (rs.take k) x) = true
 | 0 => by rw [List.take_zero]; exact hx
 | k + 1 => by
  rw [List.take_add_one, runP_append]
  have ih := runP_fit hx hr ho k
  cases h : rs[k]? with
  | none => exact ih
  | some r => exact stepP_fit ih (hr r (List.mem_of_getElem? h)) (ho k r h)
theorem pagesQ_of : ∀ {l : List PImg} {n : Nat}, (∀ x ∈ l, n < x.page) → Rising PImg.page l → (∀ x ∈ l, fitP x = true) → pagesQ n l = true
 | [], _, _, _, _ => rfl
 | x :: l, n, h1, h2, h3 => by
  rw [pagesQ, Bool.and_eq_true, Bool.and_eq_true, decide_eq_true_eq]
  have h2' := List.pairwise_cons.1 h2
  exact ⟨⟨h1 x List.mem_cons_self, h3 x List.mem_cons_self⟩, pagesQ_of h2'.1 h2'.2 fun y hy => h3 y (List.mem_cons_of_mem _ hy)⟩
structure Full (l : List PImg) (rs : List Recd) : Prop where
 rise : Rising PImg.page l
 pos : ∀ x ∈ l, 0 < x.page
 fit : ∀ x ∈ l, fitP x = true
 right : rightQ 0 rs = true
 full : ∀ (k : Nat) r, rs[k]? = some r → placeP (l.map PImg.page) r ∧ ∀ x ∈ l, okP r (runP (rs.take k) x)
theorem Full.of {l : List PImg} {rs : List Recd} (h : (RedoQ l rs 0).2 = 0) : Full l rs ∧ (RedoQ l rs 0).1 = l.map (runP rs) := by
 unfold RedoQ at h ⊢
 split at h
 ·exact absurd h (by decide)
 ·rename_i hp
  have hp : pagesQ 0 l = true := by simpa using hp
  rw [if_neg (by simp [hp])]
  split at h
  ·exact absurd h (by decide)
  ·rename_i hr
   have hr : rightQ 0 rs = true := by simpa using hr
   rw [if_neg (by simp [hr])]
   obtain ⟨p1, p2, p3⟩ := pages_rise hp
   obtain ⟨a, b⟩ := redos_all p1 h
   exact ⟨⟨p1, p2, fun x hx => by
    unfold fitP
    rw [Bool.or_eq_true]
    exact p3 x hx, hr, b⟩, a⟩
theorem Full.take {l : List PImg} {rs : List Recd} (h : Full l rs) (n : Nat) : Full l (rs.take n) :=
 ⟨h.rise, h.pos, h.fit, rightQ_take n h.right, fun k r hk => by
  rw [List.getElem?_take] at hk
  split at hk
  ·rename_i hkn
   rw [List.take_take, Nat.min_eq_left (Nat.le_of_lt hkn)]
   exact h.full k r hk
  ·cases hk⟩
theorem Full.mixed {l m : List PImg} {rs : List Recd} (h : Full l rs) {f least : Nat} (hf : ∀ (j : Nat) r, rs[j]? = some r → r.lsn < f → j < least) (hs : SeenL rs least l m) : RedoQ m rs f = (l.map (runP rs), 0) := by
 have hpg := hs.pages
 have hri := rising_pages hpg h.rise
 have hmem : ∀ y ∈ m, 0 < y.page ∧ fitP y = true := fun y hy => by
  obtain ⟨i, hi⟩ := List.mem_iff_getElem?.1 hy
  have hlt := (List.getElem?_eq_some_iff.1 hi).1
  have hx : l[i]? = some (l[i]'(by have := hs.1; omega)) := List.getElem?_eq_getElem (by have := hs.1; omega)
  obtain ⟨k, _, _, rfl⟩ := hs.2 i _ y hx hi
  have hm := List.mem_of_getElem? hx
  exact ⟨by rw [runP_page]; exact h.pos _ hm, runP_fit (h.fit _ hm) (fun r hr => (rightQ_may h.right r hr).2) (fun k r hk => (h.full k r hk).2 _ hm) k⟩
 unfold RedoQ
 rw [if_neg (by rw [pagesQ_of (fun y hy => (hmem y hy).1) hri fun y hy => (hmem y hy).2]; decide), if_neg (by rw [h.right]; decide)]
 have := redos_mixed h.rise h.full hf rs.length 0 m rfl (by rw [Nat.max_zero]; exact hs)
 exact this
theorem Full.run {l : List PImg} {rs : List Recd} (h : Full l rs) : RedoQ l rs 0 = (l.map (runP rs), 0) :=
 h.mixed (least := 0) (fun j r _ hl => absurd hl (by omega)) ⟨rfl, fun i x y hx hy => ⟨0, Nat.le_refl _, Nat.zero_le _, by rw [hx] at hy; cases hy; rfl⟩⟩
theorem Full.end {l : List PImg} {rs : List Recd} (h : Full l rs) : RedoQ (l.map (runP rs)) rs 0 = (l.map (runP rs), 0) :=
 h.mixed (least := rs.length) (fun j r _ hl => absurd hl (by omega)) ⟨by simp, fun i x y hx hy => ⟨rs.length, Nat.le_refl _, Nat.le_refl _, by rw [List.getElem?_map, hx] at hy; cases hy; rw [List.take_length]⟩⟩
end Go.Proofs.YtkdngpiiecmpgaaGreat.Ch
