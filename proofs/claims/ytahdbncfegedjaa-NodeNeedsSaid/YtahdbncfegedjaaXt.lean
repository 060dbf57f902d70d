/-
  Trees of pages: the plan of a Split, plainly. Conditions: each theorem's own.
-/
import Derived.Test.YtahdbncfegedjaaXs

namespace Go.Proofs.Ytahdbncfegedjaa.Nd
open Go Go.K Go.Proofs Go.Proofs.Ytahdbncfegedjaa Go.Proofs.Ytahdbncfegedjaa.Pg
set_option linter.unusedVariables false
set_option linter.unusedSimpArgs false
set_option maxRecDepth 10000

structure PlS where
  c : PCell
  imgs : List PImg
  fs : List Nat
  cnt : Nat
def stepS (st : PlS) (i n : Nat) (p : Pag) : PlS := ⟨upQ (entQ p st.c) (frQ (decide (i = 0)) st.fs), st.imgs ++ divI n p st.c (decide (i = 0)) st.fs, (fs1 (decide (i = 0)) st.fs).tail, st.cnt + if decide (i = 0) = true then 2 else 1⟩
def lastS (m : Nat) (st : PlS) (i n : Nat) (p : Pag) : PlS := if i + 1 < m then { st with imgs := st.imgs ++ [⟨n, { p with cells := insQ p.kind p.cells st.c }⟩] } else st
def planL (G : Option GetQ) (m : Nat) : List Stp → PlS → Except Int PlS
  | [], st => .ok st
  | (i, n) :: r, st => match pageQ G n with
    | .error e => .error e
    | .ok p => if fitsQ p st.c then .ok (lastS m st i n p) else if i = 0 ∧ 8 ≤ m then .error 4 else planL G m r (stepS st i n p)
def newS (s : List UInt8) (fs : List Nat) : PlS := ⟨⟨true, 0, s⟩, [], fs, 0⟩
def planQ (G : Option GetQ) (path : List Nat) (s : List UInt8) (fs : List Nat) : Except Int PlS := match pageQ G (path.getLastD 0) with
  | .error e => .error e
  | .ok p => if p.cells.any (fun c => decide (c.data = s)) then .error 7 else match planL G path.length (backQ path) (newS s fs) with
    | .error e => .error e
    | .ok st => if st.imgs.all (fun x => mayQ x.to) then .ok st else .error 5
theorem pl_err {G : Option GetQ} {m i n : Nat} {r : List Stp} {st : PlS} {e : Int} (h : pageQ G n = .error e) : planL G m ((i, n) :: r) st = .error e := by rw [planL, h]
theorem pl_fits {G : Option GetQ} {m i n : Nat} {r : List Stp} {st : PlS} {p : Pag} (h : pageQ G n = .ok p) (hf : fitsQ p st.c = true) : planL G m ((i, n) :: r) st = .ok (lastS m st i n p) := by rw [planL, h]; simp [hf]
theorem pl_full {G : Option GetQ} {m i n : Nat} {r : List Stp} {st : PlS} {p : Pag} (h : pageQ G n = .ok p) (hf : fitsQ p st.c = false) (h0 : i = 0 ∧ 8 ≤ m) : planL G m ((i, n) :: r) st = .error 4 := by rw [planL, h]; simp [hf, h0]
theorem pl_step {G : Option GetQ} {m i n : Nat} {r : List Stp} {st : PlS} {p : Pag} (h : pageQ G n = .ok p) (hf : fitsQ p st.c = false) (h0 : ¬ (i = 0 ∧ 8 ≤ m)) : planL G m ((i, n) :: r) st = planL G m r (stepS st i n p) := by rw [planL, h]; simp [hf, h0]
/-- The pages of a path. -/
def PathOk (G : Option GetQ) (path : List Nat) : Prop := 0 < path.length ∧ path.length ≤ 8 ∧ ∀ (i : Nat) x, path[i]? = some x → ∃ p, pageQ G x = .ok p ∧ (p.kind = 2 ↔ i + 1 = path.length)
theorem way_pages {G : Option GetQ} {s : List UInt8} : ∀ {k n : Nat} {l : List Nat}, wayQ G s k n = .ok l → ∀ (i : Nat) x, l[i]? = some x → ∃ p, pageQ G x = .ok p ∧ (p.kind = 2 ↔ i + 1 = l.length)
  | 0, n, l, h, i, x, hx => by
    unfold wayQ at h
    split at h
    · cases h
    · rename_i p hp
      split at h
      · cases h
        rename_i hk
        cases i with
        | zero => cases hx; exact ⟨p, hp, by simp [hk]⟩
        | succ i => simp at hx
      · cases h
  | k + 1, n, l, h, i, x, hx => by
    unfold wayQ at h
    split at h
    · cases h
    · rename_i p hp
      split at h
      · cases h
        rename_i hk
        cases i with
        | zero => cases hx; exact ⟨p, hp, by simp [hk]⟩
        | succ i => simp at hx
      · rename_i hk
        dsimp only at h
        split at h
        · cases h
        · rename_i l' hl
          cases h
          cases i with
          | zero =>
            cases hx
            refine ⟨p, hp, ⟨fun h2 => absurd h2 hk, fun h2 => ?_⟩⟩
            have := List.length_pos_iff.2 (way_ne hl)
            rw [List.length_cons] at h2
            omega
          | succ i =>
            obtain ⟨q, h1, h2⟩ := way_pages hl i x (by simpa using hx)
            exact ⟨q, h1, h2.trans (by simp)⟩
theorem start_ok {G : Option GetQ} {path : List Nat} {s : List UInt8} (h : startQ G path s = .ok ()) : wayQ G s 7 (path.headD 0) = .ok path ∧ isEntryQ s = true ∧ PathOk G path := by
  unfold startQ at h
  split at h
  · cases h
  · rename_i hn
    have he : isEntryQ s = true := by
      cases hs : isEntryQ s with
      | true => rfl
      | false => exact absurd (.inr (.inr hs)) hn
    split at h
    · cases h
    · rename_i l hl
      split at h
      · rename_i e; subst e
        exact ⟨hl, he, List.length_pos_iff.2 (way_ne hl), way_len hl, way_pages hl⟩
      · cases h
structure InvS (path : List Nat) (F j : Nat) (st : PlS) : Prop where
  c200 : st.c.data.length ≤ 200
  c4 : 0 < j → 4 ≤ st.c.data.length
  leaf : j = 0 → st.c.data.length ≤ 146
  imgs : st.imgs.length ≤ 3 * j
  fs : st.fs.length ≤ F
  cnt : st.cnt ≤ 2 * j
theorem good_data {p : Pag} (h : goodP p = true) : (p.kind = 2 ∨ p.kind = 3) ∧ p.cells.length ≤ 60 ∧ (∀ x ∈ p.cells, x.data.length ≤ 180) ∧ (p.kind = 3 → (∀ x ∈ p.cells, 4 ≤ x.data.length) ∧ 0 < p.cells.length) := by
  obtain ⟨a, b, c⟩ := good_iff.1 h
  have hm := (mayQ_iff p).1 a
  have h1 := hm.1
  refine ⟨by omega, hm.2.1, fun x hx => ?_, fun h3 => ⟨fun x hx => ?_, ?_⟩⟩
  · obtain ⟨i, hi⟩ := List.mem_iff_getElem?.1 hx
    have hc := hm.2.2.1 i x hi
    exact (hc.1.1 ((hc.2.2 b).1)).2
  · have := (inner_of h (by omega)).2.2.2 x hx; omega
  · exact (inner_of h (by omega)).2.2.1
theorem div_ok {path : List Nat} {F j : Nat} {st : PlS} {p : Pag} (hi : InvS path F j st) (h : goodP p = true) (hf : fitsQ p st.c = false) (h3 : p.kind = 3 → 0 < j) : DivOk p st.c := by
  obtain ⟨h1, h2, h4, h5⟩ := good_data h
  have hc := hi.c200
  refine ⟨h1, ?_, h2, h4, fun h => (h5 h).1, by omega, fun h => hi.c4 (h3 h)⟩
  rcases h1 with h1 | h1
  · rcases Nat.eq_zero_or_pos p.cells.length with h0 | h0
    · exfalso
      have : p.cells = [] := List.eq_nil_of_length_eq_zero h0
      unfold fitsQ at hf
      rw [decide_eq_false_iff_not] at hf
      apply hf
      rw [this]
      simp [sizeQ, sizeS]
      omega
    · exact h0
  · exact (h5 h1).2
theorem good_small {p : Pag} (h : goodP p = true) : small p.cells := by
  obtain ⟨h1, h2, h4, h5⟩ := good_data h
  exact ⟨by omega, fun x hx => by have := h4 x hx; omega⟩
theorem inv_step {path : List Nat} {F j i n : Nat} {st : PlS} {p : Pag} (hi : InvS path F j st) (hd : DivOk p st.c) (h2 : p.kind = 2 → j = 0) : InvS path F (j + 1) (stepS st i n p) := by
  have hc := hi.c200
  have hent : (entQ p st.c).length ≤ 196 := by
    rcases row_mem (mid_mem (p := p) (c := st.c)) with h | h
    · unfold entQ keyQ
      rw [h]
      split
      · simp; omega
      · rename_i hk
        have := hi.leaf (h2 (hd.kind.resolve_right hk))
        omega
    · have := hd.data _ h
      unfold entQ keyQ
      split
      · simp; omega
      · omega
  have hup : (upQ (entQ p st.c) (frQ (decide (i = 0)) st.fs)).data.length = (entQ p st.c).length + 4 := by simp [upQ, be4]
  have himg : (divI n p st.c (decide (i = 0)) st.fs).length ≤ 3 := by unfold divI; split <;> simp
  refine ⟨by show (upQ _ _).data.length ≤ 200; omega, fun _ => by show 4 ≤ (upQ _ _).data.length; omega, fun h => by omega, ?_, ?_, ?_⟩
  · show (st.imgs ++ divI _ _ _ _ _).length ≤ _
    rw [List.length_append]
    have := hi.imgs
    omega
  · show (fs1 (decide (i = 0)) st.fs).tail.length ≤ F
    have := hi.fs
    unfold fs1
    split <;> simp <;> omega
  · show st.cnt + _ ≤ _
    have := hi.cnt
    split <;> omega
theorem inv_new {path : List Nat} {s : List UInt8} {fs : List Nat} {F : Nat} (hs : isEntryQ s = true) (hf : fs.length ≤ F) : InvS path F 0 (newS s fs) := by
  have := of_decide_eq_true hs
  exact ⟨by show s.length ≤ 200; omega, fun h => by omega, fun _ => by show s.length ≤ 146; omega, Nat.zero_le _, hf, Nat.zero_le _⟩
end Go.Proofs.Ytahdbncfegedjaa.Nd
