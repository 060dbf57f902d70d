/-
  Rings: where nobody is in one somebody waits for nothing; giving back makes none. The plain law. Conditions: each theorem's own.
-/
import Derived.Test.YtcpdfajaggbjlaaDoorUa

namespace Go.Proofs.YtcpdfajaggbjlaaDoor.Lk
open Go Go.K Go.Proofs Go.Proofs.YtcpdfajaggbjlaaDoor
set_option linter.unusedVariables false
set_option linter.unusedSimpArgs false
set_option maxRecDepth 10000

theorem waits_irr {l : List PLock} {p : PW} (hp : p ∈ waitsQ l) : p.1 ≠ p.2 := by
  obtain ⟨i, x, h1, h2, h3, h4⟩ := waits_mem.1 hp
  obtain ⟨k, y, h5, h6, h7⟩ := reasons_mem.1 h4
  intro e
  unfold whyQ blockQ at h6
  have : x.txn = y.txn := by rw [← h3, h7, e]
  rw [this] at h6
  simp at h6
theorem ring_two {l : List PLock} {v : Nat} (h : ReachW (waitsQ l) v v) : 1 < (waitsQ l).length := by
  have key : ∃ b c, (v, b) ∈ waitsQ l ∧ (b, c) ∈ waitsQ l := by
    cases h with
    | one h1 => exact absurd rfl (waits_irr h1)
    | more h1 h2 =>
      obtain ⟨c, hc⟩ := h2.first
      exact ⟨_, c, h1, hc⟩
  obtain ⟨b, c, h1, h2⟩ := key
  have hne : ((v, b) : PW) ≠ (b, c) := fun e => waits_irr h1 (by cases e; rfl)
  generalize waitsQ l = w at h1 h2
  match w, h1, h2 with
  | [x], h1, h2 =>
    exact absurd ((List.mem_singleton.1 h1).trans (List.mem_singleton.1 h2).symm) hne
  | x :: y :: r, _, _ => simp
/-- Where each of some has an edge to one of them there is a ring. -/
theorem ring_of {w : List PW} {T : List Nat} (h : ∀ t ∈ T, ∃ u ∈ T, (t, u) ∈ w) {t0 : Nat} (h0 : t0 ∈ T) : ∃ q ∈ T, ReachW w q q := by
  have key : ∀ n : Nat, (∃ q ∈ T, ReachW w q q) ∨ ∃ t p, (t :: p).length = n + 1 ∧ (t :: p).Nodup ∧ (∀ s ∈ t :: p, s ∈ T) ∧ ∀ s ∈ p, ReachW w s t := by
    intro n
    induction n with
    | zero => exact .inr ⟨t0, [], rfl, List.pairwise_singleton _ _, (fun s hs => by rw [List.mem_singleton.1 hs]; exact h0), fun s hs => by cases hs⟩
    | succ n ih =>
      rcases ih with h1 | ⟨t, p, h1, h2, h3, h4⟩
      · exact .inl h1
      · obtain ⟨u, hu, hw⟩ := h t (h3 t List.mem_cons_self)
        by_cases hm : u ∈ t :: p
        · refine .inl ⟨u, hu, ?_⟩
          rcases List.mem_cons.1 hm with e | e
          · rw [e] at hw ⊢; exact .one hw
          · exact (h4 u e).trans (.one hw)
        · refine .inr ⟨u, t :: p, by rw [List.length_cons, h1], List.nodup_cons.2 ⟨hm, h2⟩, fun s hs => ?_, fun s hs => ?_⟩
          · rcases List.mem_cons.1 hs with e | e
            · rw [e]; exact hu
            · exact h3 s e
          · rcases List.mem_cons.1 hs with e | e
            · rw [e]; exact .one hw
            · exact (h4 s e).trans (.one hw)
  rcases key T.length with h1 | ⟨t, p, h1, h2, h3, _⟩
  · exact h1
  · have := nodup_le h2 h3
    omega
theorem waits_from {l : List PLock} {p : PW} (hp : p ∈ waitsQ l) : (∃ x ∈ l, x.txn = p.1 ∧ x.held = false) ∧ ∃ y ∈ l, y.txn = p.2 := by
  obtain ⟨i, x, h1, h2, h3, h4⟩ := waits_mem.1 hp
  obtain ⟨k, y, h5, h6, h7⟩ := reasons_mem.1 h4
  exact ⟨⟨x, List.mem_of_getElem? h1, h3.symm, h2⟩, y, List.mem_of_getElem? h5, h7⟩
/-- Somebody waits for nothing. -/
theorem free_one {l : List PLock} (h : Inv l) (hv : IsVict (waitsQ l) 0) (hne : l ≠ []) : ∃ x ∈ l, l.any (waitP x.txn) = false := by
  refine Classical.byContradiction fun hc => ?_
  have hall : ∀ t ∈ l.map (·.txn), ∃ u ∈ l.map (·.txn), (t, u) ∈ waitsQ l := fun t ht => by
    obtain ⟨x, hx, rfl⟩ := List.mem_map.1 ht
    have h1 : l.any (waitP x.txn) = true := by
      cases e : l.any (waitP x.txn) with
      | true => rfl
      | false => exact absurd ⟨x, hx, e⟩ hc
    obtain ⟨y, hy, h2⟩ := List.any_eq_true.1 h1
    unfold waitP at h2
    rw [Bool.and_eq_true, decide_eq_true_eq, Bool.not_eq_true'] at h2
    obtain ⟨i, hi⟩ := List.mem_iff_getElem?.1 hy
    obtain ⟨p, hp, h3, h4⟩ := wait_waits h hi h2.2
    obtain ⟨_, z, hz, h5⟩ := waits_from hp
    exact ⟨p.2, List.mem_map.2 ⟨z, hz, h5⟩, by rw [← h2.1, ← h3]; exact hp⟩
  obtain ⟨x, hx⟩ := List.exists_mem_of_ne_nil l hne
  obtain ⟨q, hq, hr⟩ := ring_of hall (List.mem_map.2 ⟨x, hx, rfl⟩)
  obtain ⟨y, hy, rfl⟩ := List.mem_map.1 hq
  have := hv.most _ hr
  have := (h.may y hy).2
  omega
theorem raise_rel (l : List PLock) : ∀ (n k : Nat) (y : PLock), (raiseQ l n).1[k]? = some y → ∃ z, l[k]? = some z ∧ y.txn = z.txn ∧ y.thing = z.thing ∧ y.mode = z.mode ∧ (z.held = true → y.held = true)
  | 0, k, y, h => ⟨y, h, rfl, rfl, rfl, id⟩
  | n + 1, k, y, h => by
    rw [raiseQ_succ] at h
    unfold raise1 at h
    have ih := raise_rel l n
    generalize raiseQ l n = r at h ih
    cases hx : r.1[n]? with
    | none => rw [hx] at h; exact ih k y h
    | some x =>
      rw [hx] at h
      dsimp only at h
      split at h
      · dsimp only at h
        by_cases e : k = n
        · subst e
          rw [List.getElem?_set_self (List.getElem?_eq_some_iff.1 hx).1] at h
          cases h
          obtain ⟨z, h1, h2, h3, h4, _⟩ := ih k x hx
          exact ⟨z, h1, h2, h3, h4, fun _ => rfl⟩
        · rw [List.getElem?_set_ne (fun e2 => e e2.symm)] at h
          exact ih k y h
      · exact ih k y h
theorem raise_at (l : List PLock) (n k : Nat) (z : PLock) (h : l[k]? = some z) : ∃ y, (raiseQ l n).1[k]? = some y ∧ y.txn = z.txn ∧ y.thing = z.thing ∧ y.mode = z.mode ∧ (z.held = true → y.held = true) := by
  have hk := (List.getElem?_eq_some_iff.1 h).1
  have hl := (raiseQ_len l n).1
  have hy : (raiseQ l n).1[k]? = some ((raiseQ l n).1[k]'(by omega)) := List.getElem?_eq_getElem (by omega)
  obtain ⟨z2, h1, h2⟩ := raise_rel l n k _ hy
  rw [h] at h1
  cases h1
  exact ⟨_, hy, h2⟩
theorem filter_two {p : PLock → Bool} : ∀ {l : List PLock} {k i : Nat} {y x : PLock}, k < i → (l.filter p)[k]? = some y → (l.filter p)[i]? = some x → ∃ k2 i2 : Nat, k2 < i2 ∧ l[k2]? = some y ∧ l[i2]? = some x
  | [], k, i, y, x, _, h, _ => by simp at h
  | z :: l, k, i, y, x, hki, h1, h2 => by
    by_cases hz : p z = true
    · rw [List.filter_cons_of_pos hz] at h1 h2
      cases i with
      | zero => omega
      | succ i =>
        rw [List.getElem?_cons_succ] at h2
        cases k with
        | zero =>
          cases h1
          obtain ⟨i2, hi2⟩ := List.mem_iff_getElem?.1 (List.mem_filter.1 (List.mem_of_getElem? h2)).1
          exact ⟨0, i2 + 1, Nat.succ_pos _, rfl, hi2⟩
        | succ k =>
          rw [List.getElem?_cons_succ] at h1
          obtain ⟨k2, i2, h3, h4, h5⟩ := filter_two (by omega) h1 h2
          exact ⟨k2 + 1, i2 + 1, by omega, h4, h5⟩
    · rw [List.filter_cons_of_neg hz] at h1 h2
      obtain ⟨k2, i2, h3, h4, h5⟩ := filter_two hki h1 h2
      exact ⟨k2 + 1, i2 + 1, by omega, h4, h5⟩
theorem block_like {x y z : PLock} (h1 : y.txn = z.txn) (h2 : y.thing = z.thing) (h3 : y.mode = z.mode) : blockQ x y = blockQ x z := by
  unfold blockQ; rw [h1, h2, h3]
/-- What waits for one who still waits has waited for him before. -/
theorem rel_edge {l : List PLock} (h : Inv l) (n : Nat) {p : PW} (hp : p ∈ waitsQ (releaseQ l n).1) (hb : ∃ y ∈ (releaseQ l n).1, y.txn = p.2 ∧ y.held = false) : p ∈ waitsQ l := by
  have hone : (l.filter (keepP n)).Pairwise fun x y => x.held = false → y.held = false → x.txn ≠ y.txn := h.one.filter _
  have hrel := raise_rel (l.filter (keepP n)) (l.filter (keepP n)).length
  have hat := raise_at (l.filter (keepP n)) (l.filter (keepP n)).length
  unfold releaseQ at hp hb
  generalize (raiseQ (l.filter (keepP n)) (l.filter (keepP n)).length).1 = l2 at hp hb hrel hat
  obtain ⟨i, x, hi, hh, e1, e2⟩ := waits_mem.1 hp
  obtain ⟨k, y, hk, hw, e3⟩ := reasons_mem.1 e2
  obtain ⟨x0, hi0, a1, a2, a3, a4⟩ := hrel i x hi
  obtain ⟨y0, hk0, b1, b2, b3, b4⟩ := hrel k y hk
  have hx0 : x0.held = false := by
    cases e : x0.held with
    | false => rfl
    | true => rw [a4 e] at hh; cases hh
  obtain rfl : x0 = x := by
    cases x0; cases x
    simp only at a1 a2 a3 hx0 hh
    subst a1 a2 a3 hx0 hh
    rfl
  have hxm := List.mem_filter.1 (List.mem_of_getElem? hi0)
  have hym := List.mem_filter.1 (List.mem_of_getElem? hk0)
  obtain ⟨i2, hi2⟩ := List.mem_iff_getElem?.1 hxm.1
  have hbl : blockQ x0 y0 = true := by
    rw [← block_like b1 b2 b3]
    unfold whyQ at hw
    exact (Bool.and_eq_true_iff.1 hw).1
  refine waits_mem.2 ?_
  cases hy0 : y0.held with
  | true =>
    obtain ⟨k2, hk2⟩ := List.mem_iff_getElem?.1 hym.1
    exact ⟨i2, x0, hi2, hh, e1, reasons_mem.2 ⟨k2, y0, hk2, why_held hbl hy0, by rw [← b1]; exact e3⟩⟩
  | false =>
    cases hyh : y.held with
    | true =>
      obtain ⟨z, hz, c1, c2⟩ := hb
      obtain ⟨m, hm⟩ := List.mem_iff_getElem?.1 hz
      obtain ⟨z0, hm0, d1, d2, d3, d4⟩ := hrel m z hm
      have hz0 : z0.held = false := by
        cases e : z0.held with
        | false => rfl
        | true => rw [d4 e] at c2; cases c2
      have hmk : m = k := Classical.byContradiction fun hne => one_at hone hm0 hk0 hne hz0 hy0 (by rw [← d1, c1, ← e3, b1])
      subst hmk
      rw [hk] at hm
      cases hm
      rw [hyh] at c2
      cases c2
    | false =>
      unfold whyQ at hw
      rw [hyh, Bool.false_or, Bool.and_eq_true, Bool.and_eq_true, decide_eq_true_eq, Bool.not_eq_true'] at hw
      obtain ⟨_, hki, hin⟩ := hw
      obtain ⟨k3, i3, h3, h4, h5⟩ := filter_two hki hk0 hi0
      refine ⟨i3, x0, h5, hh, e1, reasons_mem.2 ⟨k3, y0, h4, ?_, by rw [← b1]; exact e3⟩⟩
      unfold whyQ
      rw [hbl, Bool.true_and, hy0, Bool.false_or, decide_eq_true h3, Bool.true_and, Bool.not_eq_true']
      cases hany : l.any (insideQ x0) with
      | false => rfl
      | true =>
        exfalso
        obtain ⟨z, hz, hzi⟩ := List.any_eq_true.1 hany
        unfold insideQ at hzi
        rw [Bool.and_eq_true, Bool.and_eq_true, decide_eq_true_eq] at hzi
        obtain ⟨z1, z2, z3⟩ := hzi
        have hzf : z ∈ l.filter (keepP n) := List.mem_filter.2 ⟨hz, by
          have := hxm.2
          unfold keepP goneP at this ⊢
          rw [z2]; exact this⟩
        obtain ⟨m, hm⟩ := List.mem_iff_getElem?.1 hzf
        obtain ⟨z4, hm4, d1, d2, d3, d4⟩ := hat m z hm
        have : l2.any (insideQ x0) = true := List.any_eq_true.2 ⟨z4, List.mem_of_getElem? hm4, by unfold insideQ; rw [d4 z1, d1, d2, z2, z3]; simp⟩
        rw [hin] at this
        cases this
theorem rel_reach {l : List PLock} (h : Inv l) (n : Nat) {a q c : Nat} (hr : ReachW (waitsQ (releaseQ l n).1) a q) (hq : (q, c) ∈ waitsQ (releaseQ l n).1) : ReachW (waitsQ l) a q := by
  induction hr with
  | one h1 => exact .one (rel_edge h n h1 (waits_from hq).1)
  | more h1 h2 ih =>
    obtain ⟨d, hd⟩ := h2.first
    exact .more (rel_edge h n h1 (waits_from hd).1) (ih hq)
theorem rel_ring {l : List PLock} (h : Inv l) (n : Nat) {q : Nat} (hr : ReachW (waitsQ (releaseQ l n).1) q q) : ReachW (waitsQ l) q q := by
  obtain ⟨c, hc⟩ := hr.first
  exact rel_reach h n hr hc
theorem rel_none {l : List PLock} (h : Inv l) (n : Nat) (hv : IsVict (waitsQ l) 0) : IsVict (waitsQ (releaseQ l n).1) 0 :=
  ⟨.inl rfl, fun q hq => hv.most q (rel_ring h n hq)⟩
theorem rel_txn {l : List PLock} (n : Nat) {y : PLock} (hy : y ∈ (releaseQ l n).1) : y.txn ≠ n ∧ ∃ z ∈ l, z.txn = y.txn := by
  obtain ⟨k, hk⟩ := List.mem_iff_getElem?.1 hy
  obtain ⟨z, h1, h2, _⟩ := raise_rel (l.filter (keepP n)) (l.filter (keepP n)).length k y hk
  obtain ⟨h3, h4⟩ := List.mem_filter.1 (List.mem_of_getElem? h1)
  refine ⟨fun e => ?_, z, h3, h2.symm⟩
  unfold keepP goneP at h4
  rw [← h2, e] at h4
  simp at h4
theorem rel_less {l : List PLock} {n : Nat} {x : PLock} (hx : x ∈ l) (hn : x.txn = n) : (releaseQ l n).1.length < l.length := by
  have h1 := (raiseQ_len (l.filter (keepP n)) (l.filter (keepP n)).length).1
  unfold releaseQ
  rw [h1]
  refine Nat.lt_of_le_of_ne (List.length_filter_le ..) fun e => ?_
  have := List.length_filter_eq_length_iff.1 e x hx
  unfold keepP goneP at this
  rw [hn] at this
  simp at this
end Go.Proofs.YtcpdfajaggbjlaaDoor.Lk
