/-
  What is always so of a table of locks: the plain law. Conditions: each theorem's own.
-/
import Derived.Test.YtcpdfajaggbjlaaDoorTv

namespace Go.Proofs.YtcpdfajaggbjlaaDoor.Lk
open Go Go.K Go.Proofs Go.Proofs.YtcpdfajaggbjlaaDoor
set_option linter.unusedVariables false
set_option linter.unusedSimpArgs false
set_option maxRecDepth 10000

theorem block_sym (a b : PLock) : blockQ a b = blockQ b a := by
  unfold blockQ
  rw [conf_sym, meet_sym]
  congr 1
  rw [decide_eq_decide]
  exact ⟨fun h e => h e.symm, fun h e => h e.symm⟩
theorem within_self (a : PThing) : withinQ a a = true := by
  unfold withinQ leS
  rw [if_pos ⟨rfl, rfl⟩]
  simp
theorem cover_self (m : Int) : coverQ m m = true := by simp [coverQ]
structure Inv (l : List PLock) : Prop where
  wf : ∀ x ∈ l, wfK x
  may : ∀ x ∈ l, mayQ x.thing x.mode = true ∧ x.txn ≠ 0
  one : l.Pairwise fun x y => x.held = false → y.held = false → x.txn ≠ y.txn
  apart : l.Pairwise fun x y => x.held = true → y.held = true → blockQ x y = false
  wait : ∀ i x, l[i]? = some x → x.held = false → ∃ k y, l[k]? = some y ∧ whyQ l i x k y = true
theorem Inv.nil : Inv [] := ⟨(fun x h => by cases h), (fun x h => by cases h), .nil, .nil, fun i x h => by simp at h⟩
theorem reasons_none {l : List PLock} {i : Nat} {q : PLock} : (reasonsQ l i q).isEmpty = true ↔ ∀ k y, l[k]? = some y → whyQ l i q k y = false := by
  rw [List.isEmpty_iff, List.eq_nil_iff_forall_not_mem]
  constructor
  · intro h k y hk
    cases hw : whyQ l i q k y with
    | false => rfl
    | true => exact absurd (reasons_mem.2 ⟨k, y, hk, hw, rfl⟩) (h y.txn)
  · intro h u hu
    obtain ⟨k, y, hk, hw, _⟩ := reasons_mem.1 hu
    rw [h k y hk] at hw
    cases hw
theorem reasons_some {l : List PLock} {i : Nat} {q : PLock} : (reasonsQ l i q).isEmpty = false ↔ ∃ k y, l[k]? = some y ∧ whyQ l i q k y = true := by
  constructor
  · intro h
    cases hr : reasonsQ l i q with
    | nil => rw [hr] at h; cases h
    | cons u r =>
      obtain ⟨k, y, hk, hw, _⟩ := reasons_mem.1 (show u ∈ reasonsQ l i q by rw [hr]; exact List.mem_cons_self)
      exact ⟨k, y, hk, hw⟩
  · rintro ⟨k, y, hk, hw⟩
    cases hr : reasonsQ l i q with
    | nil =>
      have := reasons_mem.2 ⟨k, y, hk, hw, rfl⟩
      rw [hr] at this
      cases this
    | cons u r => rfl
theorem why_held {l : List PLock} {i k : Nat} {q y : PLock} (hb : blockQ q y = true) (hh : y.held = true) : whyQ l i q k y = true := by
  unfold whyQ; rw [hb, hh]; rfl
/-- A further lock at the end gives a reason more, or none. -/
theorem why_more {l : List PLock} {i k : Nat} {q y z : PLock} (hz : insideQ q z = false) : whyQ (l ++ [z]) i q k y = whyQ l i q k y := by
  unfold whyQ
  rw [List.any_append]
  simp [hz]
theorem ask_inv {l : List PLock} (h : Inv l) {txn : Nat} {th : PThing} {mode : Int} (hth : wfT th) (htx : txn < 4294967296) : Inv (askQ l txn th mode).1 := by
  unfold askQ
  split
  · exact h
  split
  · exact h
  split
  · exact h
  split
  · exact h
  rename_i h1 h2 h3 h4
  have hm : mayQ th mode = true := by
    cases e : mayQ th mode with
    | true => rfl
    | false => exact absurd (.inr e) h1
  have h0 : txn ≠ 0 := fun e => h1 (.inl e)
  have hnw : ∀ x ∈ l, x.held = false → x.txn ≠ txn := fun x hx hh e => h2 (List.any_eq_true.2 ⟨x, hx, by unfold waitP; rw [hh, e]; simp⟩)
  dsimp only
  generalize hfr : freeQ l txn th mode = fr
  unfold freeQ at hfr
  refine ⟨fun x hx => ?_, fun x hx => ?_, ?_, ?_, fun i x hi hh => ?_⟩
  · rcases List.mem_append.1 hx with hx | hx
    · exact h.wf x hx
    · rw [List.mem_singleton.1 hx]; exact ⟨htx, hth, may_mode hm⟩
  · rcases List.mem_append.1 hx with hx | hx
    · exact h.may x hx
    · rw [List.mem_singleton.1 hx]; exact ⟨hm, h0⟩
  · refine List.pairwise_append.2 ⟨h.one, List.pairwise_singleton _ _, fun x hx y hy hxh _ => ?_⟩
    rw [List.mem_singleton.1 hy]
    exact hnw x hx hxh
  · refine List.pairwise_append.2 ⟨h.apart, List.pairwise_singleton _ _, fun x hx y hy hxh hyh => ?_⟩
    rw [List.mem_singleton.1 hy] at hyh ⊢
    have hfr2 : fr = true := hyh
    rw [hfr2] at hfr
    obtain ⟨k, hk⟩ := List.mem_iff_getElem?.1 hx
    have hk2 : (l ++ [newK txn th mode false])[k]? = some x := by
      rw [List.getElem?_append_left (List.getElem?_eq_some_iff.1 hk).1]; exact hk
    have hw := reasons_none.1 hfr k x hk2
    cases hb : blockQ x (newK txn th mode fr) with
    | false => rfl
    | true =>
      have hb2 : blockQ (newK txn th mode false) x = true := by rw [block_sym]; exact hb
      rw [why_held hb2 hxh] at hw
      cases hw
  · rcases Nat.lt_or_ge i l.length with hi2 | hi2
    · rw [List.getElem?_append_left hi2] at hi
      obtain ⟨k, y, hk, hw⟩ := h.wait i x hi hh
      refine ⟨k, y, by rw [List.getElem?_append_left (List.getElem?_eq_some_iff.1 hk).1]; exact hk, ?_⟩
      rw [why_more]
      · exact hw
      · have := hnw x (List.mem_of_getElem? hi) hh
        unfold insideQ newK
        simp only
        rw [decide_eq_false (fun e => this e.symm), Bool.false_and, Bool.and_false]
    · rw [List.getElem?_append_right hi2] at hi
      have hi3 : i = l.length := by
        rcases Nat.lt_or_ge (i - l.length) 1 with h9 | h9
        · omega
        · rw [List.getElem?_eq_none (by simpa using h9)] at hi; cases hi
      subst hi3
      rw [Nat.sub_self] at hi
      cases hi
      have hfr2 : fr = false := hh
      subst hfr2
      exact reasons_some.1 hfr
theorem ask_has {l : List PLock} {txn : Nat} {th : PThing} {mode : Int} (h : (askQ l txn th mode).2.2 = 0) : hasQ (askQ l txn th mode).1 txn th mode = (askQ l txn th mode).2.1 := by
  unfold askQ at h ⊢
  split
  · rename_i h1; rw [if_pos h1] at h; cases h
  rename_i h1
  rw [if_neg h1] at h
  split
  · rename_i h2; rw [if_pos h2] at h; cases h
  rename_i h2
  rw [if_neg h2] at h
  split
  · rename_i h3; exact h3
  rename_i h3
  rw [if_neg h3] at h
  split
  · rename_i h4; rw [if_pos h4] at h; cases h
  have hm : mayQ th mode = true := by
    cases e : mayQ th mode with
    | true => rfl
    | false => exact absurd (.inr e) h1
  dsimp only
  generalize freeQ l txn th mode = fr
  unfold hasQ at h3 ⊢
  rw [hm, Bool.true_and] at h3 ⊢
  rw [List.any_append]
  have : l.any (hasP txn th mode) = false := by simpa using h3
  rw [this, Bool.false_or, List.any_cons, List.any_nil, Bool.or_false]
  unfold hasP newK
  simp [within_self, cover_self]
theorem held_has {l : List PLock} (h : Inv l) {x : PLock} (hx : x ∈ l) (hh : x.held = true) : hasQ l x.txn x.thing x.mode = true := by
  unfold hasQ
  rw [(h.may x hx).1, Bool.true_and]
  exact List.any_eq_true.2 ⟨x, hx, by unfold hasP; rw [hh, within_self, cover_self]; simp⟩
theorem wait_waits {l : List PLock} (h : Inv l) {i : Nat} {x : PLock} (hi : l[i]? = some x) (hh : x.held = false) : ∃ p ∈ waitsQ l, p.1 = x.txn ∧ p.2 ≠ x.txn := by
  obtain ⟨k, y, hk, hw⟩ := h.wait i x hi hh
  refine ⟨(x.txn, y.txn), waits_mem.2 ⟨i, x, hi, hh, rfl, reasons_mem.2 ⟨k, y, hk, hw, rfl⟩⟩, rfl, fun e => ?_⟩
  unfold whyQ blockQ at hw
  dsimp only at e
  rw [e] at hw
  simp at hw
/-- What is so while locks come to hold. -/
structure Inv1 (l : List PLock) (n : Nat) : Prop where
  wf : ∀ x ∈ l, wfK x
  may : ∀ x ∈ l, mayQ x.thing x.mode = true ∧ x.txn ≠ 0
  one : l.Pairwise fun x y => x.held = false → y.held = false → x.txn ≠ y.txn
  apart : l.Pairwise fun x y => x.held = true → y.held = true → blockQ x y = false
  wait : ∀ i x, i < n → l[i]? = some x → x.held = false → ∃ k y, l[k]? = some y ∧ whyQ l i x k y = true
theorem one_at {l : List PLock} (h : l.Pairwise fun x y => x.held = false → y.held = false → x.txn ≠ y.txn) {i j : Nat} {x y : PLock} (hi : l[i]? = some x) (hj : l[j]? = some y) (hne : i ≠ j) (hx : x.held = false) (hy : y.held = false) : x.txn ≠ y.txn := by
  obtain ⟨i1, rfl⟩ := List.getElem?_eq_some_iff.1 hi
  obtain ⟨j1, rfl⟩ := List.getElem?_eq_some_iff.1 hj
  rcases Nat.lt_or_ge i j with h9 | h9
  · exact List.pairwise_iff_getElem.1 h i j i1 j1 h9 hx hy
  · exact fun e => List.pairwise_iff_getElem.1 h j i j1 i1 (by omega) hy hx e.symm
theorem any_set {α : Type} {p : α → Bool} {l : List α} {j : Nat} {x y : α} (hj : l[j]? = some x) (hp : p y = p x) : (l.set j y).any p = l.any p := by
  obtain ⟨j1, rfl⟩ := List.getElem?_eq_some_iff.1 hj
  rw [Bool.eq_iff_iff, List.any_eq_true, List.any_eq_true]
  constructor
  · rintro ⟨z, hz, h1⟩
    rcases List.mem_or_eq_of_mem_set hz with h2 | h2
    · exact ⟨z, h2, h1⟩
    · exact ⟨l[j], List.getElem_mem j1, by rw [← hp, ← h2]; exact h1⟩
  · rintro ⟨z, hz, h1⟩
    obtain ⟨k, hk⟩ := List.mem_iff_getElem?.1 hz
    by_cases h2 : k = j
    · subst h2
      rw [List.getElem?_eq_getElem j1] at hk
      cases hk
      exact ⟨y, List.mem_iff_getElem?.2 ⟨k, List.getElem?_set_self j1⟩, by rw [hp]; exact h1⟩
    · exact ⟨z, List.mem_iff_getElem?.2 ⟨k, by rw [List.getElem?_set_ne (fun e => h2 e.symm)]; exact hk⟩, h1⟩
theorem raise_inv {l : List PLock} {n : Nat} {out : List Nat} (h : Inv1 l n) : Inv1 (raise1 (l, out) n).1 (n + 1) := by
  unfold raise1
  dsimp only
  cases hx : l[n]? with
  | none =>
    dsimp only
    exact ⟨h.wf, h.may, h.one, h.apart, fun i x hi hxi hh => by
      have hn : i ≠ n := fun e => by rw [e, hx] at hxi; cases hxi
      exact h.wait i x (by omega) hxi hh⟩
  | some x =>
    dsimp only
    have hn := (List.getElem?_eq_some_iff.1 hx).1
    have hmem := List.mem_of_getElem? hx
    by_cases hc : (!x.held && (reasonsQ l n x).isEmpty) = true
    · rw [if_pos hc]
      dsimp only
      rw [Bool.and_eq_true, Bool.not_eq_true'] at hc
      obtain ⟨hxh, hre⟩ := hc
      have hre := reasons_none.1 hre
      have hset : ∀ {k : Nat} {y : PLock}, (l.set n { x with held := true })[k]? = some y → k = n ∧ y = { x with held := true } ∨ k ≠ n ∧ l[k]? = some y := fun {k y} hk => by
        by_cases e : k = n
        · subst e
          rw [List.getElem?_set_self hn] at hk
          cases hk
          exact .inl ⟨rfl, rfl⟩
        · rw [List.getElem?_set_ne (fun e2 => e e2.symm)] at hk
          exact .inr ⟨e, hk⟩
      refine ⟨fun y hy => ?_, fun y hy => ?_, ?_, ?_, fun i y hi hyi hyh => ?_⟩
      · rcases List.mem_or_eq_of_mem_set hy with h1 | h1
        · exact h.wf y h1
        · have := h.wf x hmem
          rw [h1]; exact ⟨this.txn, this.thing, this.mode⟩
      · rcases List.mem_or_eq_of_mem_set hy with h1 | h1
        · exact h.may y h1
        · rw [h1]; exact h.may x hmem
      · refine List.pairwise_iff_getElem.2 fun i j hi hj hij h1 h2 => ?_
        rw [List.getElem_set] at h1 h2 ⊢
        rw [List.getElem_set]
        split at h1
        · cases h1
        split at h2
        · cases h2
        rename_i e1 e2
        rw [if_neg e1, if_neg e2]
        exact List.pairwise_iff_getElem.1 h.one i j (by simpa using hi) (by simpa using hj) hij h1 h2
      · refine List.pairwise_iff_getElem.2 fun i j hi hj hij h1 h2 => ?_
        rw [List.length_set] at hi hj
        have key : ∀ k (hk : k < l.length), k ≠ n → l[k].held = true → blockQ x l[k] = false := fun k hk hkn hkh => by
          have := hre k l[k] (List.getElem?_eq_getElem hk)
          cases hb : blockQ x l[k] with
          | false => rfl
          | true => rw [why_held hb hkh] at this; cases this
        rw [List.getElem_set] at h1 h2 ⊢
        rw [List.getElem_set]
        by_cases e1 : n = i
        · rw [if_pos e1, if_neg (by omega)]
          rw [if_neg (by omega)] at h2
          exact key j hj (by omega) h2
        · rw [if_neg e1] at h1 ⊢
          by_cases e2 : n = j
          · rw [if_pos e2, block_sym]
            exact key i hi (by omega) h1
          · rw [if_neg e2] at h2 ⊢
            exact List.pairwise_iff_getElem.1 h.apart i j hi hj hij h1 h2
      · rcases hset hyi with ⟨e, rfl⟩ | ⟨e, hyi⟩
        · cases hyh
        · have hne : y.txn ≠ x.txn := one_at h.one hyi hx e hyh hxh
          obtain ⟨k, z, hk, hw⟩ := h.wait i y (by omega) hyi hyh
          have hany : (l.set n { x with held := true }).any (insideQ y) = l.any (insideQ y) := any_set hx (by
            unfold insideQ
            dsimp only
            rw [decide_eq_false (fun e => hne e.symm), Bool.false_and, Bool.and_false, Bool.and_false])
          by_cases hkn : k = n
          · subst hkn
            rw [hx] at hk
            cases hk
            refine ⟨k, { x with held := true }, List.getElem?_set_self hn, why_held ?_ rfl⟩
            unfold whyQ at hw
            exact (Bool.and_eq_true_iff.1 hw).1
          · refine ⟨k, z, by rw [List.getElem?_set_ne (fun e2 => hkn e2.symm)]; exact hk, ?_⟩
            unfold whyQ at hw ⊢
            rw [hany]
            exact hw
    · rw [if_neg hc]
      dsimp only
      exact ⟨h.wf, h.may, h.one, h.apart, fun i y hi hyi hyh => by
        by_cases hin : i = n
        · subst hin
          rw [hx] at hyi
          cases hyi
          refine reasons_some.1 ?_
          rw [hyh, Bool.not_false, Bool.true_and] at hc
          simpa using hc
        · exact h.wait i y (by omega) hyi hyh⟩
theorem raiseQ_inv {l : List PLock} (h : Inv1 l 0) : ∀ n, Inv1 (raiseQ l n).1 n
  | 0 => h
  | n + 1 => by
    rw [raiseQ_succ]
    exact raise_inv (raiseQ_inv h n)
theorem release_inv {l : List PLock} (h : Inv l) (txn : Nat) : Inv (releaseQ l txn).1 := by
  have h1 : Inv1 (l.filter (keepP txn)) 0 := ⟨fun x hx => h.wf x (List.mem_filter.1 hx).1, fun x hx => h.may x (List.mem_filter.1 hx).1, h.one.filter _, h.apart.filter _, fun i x hi => by omega⟩
  have h2 := raiseQ_inv h1 (l.filter (keepP txn)).length
  have h3 := raiseQ_len (l.filter (keepP txn)) (l.filter (keepP txn)).length
  exact ⟨h2.wf, h2.may, h2.one, h2.apart, fun i x hi hh => h2.wait i x (by
    have := (List.getElem?_eq_some_iff.1 hi).1
    unfold releaseQ at this
    omega) hi hh⟩
end Go.Proofs.YtcpdfajaggbjlaaDoor.Lk
