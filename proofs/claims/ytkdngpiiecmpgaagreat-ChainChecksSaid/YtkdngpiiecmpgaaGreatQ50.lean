/-
 A log read from a checkpoint that says what is so: plainly. Conditions: each theorem's own.
-/
import Derived.Test.YtkdngpiiecmpgaaGreatQ48
namespace Go.Proofs.YtkdngpiiecmpgaaGreat.Ch
open Go Go.K Go.Proofs Go.Proofs.YtkdngpiiecmpgaaGreat Go.Proofs.YtkdngpiiecmpgaaGreat.Pg Go.Proofs.YtkdngpiiecmpgaaGreat.Rc
set_option linter.unusedVariables false
set_option linter.unusedSimpArgs false

theorem len_ins {α : Type} (k : α → Nat) (x : α) : ∀ l : List α, (insK k x l).length ≤ l.length + 1
 | [] => Nat.le_refl _
 | y :: l => by
  have ih := len_ins k x l
  rw [insK]
  split
  ·simp only [List.length_cons]; omega
  ·split <;> simp only [List.length_cons] <;> omega
theorem ins_keeps {α : Type} {k : α → Nat} {x z : α} : ∀ {l : List α}, z ∈ l → k z ≠ k x → z ∈ insK k x l
 | [], h, _ => by cases h
 | y :: l, h, hn => by
  rw [insK]
  split
  ·rcases List.mem_cons.1 h with rfl | h
   ·exact List.mem_cons_self
   ·exact List.mem_cons_of_mem _ (ins_keeps h hn)
  ·split
   ·rename_i h2
    rcases List.mem_cons.1 h with rfl | h
    ·exact absurd h2 hn
    ·exact List.mem_cons_of_mem _ h
   ·exact List.mem_cons_of_mem _ h
theorem ins_has {α : Type} {k : α → Nat} {x : α} : ∀ {l : List α}, x ∈ insK k x l
 | [] => by simp [insK]
 | y :: l => by
  rw [insK]
  split
  ·exact List.mem_cons_of_mem _ ins_has
  ·split <;> exact List.mem_cons_self
theorem len_touch (d : List PDirty) (n lsn : Nat) : (touchQ d n lsn).length ≤ d.length + 1 := by
 unfold touchQ
 split
 ·omega
 ·exact len_ins _ _ _
theorem len_touches (lsn : Nat) : ∀ (ms : List PImg) (d : List PDirty), (ms.foldl (fun d x => touchQ d x.page lsn) d).length ≤ d.length + ms.length
 | [], d => Nat.le_refl _
 | m :: ms, d => by
  have h1 := len_touches lsn ms (touchQ d m.page lsn)
  have h2 := len_touch d m.page lsn
  simp only [List.foldl_cons, List.length_cons]
  omega
theorem len_del {α : Type} (k : α → Nat) (l : List α) (n : Nat) : (delK k l n).length ≤ l.length := List.length_filter_le _ _
structure SubD (b : Nat) (d d0 : List PDirty) : Prop where
 rise : Rising PDirty.page d
 rise0 : Rising PDirty.page d0
 sub : ∀ x ∈ d, ∃ y ∈ d0, y.page = x.page ∧ y.frm ≤ x.frm
 low : ∀ y ∈ d0, y.frm ≤ b
theorem find_none {d : List PDirty} {n : Nat} (h : ¬ (findK PDirty.page d n).isSome = true) : ∀ x ∈ d, x.page ≠ n := fun x hx e => by
 refine h ?_
 unfold findK
 rw [List.find?_isSome]
 exact ⟨x, hx, by simpa using e⟩
theorem SubD.touch {b lsn n : Nat} {d d0 : List PDirty} (h : SubD b d d0) (hb : b ≤ lsn) : SubD lsn (touchQ d n lsn) (touchQ d0 n lsn) := by
 have hlow : ∀ y ∈ touchQ d0 n lsn, y.frm ≤ lsn := fun y hy => by
  unfold touchQ at hy
  split at hy
  ·exact Nat.le_trans (h.low y hy) hb
  ·rcases mem_ins hy with rfl | hy
   ·exact Nat.le_refl _
   ·exact Nat.le_trans (h.low y hy) hb
 have hkeep : ∀ y ∈ d0, y ∈ touchQ d0 n lsn := fun y hy => by
  unfold touchQ
  split
  ·exact hy
  ·rename_i hn
   exact ins_keeps hy (find_none hn y hy)
 refine ⟨?_, ?_, fun x hx => ?_, hlow⟩
 ·unfold touchQ
  split
  ·exact h.rise
  ·exact h.rise.ins
 ·unfold touchQ
  split
  ·exact h.rise0
  ·exact h.rise0.ins
 ·have hnew : x ∈ d ∨ x = ⟨n, lsn⟩ := by
   unfold touchQ at hx
   split at hx
   ·exact .inl hx
   ·rcases mem_ins hx with hx | hx
    ·exact .inr hx
    ·exact .inl hx
  rcases hnew with hx | rfl
  ·obtain ⟨y, hy, e1, e2⟩ := h.sub x hx
   exact ⟨y, hkeep y hy, e1, e2⟩
  ·by_cases hs : (findK PDirty.page d0 n).isSome = true
   ·obtain ⟨y, hy⟩ := Option.isSome_iff_exists.1 hs
    obtain ⟨h1, h2⟩ := findK_mem hy
    exact ⟨y, hkeep y h1, h2, hlow y (hkeep y h1)⟩
   ·refine ⟨⟨n, lsn⟩, ?_, rfl, Nat.le_refl _⟩
    unfold touchQ
    rw [if_neg hs]
    exact ins_has
theorem SubD.touches {lsn : Nat} : ∀ {ms : List PImg} {d d0 : List PDirty}, SubD lsn d d0 → SubD lsn (ms.foldl (fun d x => touchQ d x.page lsn) d) (ms.foldl (fun d x => touchQ d x.page lsn) d0)
 | [], _, _, h => h
 | m :: ms, _, _, h => SubD.touches (ms := ms) (h.touch (Nat.le_refl _))
theorem SubD.up {b c : Nat} {d d0 : List PDirty} (h : SubD b d d0) (hb : b ≤ c) : SubD c d d0 := ⟨h.rise, h.rise0, h.sub, fun y hy => Nat.le_trans (h.low y hy) hb⟩
theorem SubD.len {b : Nat} {d d0 : List PDirty} (h : SubD b d d0) : d.length ≤ d0.length := by
 have hn : (d.map PDirty.page).Nodup := by
  refine List.pairwise_map.2 ?_
  exact h.rise.imp fun e => by omega
 have := nodup_le hn (m := d0.map PDirty.page) (fun x hx => by
  obtain ⟨y, hy, rfl⟩ := List.mem_map.1 hx
  obtain ⟨z, hz, e, _⟩ := h.sub y hy
  exact List.mem_map.2 ⟨z, hz, e⟩)
 simpa using this
theorem hear_sub {s s' : St} {r : Recd} {d : List PDirty} {b : Nat} (h : hearQ s r = some s') (hd : SubD b d s.dirty) (hb : b ≤ r.lsn) : ∃ d', hearQ { s with dirty := d } r = some { s' with dirty := d' } ∧ SubD r.lsn d' s'.dirty := by
 unfold hearQ at h ⊢
 by_cases h8 : r.kind = 8
 ·rw [if_pos h8] at h ⊢
  cases h
  exact ⟨d, rfl, hd.up hb⟩
 rw [if_neg h8] at h ⊢
 by_cases h4 : r.kind = 4
 ·rw [if_pos h4] at h ⊢
  cases h
  exact ⟨_, rfl, (hd.up hb).touches⟩
 rw [if_neg h4] at h ⊢
 by_cases h1 : r.kind = 1
 ·rw [if_pos h1] at h ⊢
  dsimp only at h ⊢
  by_cases hf : (findK PLive.txn s.lives r.txn).isSome = true
  ·rw [if_pos hf] at h; cases h
  ·rw [if_neg hf] at h ⊢
   cases h
   exact ⟨d, rfl, hd.up hb⟩
 rw [if_neg h1] at h ⊢
 dsimp only at h ⊢
 cases hx : findK PLive.txn s.lives r.txn with
 | none => rw [hx] at h; cases h
 | some x =>
  rw [hx] at h
  dsimp only at h ⊢
  by_cases hp : x.last ≠ r.prev
  ·rw [if_pos hp] at h; cases h
  rw [if_neg hp] at h ⊢
  by_cases h7 : r.kind = 7
  ·rw [if_pos h7] at h ⊢
   by_cases hu : x.undo = 0
   ·rw [if_pos hu] at h ⊢
    cases h
    exact ⟨d, rfl, hd.up hb⟩
   ·rw [if_neg hu] at h; cases h
  rw [if_neg h7] at h ⊢
  by_cases hl : x.lost = false
  ·rw [if_pos hl] at h; cases h
  rw [if_neg hl] at h ⊢
  by_cases h2 : r.kind = 2
  ·rw [if_pos h2] at h ⊢
   cases h
   exact ⟨_, rfl, hd.touch hb⟩
  rw [if_neg h2] at h ⊢
  by_cases h3 : r.kind = 3
  ·rw [if_pos h3] at h ⊢
   by_cases hu : x.undo ≤ r.undo
   ·rw [if_pos hu] at h; cases h
   ·rw [if_neg hu] at h ⊢
    cases h
    exact ⟨_, rfl, hd.touch hb⟩
  rw [if_neg h3] at h ⊢
  by_cases h5 : r.kind = 5
  ·rw [if_pos h5] at h ⊢
   cases h
   exact ⟨d, rfl, hd.up hb⟩
  ·rw [if_neg h5] at h ⊢
   cases h
   exact ⟨d, rfl, hd.up hb⟩
theorem hears_sub : ∀ {rs : List Recd} {s s' : St} {d : List PDirty} {b : Nat}, hearsQ s rs = some s' → SubD b d s.dirty → rightQ b rs = true → ∃ d' c, hearsQ { s with dirty := d } rs = some { s' with dirty := d' } ∧ SubD c d' s'.dirty
 | [], s, s', d, b, h, hd, _ => by
  cases h
  exact ⟨d, b, rfl, hd⟩
 | r :: rs, s, s', d, b, h, hd, hr => by
  rw [rightQ, Bool.and_eq_true, Bool.and_eq_true, decide_eq_true_eq] at hr
  rw [hearsQ] at h ⊢
  cases h1 : hearQ s r with
  | none => rw [h1] at h; cases h
  | some s1 =>
   rw [h1] at h
   obtain ⟨d1, e1, hd1⟩ := hear_sub h1 hd (Nat.le_of_lt hr.1.1)
   rw [e1]
   exact hears_sub (rs := rs) h hd1 hr.2
theorem hears_append : ∀ {a b : List Recd} {s : St}, hearsQ s (a ++ b) = (hearsQ s a).bind fun s' => hearsQ s' b
 | [], b, s => rfl
 | r :: a, b, s => by
  rw [List.cons_append, hearsQ, hearsQ]
  cases hearQ s r with
  | none => rfl
  | some s1 => exact hears_append
theorem hears_low : ∀ {a b : List Recd} {s s' : St} {n : Nat}, hearsQ s a = some s' → rightQ n (a ++ b) = true → SubD n s.dirty s.dirty → ∃ m, n ≤ m ∧ rightQ m b = true ∧ SubD m s'.dirty s'.dirty ∧ (a = [] → m = n) ∧ ∀ r, a.getLast? = some r → m = r.lsn
 | [], b, s, s', n, h, hr, hd => by
  cases h
  exact ⟨n, Nat.le_refl _, hr, hd, fun _ => rfl, fun r hr => by cases hr⟩
 | r :: a, b, s, s', n, h, hr, hd => by
  rw [List.cons_append, rightQ, Bool.and_eq_true, Bool.and_eq_true, decide_eq_true_eq] at hr
  rw [hearsQ] at h
  cases h1 : hearQ s r with
  | none => rw [h1] at h; cases h
  | some s1 =>
   rw [h1] at h
   obtain ⟨d1, e1, hd1⟩ := hear_sub h1 hd (Nat.le_of_lt hr.1.1)
   have he : { s with dirty := s.dirty } = s := rfl
   rw [he, h1] at e1
   have hd1e : d1 = s1.dirty := by
    have := Option.some.inj e1
    rw [this]
   rw [hd1e] at hd1
   obtain ⟨m, h2, h3, h4, h5, h6⟩ := hears_low (a := a) h hr.2 hd1
   refine ⟨m, by omega, h3, h4, (fun e => by cases e), fun q hq => ?_⟩
   cases a with
   | nil =>
    have : r = q := by simpa using hq
    rw [h5 rfl, this]
   | cons q2 a => exact h6 q (by simpa using hq)
theorem hear_len {s s' : St} {r : Recd} (h : hearQ s r = some s') : s'.lives.length ≤ s.lives.length + 1 ∧ s'.dirty.length ≤ s.dirty.length + r.images.length + 1 ∧ s.next ≤ s'.next := by
 unfold hearQ at h
 split at h
 ·cases h; exact ⟨Nat.le_succ _, by omega, Nat.le_refl _⟩
 split at h
 ·cases h
  refine ⟨Nat.le_succ _, ?_, Nat.le_refl _⟩
  have := len_touches r.lsn r.images s.dirty
  show (r.images.foldl _ s.dirty).length ≤ _
  omega
 split at h
 ·split at h
  ·cases h
  ·cases h
   exact ⟨len_ins _ _ _, by show s.dirty.length ≤ _; omega, Nat.le_max_left _ _⟩
 split at h
 ·cases h
 split at h
 ·cases h
 split at h
 ·split at h
  ·cases h
   refine ⟨?_, by show s.dirty.length ≤ _; omega, Nat.le_refl _⟩
   have := len_del PLive.txn s.lives r.txn
   show (delK PLive.txn s.lives r.txn).length ≤ _
   omega
  ·cases h
 split at h
 ·cases h
 split at h
 ·cases h
  refine ⟨len_ins _ _ _, ?_, Nat.le_refl _⟩
  have := len_touch s.dirty r.page r.lsn
  show (touchQ s.dirty r.page r.lsn).length ≤ _
  omega
 split at h
 ·split at h
  ·cases h
  ·cases h
   refine ⟨len_ins _ _ _, ?_, Nat.le_refl _⟩
   have := len_touch s.dirty r.page r.lsn
   show (touchQ s.dirty r.page r.lsn).length ≤ _
   omega
 split at h
 ·cases h
  exact ⟨len_ins _ _ _, by show s.dirty.length ≤ _; omega, Nat.le_refl _⟩
 ·cases h
  exact ⟨len_ins _ _ _, by show s.dirty.length ≤ _; omega, Nat.le_refl _⟩
theorem hears_len {m : Nat} : ∀ {rs : List Recd} {s s' : St}, hearsQ s rs = some s' → (∀ r ∈ rs, r.images.length ≤ m) → s'.lives.length ≤ s.lives.length + rs.length ∧ s'.dirty.length ≤ s.dirty.length + rs.length * (m + 1) ∧ s.next ≤ s'.next
 | [], s, s', h, _ => by
  cases h
  exact ⟨Nat.le_refl _, by omega, Nat.le_refl _⟩
 | r :: rs, s, s', h, hm => by
  rw [hearsQ] at h
  cases h1 : hearQ s r with
  | none => rw [h1] at h; cases h
  | some s1 =>
   rw [h1] at h
   obtain ⟨a1, a2, a3⟩ := hear_len h1
   obtain ⟨b1, b2, b3⟩ := hears_len (rs := rs) h fun q hq => hm q (List.mem_cons_of_mem _ hq)
   have := hm r List.mem_cons_self
   have e : (rs.length + 1) * (m + 1) = rs.length * (m + 1) + (m + 1) := Nat.succ_mul _ _
   rw [List.length_cons, e]
   exact ⟨by omega, by omega, by omega⟩
theorem right_insert {q x : Recd} {c : List Recd} (hx : mayR x = true) (hxq : x.lsn < q.lsn) : ∀ {a : List Recd} {b : Nat}, rightQ b (a ++ q :: c) = true → (a = [] → b < x.lsn) → (∀ p, a.getLast? = some p → p.lsn < x.lsn) → rightQ b (a ++ x :: q :: c) = true
 | [], b, h, h0, _ => by
  rw [List.nil_append] at h ⊢
  rw [rightQ, Bool.and_eq_true, Bool.and_eq_true, decide_eq_true_eq] at h
  rw [rightQ, Bool.and_eq_true, Bool.and_eq_true, decide_eq_true_eq]
  refine ⟨⟨h0 rfl, hx⟩, ?_⟩
  rw [rightQ, Bool.and_eq_true, Bool.and_eq_true, decide_eq_true_eq]
  exact ⟨⟨hxq, h.1.2⟩, h.2⟩
 | p :: a, b, h, _, hl => by
  rw [List.cons_append] at h ⊢
  rw [rightQ, Bool.and_eq_true] at h ⊢
  refine ⟨h.1, right_insert hx hxq h.2 (fun e => ?_) fun p' hp' => ?_⟩
  ·subst e
   exact hl p rfl
  ·cases a with
   | nil => cases hp'
   | cons y a => exact hl p' (by simpa using hp')
theorem find_at {p : Recd → Bool} {x : Recd} {b : List Recd} (hx : p x = true) : ∀ {a : List Recd}, (∀ r ∈ a, p r = false) → (a ++ x :: b).findIdx? p = some a.length
 | [], _ => by rw [List.nil_append, List.findIdx?_cons, if_pos hx]; rfl
 | r :: a, h => by
  rw [List.cons_append, List.findIdx?_cons, if_neg (by rw [h r List.mem_cons_self]; decide), find_at hx fun q hq => h q (List.mem_cons_of_mem _ hq)]
  rfl
theorem checks {rs : List Recd} {s : St} {n : Nat} (hright : rightQ 0 rs = true) (hh : hearsQ St0 rs = some s) (hn : n < rs.length) :
  ∃ sN, analyseQ (rs.take n) 0 = some sN ∧ hearsQ St0 (rs.take n) = some sN ∧ ∀ (q x : Recd) (d : List PDirty), rs[n]? = some q → d.Sublist sN.dirty → x.kind = 8 → x.lsn + 1 = q.lsn → x.lives = sN.lives → x.dirty = d → x.next = sN.next → mayR x = true → (n = 0 → 0 < x.lsn) → (∀ p, 0 < n → rs[n - 1]? = some p → p.lsn < x.lsn) →
   ∃ d', analyseQ (rs.take n ++ x :: rs.drop n) x.lsn = some { s with dirty := d' } ∧ d'.length ≤ s.dirty.length ∧ ∀ z ∈ d', ∃ y ∈ s.dirty, y.page = z.page ∧ y.frm ≤ z.frm := by
 have hsp : rs = rs.take n ++ rs.drop n := (List.take_append_drop n rs).symm
 have hh2 := hh
 rw [hsp, hears_append] at hh2
 cases hN : hearsQ St0 (rs.take n) with
 | none => rw [hN] at hh2; cases hh2
 | some sN =>
  rw [hN] at hh2
  have hh2 : hearsQ sN (rs.drop n) = some s := hh2
  refine ⟨sN, ?_, rfl, ?_⟩
  ·unfold analyseQ
   rw [if_neg (by rw [rightQ_take n hright]; decide), if_pos rfl]
   exact hN
  ·intro q x d hq hd hk hlsn hli hdi hne hmay h0 hgap
   have hdrop : rs.drop n = q :: rs.drop (n + 1) := by
    obtain ⟨hlt, rfl⟩ := List.getElem?_eq_some_iff.1 hq
    exact List.drop_eq_getElem_cons hlt
   have hr0 : rightQ 0 (rs.take n ++ rs.drop n) = true := by rw [← hsp]; exact hright
   obtain ⟨m, _, hm1, hm2, _⟩ := hears_low hN hr0 ⟨List.Pairwise.nil, List.Pairwise.nil, (fun x h => by cases h), (fun x h => by cases h)⟩
   have hsub : SubD m d sN.dirty := ⟨hm2.rise.sublist hd, hm2.rise0, fun z hz => ⟨z, hd.subset hz, rfl, Nat.le_refl _⟩, hm2.low⟩
   obtain ⟨d', c, e1, e2⟩ := hears_sub hh2 hsub hm1
   obtain ⟨_, _, hnx⟩ := hears_len (m := (rs.take n).foldr (fun r a => max r.images.length a) 0) hN (fun r hr => by
    generalize rs.take n = l at hr ⊢
    induction l with
    | nil => cases hr
    | cons y l ih =>
     rw [List.foldr_cons]
     rcases List.mem_cons.1 hr with rfl | hr
     ·exact Nat.le_max_left _ _
     ·exact Nat.le_trans (ih hr) (Nat.le_max_right _ _))
   have hnx : 1 ≤ sN.next := hnx
   have hrw : rightQ 0 (rs.take n ++ x :: rs.drop n) = true := by
    rw [hdrop] at hr0 ⊢
    refine right_insert hmay (by omega) hr0 (fun e => h0 ?_) fun p hp => ?_
    ·have := congrArg List.length e
     rw [List.length_take, List.length_nil] at this
     omega
    ·rw [List.getLast?_eq_getElem?, List.length_take, Nat.min_eq_left (Nat.le_of_lt hn), List.getElem?_take] at hp
     split at hp
     ·exact hgap p (by omega) hp
     ·cases hp
   have hpw := (List.pairwise_append.1 (rightQ_rise hrw)).2.2
   have hxp : 0 < x.lsn := (rightQ_may hrw x (List.mem_append_right _ List.mem_cons_self)).1
   have hidx : checkAt (rs.take n ++ x :: rs.drop n) x.lsn = some n := by
    unfold checkAt
    rw [find_at (by simp [hk]) (fun r hr => ?_), List.length_take, Nat.min_eq_left (Nat.le_of_lt hn)]
    have := hpw r hr x List.mem_cons_self
    have hne : decide (r.lsn = x.lsn) = false := decide_eq_false (by omega)
    rw [hne]; rfl
   have htl : (rs.take n).length = n := by rw [List.length_take]; omega
   have hget : (rs.take n ++ x :: rs.drop n)[n]? = some x := by
    rw [List.getElem?_append_right (by omega), htl, Nat.sub_self]; rfl
   have hdr : (rs.take n ++ x :: rs.drop n).drop (n + 1) = rs.drop n := by
    rw [List.drop_append, htl, show n + 1 - n = 1 by omega, List.drop_eq_nil_of_le (by omega)]
    rfl
   refine ⟨d', ?_, e2.len, e2.sub⟩
   unfold analyseQ
   rw [if_neg (by rw [hrw]; decide), if_neg (by omega), hidx]
   dsimp only
   rw [hget]
   dsimp only
   rw [hdr, hli, hdi, hne, Nat.max_eq_left hnx]
   exact e1
end Go.Proofs.YtkdngpiiecmpgaaGreat.Ch
