/-
  Texts joined: Sv Sw. Conditions: each theorem's own.
-/
import Derived.Test.YtmcdaegaopfihaaGreatY25
import Derived.Test.YtmcdaegaopfihaaGreatY37
import Derived.Test.YtmcdaegaopfihaaGreatY35
section
namespace Go.Proofs.YtmcdaegaopfihaaGreat.Wl
open Go Go.K Go.Proofs Go.Proofs.YtmcdaegaopfihaaGreat Go.Proofs.YtmcdaegaopfihaaGreat.Cc Go.Proofs.YtmcdaegaopfihaaGreat.Rc
set_option linter.unusedVariables false
set_option linter.unusedSimpArgs false
set_option maxRecDepth 10000

def bytesQ (rs : List Recd) : List UInt8 := rs.flatMap encN
def lenQ (rs : List Recd) : Nat := (bytesQ rs).length
def placesQ : Nat → List Recd → List (Recd × Nat)
 | _, [] => []
 | a, r :: rs => (z0 r, a) :: placesQ (a + (encN r).length) rs
def RightL (rs : List Recd) : Prop := ∀ r ∈ rs, mayR r = true ∧ wfX r
theorem bytes_cons (r : Recd) (rs : List Recd) : bytesQ (r :: rs) = encN r ++ bytesQ rs := List.flatMap_cons
theorem len_cons (r : Recd) (rs : List Recd) : lenQ (r :: rs) = (encN r).length + lenQ rs := by unfold lenQ; rw [bytes_cons, List.length_append]
theorem bytes_app (rs qs : List Recd) : bytesQ (rs ++ qs) = bytesQ rs ++ bytesQ qs := List.flatMap_append
theorem bytes_snoc (rs : List Recd) (r : Recd) : bytesQ (rs ++ [r]) = bytesQ rs ++ encN r := by rw [bytes_app, bytes_cons]; simp [bytesQ]
theorem len_snoc (rs : List Recd) (r : Recd) : lenQ (rs ++ [r]) = lenQ rs + (encN r).length := by unfold lenQ; rw [bytes_snoc, List.length_append]
theorem len_take_le (rs : List Recd) (m : Nat) : lenQ (rs.take m) ≤ lenQ rs := by
 have := bytes_app (rs.take m) (rs.drop m)
 rw [List.take_append_drop] at this
 unfold lenQ; rw [this, List.length_append]; omega
theorem bytes_take (rs : List Recd) (m : Nat) : (bytesQ rs).take (lenQ (rs.take m)) = bytesQ (rs.take m) := by
 have := bytes_app (rs.take m) (rs.drop m)
 rw [List.take_append_drop] at this
 rw [this]
 exact List.take_left
theorem RightL.take {rs : List Recd} (h : RightL rs) (m : Nat) : RightL (rs.take m) := fun r hr => h r (List.mem_of_mem_take hr)
theorem RightL.snoc {rs : List Recd} (h : RightL rs) {r : Recd} (hm : mayR r = true) (hw : wfX r) : RightL (rs ++ [r]) := fun x hx => by
 rcases List.mem_append.1 hx with hx | hx
 ·exact h x hx
 ·rw [List.mem_singleton.1 hx]; exact ⟨hm, hw⟩
theorem places_len : ∀ (rs : List Recd) (a : Nat), (placesQ a rs).length = rs.length
 | [], _ => rfl
 | r :: rs, a => by rw [placesQ, List.length_cons, places_len rs, List.length_cons]
theorem places_take : ∀ (rs : List Recd) (a m : Nat), placesQ a (rs.take m) = (placesQ a rs).take m
 | [], a, m => by simp [placesQ]
 | r :: rs, a, 0 => by simp [placesQ]
 | r :: rs, a, m + 1 => by rw [List.take_succ_cons, placesQ, placesQ, List.take_succ_cons, places_take rs]
theorem places_snoc : ∀ (rs : List Recd) (a : Nat) (r : Recd), placesQ a (rs ++ [r]) = placesQ a rs ++ [(z0 r, a + lenQ rs)]
 | [], a, r => rfl
 | x :: rs, a, r => by rw [List.cons_append, placesQ, placesQ, places_snoc rs, List.cons_append, len_cons, Nat.add_assoc]
theorem part_of : ∀ (rs : List Recd) (b : List UInt8) (a : Nat) (tail : List UInt8), RightL rs → b.drop a = bytesQ rs ++ tail → Dec tail zR 0 6 → Part b a (placesQ a rs) (a + lenQ rs) 0
 | [], b, a, tail, _, hb, ht => .none (by rw [hb]; exact ht)
 | r :: rs, b, a, tail, hr, hb, ht => by
  obtain ⟨hm, hw⟩ := hr r (List.mem_cons_self ..)
  rw [bytes_cons, List.append_assoc] at hb
  rw [placesQ, len_cons, ← Nat.add_assoc]
  refine .step (n := (encN r).length) (by rw [hb]; exact dec_enc hm hw _) (part_of rs b _ tail (fun x hx => hr x (List.mem_cons_of_mem _ hx)) ?_ ht)
  rw [← List.drop_drop, hb, List.drop_left]
theorem part_one {b : List UInt8} {a k k' : Nat} {os os' : List (Recd × Nat)} {e e' : Int} (h : Part b a os k e) : Part b a os' k' e' → os = os' ∧ k = k' ∧ e = e' := by
 induction h generalizing os' k' e' with
 | none hd =>
  intro h'
  cases h' with
  | none _ => exact ⟨rfl, rfl, rfl⟩
  | err hd' h1 h2 => exact absurd (dec_one hd hd').2.2.symm h2
  | step hd' _ => have := (dec_one hd hd').2.2; omega
 | err hd h1 h2 =>
  intro h'
  cases h' with
  | none hd' => exact absurd (dec_one hd hd').2.2 h2
  | err hd' _ _ => exact ⟨rfl, rfl, (dec_one hd hd').2.2⟩
  | step hd' _ => exact absurd (dec_one hd hd').2.2 h1
 | step hd hp ih =>
  intro h'
  cases h' with
  | none hd' => have := (dec_one hd hd').2.2; omega
  | err hd' h1 h2 => exact absurd (dec_one hd hd').2.2.symm h1
  | step hd' hp' =>
   obtain ⟨rfl, rfl, -⟩ := dec_one hd hd'
   obtain ⟨rfl, rfl, rfl⟩ := ih hp'
   exact ⟨rfl, rfl, rfl⟩
theorem dec_nil : Dec [] zR 0 6 := .inl ⟨by decide, rfl, rfl, rfl⟩
theorem cut_at : ∀ (rs : List Recd) (t : Nat), RightL rs → ∃ m tail, m ≤ rs.length ∧ (bytesQ rs).take t = bytesQ (rs.take m) ++ tail ∧ Dec tail zR 0 6 ∧ ∀ m', m' ≤ rs.length → lenQ (rs.take m') ≤ t → m' ≤ m
 | [], t, _ => ⟨0, [], Nat.le_refl _, by simp [bytesQ], dec_nil, fun m' h _ => h⟩
 | r :: rs, t, hr => by
  obtain ⟨hm, hw⟩ := hr r (List.mem_cons_self ..)
  by_cases ht : t < (encN r).length
  ·refine ⟨0, (encN r).take t, Nat.zero_le _, ?_, dec_cut hm ht, fun m' h1 h2 => ?_⟩
   ·rw [bytes_cons, List.take_append_of_le_length (by omega)]; simp [bytesQ]
   ·cases m' with
    | zero => exact Nat.le_refl _
    | succ j => rw [List.take_succ_cons, len_cons] at h2; omega
  ·obtain ⟨m, tail, h1, h2, h3, h4⟩ := cut_at rs (t - (encN r).length) fun x hx => hr x (List.mem_cons_of_mem _ hx)
   refine ⟨m + 1, tail, by rw [List.length_cons]; omega, ?_, h3, fun m' g1 g2 => ?_⟩
   ·rw [bytes_cons, List.take_append, List.take_of_length_le (by omega), h2, List.take_succ_cons, bytes_cons, List.append_assoc]
   ·cases m' with
    | zero => exact Nat.zero_le _
    | succ j =>
     rw [List.take_succ_cons, len_cons] at g2
     rw [List.length_cons] at g1
     have := h4 j (by omega) (by omega)
     omega
theorem part_take (rs : List Recd) (t : Nat) (hr : RightL rs) : ∃ m, m ≤ rs.length ∧ lenQ (rs.take m) ≤ t ∧ Part ((bytesQ rs).take t) 0 (placesQ 0 (rs.take m)) (lenQ (rs.take m)) 0 ∧ ∀ m', m' ≤ rs.length → lenQ (rs.take m') ≤ t → m' ≤ m := by
 obtain ⟨m, tail, h1, h2, h3, h4⟩ := cut_at rs t hr
 refine ⟨m, h1, ?_, ?_, h4⟩
 ·have := congrArg List.length h2
  rw [List.length_append, List.length_take] at this
  unfold lenQ; omega
 ·have := part_of (rs.take m) ((bytesQ rs).take t) 0 tail (hr.take m) (by rw [List.drop_zero]; exact h2) h3
  rwa [Nat.zero_add] at this
def startsQ (base : Nat) (rs : List Recd) : List Nat := stsQ base (placesQ 0 rs)
theorem starts_len (base : Nat) (rs : List Recd) : (startsQ base rs).length = rs.length := by unfold startsQ stsQ; rw [List.length_map, places_len]
theorem starts_take (base : Nat) (rs : List Recd) (m : Nat) : startsQ base (rs.take m) = (startsQ base rs).take m := by unfold startsQ stsQ; rw [places_take, List.map_take]
theorem starts_snoc (base : Nat) (rs : List Recd) (r : Recd) : startsQ base (rs ++ [r]) = startsQ base rs ++ [base + lenQ rs] := by unfold startsQ stsQ; rw [places_snoc, List.map_append]; simp
theorem starts_rise (base : Nat) (rs : List Recd) (hr : RightL rs) : (startsQ base rs).Pairwise (· < ·) ∧ (∀ x ∈ startsQ base rs, base ≤ x ∧ x < base + lenQ rs) ∧ rs.length * 3 ≤ lenQ rs := by
 have := sts_rise (base := base) (part_of rs (bytesQ rs) 0 [] hr (by rw [List.drop_zero, List.append_nil]) dec_nil)
 obtain ⟨_, a, b, _, c⟩ := this
 rw [Nat.zero_add] at b c
 rw [places_len] at c
 exact ⟨a, fun x hx => by have := b x hx; omega, by omega⟩
theorem starts_below (base : Nat) : ∀ (rs : List Recd) (m j : Nat), RightL rs → m ≤ rs.length → j < rs.length → ∀ x, (startsQ base rs)[j]? = some x → (x < base + lenQ (rs.take m) ↔ j < m) := by
 intro rs m j hr hm hj x hx
 have h1 := (starts_rise base (rs.take m) (hr.take m)).2.1
 rw [starts_take] at h1
 constructor
 ·intro hlt
  refine Decidable.byContradiction fun hc => ?_
  have h2 : (startsQ base rs)[j]? = some (base + lenQ (rs.take j)) := by
   have e : rs = rs.take j ++ rs[j] :: rs.drop (j + 1) := by rw [List.getElem_cons_drop, List.take_append_drop]
   have := starts_snoc base (rs.take j) rs[j]
   rw [show rs.take j ++ [rs[j]] = rs.take (j + 1) by rw [List.take_add_one, List.getElem?_eq_getElem hj]; rfl, starts_take] at this
   have h3 : ((startsQ base rs).take (j + 1))[j]? = some (base + lenQ (rs.take j)) := by
    rw [this, List.getElem?_append_right (by rw [starts_len, List.length_take]; omega), starts_len, List.length_take, Nat.min_eq_left (by omega), Nat.sub_self]; rfl
   rwa [List.getElem?_take_of_lt (by omega)] at h3
  rw [hx] at h2
  cases h2
  have : rs.take m = (rs.take j).take m := by rw [List.take_take, Nat.min_eq_left (by omega)]
  have h5 := len_take_le (rs.take j) m
  rw [← this] at h5
  omega
 ·intro hlt
  exact (h1 x (List.mem_of_getElem? (i := j) (by rw [List.getElem?_take_of_lt hlt]; exact hx))).2
end Go.Proofs.YtmcdaegaopfihaaGreat.Wl
end

section
namespace Go.Proofs.YtmcdaegaopfihaaGreat.Wl
open Go Go.K Go.Proofs Go.Proofs.YtmcdaegaopfihaaGreat Go.Proofs.YtmcdaegaopfihaaGreat.Cc
set_option linter.unusedVariables false
set_option linter.unusedSimpArgs false
set_option maxRecDepth 10000

def V (D : Dk) (i : Nat) : Sec := viewQ D.kept D.cache i
def Cand (D : Dk) (i : Nat) (s : Sec) : Prop := D.kept[i]? = some s ∨ (i, s) ∈ D.cache
def NoTrip (D : Dk) : Prop := D.dark = false ∧ D.trip = -1
structure Pow (D : Dk) (r : Int × Dk) : Prop where
 err : r.1 = 0 ∨ (r.1 = 8 ∧ r.2.dark = true)
 on : NoTrip D → r.1 = 0 ∧ NoTrip r.2
theorem Pow.trans {D : Dk} {r r' : Int × Dk} (h : Pow D r) (h' : Pow r.2 r') : Pow D r' := ⟨h'.err, fun hn => h'.on (h.on hn).2⟩
theorem goes_dark {D : Dk} (h : (goesQ D).1 = false) : (goesQ D).2.dark = true := by
 unfold goesQ at h ⊢
 split
 ·assumption
 ·rename_i h1
  rw [if_neg h1] at h
  split
  ·rfl
  ·rename_i h2
   rw [if_neg h2] at h
   split at h <;> cases h
theorem goes_on {D : Dk} (h : NoTrip D) : goesQ D = (true, D) := by
 unfold goesQ
 rw [if_neg (by rw [h.1]; decide), if_neg (by rw [h.2]; decide), if_neg (by rw [h.2]; decide)]
theorem Cand.of {D D' : Dk} (h1 : D'.kept = D.kept) (h2 : D'.cache = D.cache) {i : Nat} {s : Sec} (h : Cand D' i s) : Cand D i s := by
 unfold Cand at h ⊢; rw [← h1, ← h2]; exact h
theorem V.of {D D' : Dk} (h1 : D'.kept = D.kept) (h2 : D'.cache = D.cache) (i : Nat) : V D' i = V D i := by unfold V; rw [h1, h2]
theorem write_sem {D : Dk} {a : Nat} {b : Sec} (ha : a < D.kept.length) (hb : b.length = 512) :
  Pow D (writeQ D a b) ∧ (writeQ D a b).2.kept = D.kept ∧ (((writeQ D a b).1 = 0 ∧ (writeQ D a b).2.cache = D.cache ++ [(a, b)]) ∨ ((writeQ D a b).1 = 8 ∧ (writeQ D a b).2.cache = D.cache)) := by
 obtain ⟨g1, g2⟩ := goes_kept D
 unfold writeQ
 rw [if_neg (by omega), if_neg (by omega)]
 cases hg : (goesQ D).1 with
 | false =>
  rw [if_neg (by decide)]
  refine ⟨⟨.inr ⟨rfl, goes_dark hg⟩, fun hn => ?_⟩, g1, .inr ⟨rfl, g2⟩⟩
  rw [goes_on hn] at hg; cases hg
 | true =>
  rw [if_pos rfl, Int.toNat_natCast]
  refine ⟨⟨.inl rfl, fun hn => ⟨rfl, ?_⟩⟩, g1, .inl ⟨rfl, rfl⟩⟩
  rw [goes_on hn]; exact hn
theorem sync_sem (D : Dk) : Pow D (syncQ D) ∧ (((syncQ D).1 = 0 ∧ (syncQ D).2.kept = setL D.kept D.cache ∧ (syncQ D).2.cache = []) ∨ ((syncQ D).1 = 8 ∧ (syncQ D).2.kept = D.kept ∧ (syncQ D).2.cache = D.cache)) := by
 obtain ⟨g1, g2⟩ := goes_kept D
 unfold syncQ
 cases hg : (goesQ D).1 with
 | false =>
  rw [if_neg (by decide)]
  refine ⟨⟨.inr ⟨rfl, goes_dark hg⟩, fun hn => ?_⟩, .inr ⟨rfl, g1, g2⟩⟩
  rw [goes_on hn] at hg; cases hg
 | true =>
  rw [if_pos rfl]
  refine ⟨⟨.inl rfl, fun hn => ⟨rfl, ?_⟩⟩, .inl ⟨rfl, rfl, rfl⟩⟩
  rw [goes_on hn]; exact hn
theorem read_sem {D : Dk} {a : Nat} (ha : a < D.kept.length) : (readQ D a).2.kept = D.kept ∧ (readQ D a).2.cache = D.cache ∧ (((readQ D a).1 = .ok (V D a) ∧ (NoTrip D → NoTrip (readQ D a).2)) ∨ ((readQ D a).1 = .error 8 ∧ (readQ D a).2.dark = true ∧ ¬ NoTrip D)) := by
 obtain ⟨g1, g2⟩ := goes_kept D
 unfold readQ
 rw [if_neg (by omega)]
 cases hg : (goesQ D).1 with
 | false =>
  rw [if_neg (by decide)]
  exact ⟨g1, g2, .inr ⟨rfl, goes_dark hg, fun hn => by rw [goes_on hn] at hg; cases hg⟩⟩
 | true =>
  rw [if_pos rfl, Int.toNat_natCast]
  exact ⟨g1, g2, .inl ⟨rfl, fun hn => by rw [goes_on hn]; exact hn⟩⟩
theorem fold_view (i : Nat) : ∀ (l : List Loo) (x : Sec), l.foldl (fun x l => if l.1 = i then l.2 else x) x = x ∨ (i, l.foldl (fun x l => if l.1 = i then l.2 else x) x) ∈ l
 | [], x => .inl rfl
 | y :: l, x => by
  rw [List.foldl_cons]
  rcases fold_view i l (if y.1 = i then y.2 else x) with h | h
  ·rw [h]
   split
   ·rename_i hy; exact .inr (by rw [← hy]; exact List.mem_cons_self ..)
   ·exact .inl rfl
  ·exact .inr (List.mem_cons_of_mem _ h)
theorem view_cand {D : Dk} {i : Nat} (hi : i < D.kept.length) : Cand D i (V D i) := by
 unfold Cand V viewQ
 rcases fold_view i D.cache (D.kept.getD i []) with h | h
 ·rw [h, List.getD_eq_getElem?_getD, List.getElem?_eq_getElem hi]; exact .inl rfl
 ·exact .inr h
theorem set_view (kept : List Sec) (i : Nat) (hi : i < kept.length) : ∀ cache : List Loo, (setL kept cache)[i]? = some (viewQ kept cache i) := fun cache => by
 obtain ⟨l, rfl⟩ : ∃ l, cache = l.reverse := ⟨cache.reverse, by simp⟩
 induction l with
 | nil => show kept[i]? = some (kept.getD i []); rw [List.getD_eq_getElem?_getD, List.getElem?_eq_getElem hi]; rfl
 | cons x l ih =>
  rw [List.reverse_cons, setL_snoc, view_snoc]
  by_cases hx : x.1 = i
  ·rw [if_pos hx, hx, List.getElem?_set_self (by rw [setL_len]; exact hi)]
  ·rw [if_neg hx, List.getElem?_set_ne hx, ih]
theorem set_cand (kept : List Sec) (i : Nat) (s : Sec) : ∀ cache : List Loo, (setL kept cache)[i]? = some s → kept[i]? = some s ∨ (i, s) ∈ cache := fun cache => by
 obtain ⟨l, rfl⟩ : ∃ l, cache = l.reverse := ⟨cache.reverse, by simp⟩
 induction l with
 | nil => exact fun h => .inl h
 | cons x l ih =>
  intro h
  rw [List.reverse_cons, setL_snoc] at h
  rw [List.reverse_cons]
  by_cases hx : x.1 = i
  ·have hlt : i < (setL kept l.reverse).length := by have := (List.getElem?_eq_some_iff.1 h).1; rwa [List.length_set] at this
   rw [hx, List.getElem?_set_self hlt] at h
   cases h
   exact .inr (List.mem_append_right _ (by rw [← hx]; exact List.mem_singleton.2 rfl))
  ·rw [List.getElem?_set_ne hx] at h
   rcases ih h with h | h
   ·exact .inl h
   ·exact .inr (List.mem_append_left _ h)
theorem sync_cand {D : Dk} {i : Nat} {s : Sec} (h : Cand (syncQ D).2 i s) : Cand D i s := by
 rcases (sync_sem D).2 with ⟨_, h1, h2⟩ | ⟨_, h1, h2⟩
 ·unfold Cand at h
  rw [h1, h2] at h
  rcases h with h | h
  ·exact set_cand _ _ _ _ h
  ·cases h
 ·exact h.of h1 h2
theorem sync_view {D : Dk} {i : Nat} (hi : i < D.kept.length) : V (syncQ D).2 i = V D i := by
 rcases (sync_sem D).2 with ⟨_, h1, h2⟩ | ⟨_, h1, h2⟩
 ·unfold V
  rw [h1, h2]
  have := set_view D.kept i hi D.cache
  show (setL D.kept D.cache).getD i [] = _
  rw [List.getD_eq_getElem?_getD, this]; rfl
 ·exact V.of h1 h2 i
theorem write_cand {D : Dk} {a : Nat} {b : Sec} (ha : a < D.kept.length) (hb : b.length = 512) {i : Nat} {s : Sec} (h : Cand (writeQ D a b).2 i s) : Cand D i s ∨ (i = a ∧ s = b) := by
 obtain ⟨_, h1, h2⟩ := write_sem ha hb
 unfold Cand at h ⊢
 rw [h1] at h
 rcases h with h | h
 ·exact .inl (.inl h)
 ·rcases h2 with ⟨_, e⟩ | ⟨_, e⟩
  ·rw [e] at h
   rcases List.mem_append.1 h with h | h
   ·exact .inl (.inr h)
   ·cases List.mem_singleton.1 h; exact .inr ⟨rfl, rfl⟩
  ·rw [e] at h; exact .inl (.inr h)
theorem write_view {D : Dk} {a : Nat} {b : Sec} (ha : a < D.kept.length) (hb : b.length = 512) (h0 : (writeQ D a b).1 = 0) (i : Nat) : V (writeQ D a b).2 i = if a = i then b else V D i := by
 obtain ⟨_, h1, h2⟩ := write_sem ha hb
 rcases h2 with ⟨_, e⟩ | ⟨e8, e⟩
 ·unfold V
  rw [h1, e, view_snoc]
 ·omega
structure Ran (D : Dk) (r : Int × Dk) (f : Nat → Sec) (i n : Nat) : Prop where
 pow : Pow D r
 kept : r.2.kept = D.kept
 cand : ∀ j s, Cand r.2 j s → Cand D j s ∨ (i ≤ j ∧ j < i + n ∧ s = f j)
 view : r.1 = 0 → ∀ j, V r.2 j = if i ≤ j ∧ j < i + n then f j else V D j
theorem ran_zero (D : Dk) (f : Nat → Sec) (i : Nat) : Ran D (0, D) f i 0 := ⟨⟨.inl rfl, fun h => ⟨rfl, h⟩⟩, rfl, fun j s h => .inl h, fun _ j => by rw [if_neg (by omega)]⟩
theorem ran_succ {D : Dk} {f : Nat → Sec} {i n : Nat} {r : Int × Dk} (hi : i < D.kept.length) (hf : (f i).length = 512) (hr : (writeQ D i (f i)).1 = 0 → Ran (writeQ D i (f i)).2 r f (i + 1) n) :
  Ran D (if (writeQ D i (f i)).1 ≠ 0 then writeQ D i (f i) else r) f i (n + 1) := by
 obtain ⟨hp, hk, hc⟩ := write_sem hi hf
 by_cases h0 : (writeQ D i (f i)).1 = 0
 ·rw [if_neg (by omega)]
  have hr := hr h0
  refine ⟨hp.trans hr.pow, hr.kept.trans hk, fun j s h => ?_, fun e j => ?_⟩
  ·rcases hr.cand j s h with h | ⟨a, b, c⟩
   ·rcases write_cand hi hf h with h | ⟨rfl, rfl⟩
    ·exact .inl h
    ·exact .inr ⟨Nat.le_refl _, by omega, rfl⟩
   ·exact .inr ⟨by omega, by omega, c⟩
  ·rw [hr.view e j]
   by_cases hj : i + 1 ≤ j ∧ j < i + 1 + n
   ·rw [if_pos hj, if_pos (by omega)]
   ·rw [if_neg hj, write_view hi hf h0]
    by_cases hji : i = j
    ·subst hji; rw [if_pos rfl, if_pos (by omega)]
    ·rw [if_neg hji, if_neg (by omega)]
 ·rw [if_pos h0]
  refine ⟨hp, hk, fun j s h => ?_, fun e => absurd e h0⟩
  rcases write_cand hi hf h with h | ⟨rfl, rfl⟩
  ·exact .inl h
  ·exact .inr ⟨Nat.le_refl _, by omega, rfl⟩
theorem wipe_ran : ∀ (n i : Nat) {D : Dk}, 1 + i + n ≤ D.kept.length → Ran D (wipeQ n i D) (fun _ => zs) (1 + i) n
 | 0, i, D, h => by rw [wipeQ]; exact ran_zero D _ _
 | n + 1, i, D, h => by
  rw [wipeQ]
  refine ran_succ (f := fun _ => zs) (by omega) zs_len fun _ => ?_
  have := wipe_ran n (i + 1) (D := (writeQ D ((1 + i : Nat) : Int) zs).2) (by rw [(write_sem (by omega) zs_len).2.1]; omega)
  rwa [show 1 + (i + 1) = 1 + i + 1 by omega] at this
def flQ (l : List UInt8) : Nat → Nat → Dk → Int × Dk
 | 0, _, D => (0, D)
 | k + 1, i, D => if (writeQ D (1 + i : Nat) (secB l i)).1 ≠ 0 then writeQ D (1 + i : Nat) (secB l i) else flQ l k (i + 1) (writeQ D (1 + i : Nat) (secB l i)).2
theorem fl_ok (l : List UInt8) : ∀ (k i : Nat) {D : Dk}, DkOk D → D.cache.length + k ≤ roomMax → DkOk (flQ l k i D).2 ∧ (flQ l k i D).2.cache.length ≤ D.cache.length + k ∧ (flQ l k i D).2.kept.length = D.kept.length
 | 0, i, D, h, hr => ⟨h, Nat.le_refl _, rfl⟩
 | k + 1, i, D, h, hr => by
  obtain ⟨a, b, c⟩ := write_ok h (by omega) (1 + i : Nat) (secB l i)
  rw [flQ]
  split
  ·exact ⟨a, by omega, c⟩
  ·obtain ⟨x, y, z⟩ := fl_ok l k (i + 1) a (by omega)
   exact ⟨x, by omega, z.trans c⟩
theorem fl_ran (l : List UInt8) : ∀ (n i : Nat) {D : Dk}, 1 + i + n ≤ D.kept.length → Ran D (flQ l n i D) (fun j => secB l (j - 1)) (1 + i) n
 | 0, i, D, h => by rw [flQ]; exact ran_zero D _ _
 | n + 1, i, D, h => by
  have e : secB l i = (fun j => secB l (j - 1)) (1 + i) := by dsimp only; rw [Nat.add_sub_cancel_left]
  rw [flQ, e]
  refine ran_succ (f := fun j => secB l (j - 1)) (by omega) (sec_len _ _) fun _ => ?_
  have := fl_ran l n (i + 1) (D := (writeQ D ((1 + i : Nat) : Int) (secB l (1 + i - 1))).2) (by rw [(write_sem (by omega) (sec_len _ _)).2.1]; omega)
  rwa [show 1 + (i + 1) = 1 + i + 1 by omega] at this
theorem cut_cand {kept : List Sec} {keep : List Bool} {i : Nat} {s : Sec} : ∀ (cache : List Loo) (kept : List Sec) (keep : List Bool), (cutL kept cache keep)[i]? = some s → kept[i]? = some s ∨ (i, s) ∈ cache := fun cache => by
 unfold cutL
 induction cache with
 | nil => intro kept keep h; exact .inl h
 | cons x l ih =>
  intro kept keep h
  cases keep with
  | nil => exact .inl h
  | cons b keep =>
   rw [List.zip_cons_cons, List.foldl_cons] at h
   rcases ih _ _ h with h | h
   ·dsimp only at h
    split at h
    ·by_cases hx : x.1 = i
     ·have hlt : i < kept.length := by have := (List.getElem?_eq_some_iff.1 h).1; rwa [List.length_set] at this
      rw [hx, List.getElem?_set_self hlt] at h
      cases h
      exact .inr (by rw [← hx]; exact List.mem_cons_self ..)
     ·rw [List.getElem?_set_ne hx] at h; exact .inl h
    ·exact .inl h
   ·exact .inr (List.mem_cons_of_mem _ h)
theorem Cand.cut {D : Dk} {keep : List Bool} {i : Nat} {s : Sec} (h : Cand (cutQ D keep) i s) : Cand D i s := by
 rcases h with h | h
 ·exact cut_cand (kept := D.kept) (keep := keep) D.cache D.kept keep h
 ·cases h
theorem cand_kept {D : Dk} (h : D.cache = []) {i : Nat} {s : Sec} : Cand D i s → D.kept[i]? = some s := fun hc => by
 rcases hc with h1 | h1
 ·exact h1
 ·rw [h] at h1; cases h1
theorem view_kept {D : Dk} (h : D.cache = []) {i : Nat} (hi : i < D.kept.length) : D.kept[i]? = some (V D i) := cand_kept h (view_cand hi)
end Go.Proofs.YtmcdaegaopfihaaGreat.Wl
end
