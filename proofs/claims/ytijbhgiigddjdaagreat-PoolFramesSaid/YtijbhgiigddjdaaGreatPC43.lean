/-
  Texts joined: Sv Sr Sy. Conditions: each theorem's own.
-/
import Derived.Test.YtijbhgiigddjdaaGreatPC42
import Derived.Test.YtijbhgiigddjdaaGreatPC38
import Derived.Test.YtijbhgiigddjdaaGreatPC24
import Derived.Test.YtijbhgiigddjdaaGreatPC28
set_option linter.unusedVariables false
set_option linter.unusedSimpArgs false
set_option maxRecDepth 10000
set_option maxHeartbeats 16000000
section
namespace Go.Proofs.YtijbhgiigddjdaaGreat.Wl
open Go.K Cc Rc

def bytesQ (rs : List Recd) : List UInt8 := rs.flatMap encN
def lenQ (rs : List Recd) : Nat := (bytesQ rs).length
def placesQ : Nat → List Recd → List (Recd × Nat)
 | _, [] => []
 | a, r :: rs => (z0 r, a) :: placesQ (a + (encN r).length) rs
def RightL (rs : List Recd) : Prop := ∀ r ∈ rs, mayR r = true ∧ wfX r
theorem bytes_cons (r : Recd) (rs : List Recd) : bytesQ (r :: rs) = encN r ++ bytesQ rs := List.flatMap_cons
theorem len_cons (r : Recd) (rs : List Recd) : lenQ (r :: rs) = (encN r).length + lenQ rs := by unfold lenQ; rw [bytes_cons, List.length_append]
theorem bytes_app (rs qs : List Recd) : bytesQ (rs ++ qs) = bytesQ rs ++ bytesQ qs := List.flatMap_append
theorem bytes_snoc (rs : List Recd) (r : Recd) : bytesQ (rs ++ [r]) = bytesQ rs ++ encN r := by rw [bytes_app, bytes_cons]; simp [bytesQ]
theorem len_snoc (rs : List Recd) (r : Recd) : lenQ (rs ++ [r]) = lenQ rs + (encN r).length := by unfold lenQ; rw [bytes_snoc, List.length_append]
theorem len_take_le (rs : List Recd) (m : Nat) : lenQ (rs.take m) ≤ lenQ rs := by
 have := bytes_app (rs.take m) (rs.drop m)
 rw [List.take_append_drop] at this
 unfold lenQ; rw [this, List.length_append]; omega
theorem bytes_take (rs : List Recd) (m : Nat) : (bytesQ rs).take (lenQ (rs.take m)) = bytesQ (rs.take m) := by
 have := bytes_app (rs.take m) (rs.drop m)
 rw [List.take_append_drop] at this
 rw [this]
 exact List.take_left
theorem RightL.take {rs : List Recd} (h : RightL rs) (m : Nat) : RightL (rs.take m) := fun r hr => h r (List.mem_of_mem_take hr)
theorem RightL.snoc {rs : List Recd} (h : RightL rs) {r : Recd} (hm : mayR r = true) (hw : wfX r) : RightL (rs ++ [r]) := fun x hx => by
 rcases List.mem_append.1 hx with hx | hx
 ·exact h x hx
 ·rw [List.mem_singleton.1 hx]; exact ⟨hm, hw⟩
theorem places_len : ∀ (rs : List Recd) (a : Nat), (placesQ a rs).length = rs.length
 | [], _ => rfl
 | r :: rs, a => by rw [placesQ, List.length_cons, places_len rs, List.length_cons]
theorem places_take : ∀ (rs : List Recd) (a m : Nat), placesQ a (rs.take m) = (placesQ a rs).take m
 | [], a, m => by simp [placesQ]
 | r :: rs, a, 0 => by simp [placesQ]
 | r :: rs, a, m + 1 => by rw [List.take_succ_cons, placesQ, placesQ, List.take_succ_cons, places_take rs]
theorem places_snoc : ∀ (rs : List Recd) (a : Nat) (r : Recd), placesQ a (rs ++ [r]) = placesQ a rs ++ [(z0 r, a + lenQ rs)]
 | [], a, r => rfl
 | x :: rs, a, r => by rw [List.cons_append, placesQ, placesQ, places_snoc rs, List.cons_append, len_cons, Nat.add_assoc]
theorem part_of : ∀ (rs : List Recd) (b : List UInt8) (a : Nat) (tail : List UInt8), RightL rs → b.drop a = bytesQ rs ++ tail → Dec tail zR 0 6 → Part b a (placesQ a rs) (a + lenQ rs) 0
 | [], b, a, tail, _, hb, ht => .none (by rw [hb]; exact ht)
 | r :: rs, b, a, tail, hr, hb, ht => by
  obtain ⟨hm, hw⟩ := hr r (List.mem_cons_self ..)
  rw [bytes_cons, List.append_assoc] at hb
  rw [placesQ, len_cons, ← Nat.add_assoc]
  refine .step (n := (encN r).length) (by rw [hb]; exact dec_enc hm hw _) (part_of rs b _ tail (fun x hx => hr x (List.mem_cons_of_mem _ hx)) ?_ ht)
  rw [← List.drop_drop, hb, List.drop_left]
theorem part_one {b : List UInt8} {a k k' : Nat} {os os' : List (Recd × Nat)} {e e' : Int} (h : Part b a os k e) : Part b a os' k' e' → os = os' ∧ k = k' ∧ e = e' := by
 induction h generalizing os' k' e' with
 | none hd =>
  intro h'
  cases h' with
  | none _ => exact ⟨rfl, rfl, rfl⟩
  | err hd' h1 h2 => exact absurd (dec_one hd hd').2.2.symm h2
  | step hd' _ => have := (dec_one hd hd').2.2; omega
 | err hd h1 h2 =>
  intro h'
  cases h' with
  | none hd' => exact absurd (dec_one hd hd').2.2 h2
  | err hd' _ _ => exact ⟨rfl, rfl, (dec_one hd hd').2.2⟩
  | step hd' _ => exact absurd (dec_one hd hd').2.2 h1
 | step hd hp ih =>
  intro h'
  cases h' with
  | none hd' => have := (dec_one hd hd').2.2; omega
  | err hd' h1 h2 => exact absurd (dec_one hd hd').2.2.symm h1
  | step hd' hp' =>
   obtain ⟨rfl, rfl, -⟩ := dec_one hd hd'
   obtain ⟨rfl, rfl, rfl⟩ := ih hp'
   exact ⟨rfl, rfl, rfl⟩
theorem dec_nil : Dec [] zR 0 6 := .inl ⟨by decide, rfl, rfl, rfl⟩
theorem cut_at : ∀ (rs : List Recd) (t : Nat), RightL rs → ∃ m tail, m ≤ rs.length ∧ (bytesQ rs).take t = bytesQ (rs.take m) ++ tail ∧ Dec tail zR 0 6 ∧ ∀ m', m' ≤ rs.length → lenQ (rs.take m') ≤ t → m' ≤ m
 | [], t, _ => ⟨0, [], Nat.le_refl _, by simp [bytesQ], dec_nil, fun m' h _ => h⟩
 | r :: rs, t, hr => by
  obtain ⟨hm, hw⟩ := hr r (List.mem_cons_self ..)
  by_cases ht : t < (encN r).length
  ·refine ⟨0, (encN r).take t, Nat.zero_le _, ?_, dec_cut hm ht, fun m' h1 h2 => ?_⟩
   ·rw [bytes_cons, List.take_append_of_le_length (by omega)]; simp [bytesQ]
   ·cases m' with
    | zero => exact Nat.le_refl _
    | succ j => rw [List.take_succ_cons, len_cons] at h2; omega
  ·obtain ⟨m, tail, h1, h2, h3, h4⟩ := cut_at rs (t - (encN r).length) fun x hx => hr x (List.mem_cons_of_mem _ hx)
   refine ⟨m + 1, tail, by rw [List.length_cons]; omega, ?_, h3, fun m' g1 g2 => ?_⟩
   ·rw [bytes_cons, List.take_append, List.take_of_length_le (by omega), h2, List.take_succ_cons, bytes_cons, List.append_assoc]
   ·cases m' with
    | zero => exact Nat.zero_le _
    | succ j =>
     rw [List.take_succ_cons, len_cons] at g2
     rw [List.length_cons] at g1
     have := h4 j (by omega) (by omega)
     omega
theorem part_take (rs : List Recd) (t : Nat) (hr : RightL rs) : ∃ m, m ≤ rs.length ∧ lenQ (rs.take m) ≤ t ∧ Part ((bytesQ rs).take t) 0 (placesQ 0 (rs.take m)) (lenQ (rs.take m)) 0 ∧ ∀ m', m' ≤ rs.length → lenQ (rs.take m') ≤ t → m' ≤ m := by
 obtain ⟨m, tail, h1, h2, h3, h4⟩ := cut_at rs t hr
 refine ⟨m, h1, ?_, ?_, h4⟩
 ·have := congrArg List.length h2
  rw [List.length_append, List.length_take] at this
  unfold lenQ; omega
 ·have := part_of (rs.take m) ((bytesQ rs).take t) 0 tail (hr.take m) (by rw [List.drop_zero]; exact h2) h3
  rwa [Nat.zero_add] at this
def startsQ (base : Nat) (rs : List Recd) : List Nat := stsQ base (placesQ 0 rs)
theorem starts_len (base : Nat) (rs : List Recd) : (startsQ base rs).length = rs.length := by unfold startsQ stsQ; rw [List.length_map, places_len]
theorem starts_take (base : Nat) (rs : List Recd) (m : Nat) : startsQ base (rs.take m) = (startsQ base rs).take m := by unfold startsQ stsQ; rw [places_take, List.map_take]
theorem starts_snoc (base : Nat) (rs : List Recd) (r : Recd) : startsQ base (rs ++ [r]) = startsQ base rs ++ [base + lenQ rs] := by unfold startsQ stsQ; rw [places_snoc, List.map_append]; simp
theorem starts_rise (base : Nat) (rs : List Recd) (hr : RightL rs) : (startsQ base rs).Pairwise (· < ·) ∧ (∀ x ∈ startsQ base rs, base ≤ x ∧ x < base + lenQ rs) ∧ rs.length * 3 ≤ lenQ rs := by
 have := sts_rise (base := base) (part_of rs (bytesQ rs) 0 [] hr (by rw [List.drop_zero, List.append_nil]) dec_nil)
 obtain ⟨_, a, b, _, c⟩ := this
 rw [Nat.zero_add] at b c
 rw [places_len] at c
 exact ⟨a, fun x hx => by have := b x hx; omega, by omega⟩
end Go.Proofs.YtijbhgiigddjdaaGreat.Wl
end

section
namespace Go.K
end Go.K
namespace Go.Proofs.YtijbhgiigddjdaaGreat.Wl
open Go.K Cc

end Go.Proofs.YtijbhgiigddjdaaGreat.Wl
end

section
namespace Go.Proofs.YtijbhgiigddjdaaGreat.Wl
open Go.K Cc Rc

theorem tail_sem {D : Dk} {n m : Nat} {rs : List Recd} (hr : RightL rs) (hm : m ≤ rs.length) (hS : lenQ rs ≤ n * 510) (hn : n < D.kept.length) (hc : D.cache = []) (hs : ∀ i, i < n → SecOk (bytesQ rs) (lenQ (rs.take m)) i (V D (1 + i))) :
    (raQ n 0 [] [] false D).2.kept = D.kept ∧ (raQ n 0 [] [] false D).2.cache = [] ∧
    (((raQ n 0 [] [] false D).1 = .error 8 ∧ (raQ n 0 [] [] false D).2.dark = true ∧ ¬ NoTrip D) ∨
     ∃ old st j, (raQ n 0 [] [] false D).1 = .ok (old, st) ∧ (NoTrip D → NoTrip (raQ n 0 [] [] false D).2) ∧ m ≤ j ∧ j ≤ rs.length ∧ Part st 0 (placesQ 0 (rs.take j)) (lenQ (rs.take j)) 0 ∧ st.take (lenQ (rs.take j)) = bytesQ (rs.take j) ∧
      Pow (raQ n 0 [] [] false D).2 (mendQ (bytesQ (rs.take j)) old 0 (raQ n 0 [] [] false D).2) ∧ (mendQ (bytesQ (rs.take j)) old 0 (raQ n 0 [] [] false D).2).2.kept.length = D.kept.length ∧
      (∀ i s, Cand (mendQ (bytesQ (rs.take j)) old 0 (raQ n 0 [] [] false D).2).2 i s → D.kept[i]? = some s ∨ (1 ≤ i ∧ i < 1 + n ∧ s = secB (bytesQ (rs.take j)) (i - 1))) ∧
      ((mendQ (bytesQ (rs.take j)) old 0 (raQ n 0 [] [] false D).2).1 = 0 → (mendQ (bytesQ (rs.take j)) old 0 (raQ n 0 [] [] false D).2).2.cache = [] ∧ ∀ i, i < D.kept.length → V (mendQ (bytesQ (rs.take j)) old 0 (raQ n 0 [] [] false D).2).2 i = if 1 ≤ i ∧ i < 1 + n then secB (bytesQ (rs.take j)) (i - 1) else V D i)) := by
  obtain ⟨a1, a2, a3⟩ := ra_sem (S := bytesQ rs) (lo := lenQ (rs.take m)) (n := n) hS (len_take_le rs m) n 0 [] [] false D (by omega) rfl hn (fun j _ h => hs j h) (.inl ⟨rfl, by simp, by omega⟩)
  rw [hc] at a2
  refine ⟨a1, a2, ?_⟩
  rcases a3 with ⟨old, t, b1, b2, b3, b4, _, b6, b7⟩ | h
  · obtain ⟨j, j1, j2, j3, j4⟩ := part_take rs t hr
    have hmj := j4 m hm b2
    obtain ⟨c1, c2, c3, c4⟩ := mend_sem (bytesQ (rs.take j)) old 0 (raQ n 0 [] [] false D).2 (by rw [a1, b4]; omega) (fun i s hi => by
      have hin : i < n := by rw [← b4]; exact (List.getElem?_eq_some_iff.1 hi).1
      rw [b6 i (Nat.zero_le _) hin] at hi
      cases hi
      exact V.of a1 (by rw [a2, hc]) _)
    rw [b4] at c3 c4
    refine .inr ⟨old, _, j, b1, b7, hmj, j1, j3, ?_, c1, by rw [c2, a1], fun i s h => ?_, fun e => ?_⟩
    · rw [List.take_take, Nat.min_eq_left j2, bytes_take]
    · rcases c3 i s h with h | h
      · exact .inl (by rw [← a1]; exact cand_kept a2 h)
      · exact .inr h
    · obtain ⟨d1, d2⟩ := c4 e
      refine ⟨d1, fun i hi => ?_⟩
      rw [d2 i (by rw [a1]; exact hi), V.of a1 (by rw [a2, hc])]
  · exact .inl h
structure Run (D : Dk) (L : Lg) (rs : List Recd) (m : Nat) : Prop where
 ok : DkOk D
 cache : D.cache = []
 n1 : 16 ≤ L.m.n
 n2 : L.m.n < D.kept.length
 mas : MasOk L.m
 wip : L.m.wiped = false
 base : 1 ≤ L.m.base
 fin : endQ L ≤ lastLSN
 right : RightL rs
 str : L.stream = bytesQ rs
 sts : L.starts = startsQ L.m.base rs
 few : m ≤ rs.length
 dur : L.durable = L.m.base + lenQ (rs.take m)
 chk : L.m.check = 0 ∨ L.m.check ∈ startsQ L.m.base (rs.take m)
 len : lenQ rs ≤ L.m.n * 510
 v0 : V D 0 = masterB L.m
 vi : ∀ i, i < L.m.n → V D (1 + i) = secB (bytesQ (rs.take m)) i
theorem Run.fin' {D : Dk} {L : Lg} {rs : List Recd} {m : Nat} (h : Run D L rs m) : L.m.base + lenQ rs ≤ lastLSN := by have := h.fin; unfold endQ at this; rw [h.str] at this; exact this
theorem Run.lgOk {D : Dk} {L : Lg} {rs : List Recd} {m : Nat} (h : Run D L rs m) : LgOk L := by
 have h1 := h.fin'
 have h2 := len_take_le rs m
 have h3 := (starts_rise L.m.base rs h.right).2.2
 have h4 : L.stream.length = lenQ rs := by rw [h.str]; rfl
 exact ⟨h.mas, ⟨h.base, by omega⟩, by rw [h4]; exact h.len, by rw [h.sts, starts_len, h4]; omega, by rw [h.dur]; omega, by rw [h.dur, h4]; omega⟩
def OldM (n base kept : Nat) (rs : List Recd) (m : Nat) (s : Sec) : Prop := ∃ c, (c = 0 ∨ c ∈ startsQ base (rs.take m)) ∧ s = masterB ⟨n, base, c, kept, false⟩
structure AInv (D : Dk) (n base kept : Nat) (rs : List Recd) (m : Nat) (brk : Option Nat) : Prop where
 mas : ∀ s, Cand D 0 s → OldM n base kept rs m s ∨ ∃ x, brk = some x ∧ s = masterB ⟨n, base + lenQ rs, 0, x, true⟩
 sec : ∀ i, i < n → ∀ s, Cand D (1 + i) s → SecOk (bytesQ rs) (lenQ (rs.take m)) i s
def BInv (D : Dk) (n base kept : Nat) : Prop := ∀ s, Cand D 0 s → s = masterB ⟨n, base, 0, kept, true⟩
structure CInv (D : Dk) (n base kept : Nat) : Prop where
 mas : ∀ s, Cand D 0 s → ∃ w, s = masterB ⟨n, base, 0, kept, w⟩
 sec : ∀ i, i < n → ∀ s, Cand D (1 + i) s → s = zs
def Dead (D : Dk) (n base kept : Nat) (rs : List Recd) (m : Nat) (brk : Option Nat) : Prop := AInv D n base kept rs m brk ∨ ∃ x, brk = some x ∧ (BInv D n (base + lenQ rs) x ∨ CInv D n (base + lenQ rs) x)
theorem Run.dead {D : Dk} {L : Lg} {rs : List Recd} {m : Nat} (h : Run D L rs m) (brk : Option Nat) : AInv D L.m.n L.m.base L.m.kept rs m brk := by
 have hlt := h.n2
 refine ⟨fun s hs => .inl ⟨L.m.check, h.chk, ?_⟩, fun i hi s hs => ⟨lenQ (rs.take m), Nat.le_refl _, len_take_le rs m, ?_⟩⟩
 ·have h1 := cand_kept h.cache hs
  rw [view_kept h.cache (by omega)] at h1
  cases h1
  rw [h.v0]
  have := h.wip
  obtain ⟨⟨a, b, c, d, e⟩, _⟩ := L
  dsimp only at this ⊢
  rw [this]
 ·have h1 := cand_kept h.cache hs
  rw [view_kept h.cache (by omega)] at h1
  cases h1
  rw [h.vi i hi, bytes_take]
theorem steps_one (s : Stp) (l : List Stp) (D : Dk) : stepsQ (s :: l) D = if (s.q D).1 ≠ 0 then s.q D else stepsQ l (s.q D).2 := rfl
theorem steps_nil (D : Dk) : stepsQ [] D = (0, D) := rfl

theorem four_sem {D : Dk} {n u b kp : Nat} (hc : D.cache = []) (hn : n < D.kept.length) (hu : u ≤ n) (h0 : V D 0 = masterB ⟨n, b, 0, kp, true⟩) (hz : ∀ i, u ≤ i → i < n → V D (1 + i) = zs) :
    Pow D (stepsQ [wipeS u, syncS, writeS ⟨n, b, 0, kp, false⟩, syncS] D) ∧ (stepsQ [wipeS u, syncS, writeS ⟨n, b, 0, kp, false⟩, syncS] D).2.kept.length = D.kept.length ∧
    (((stepsQ [wipeS u, syncS, writeS ⟨n, b, 0, kp, false⟩, syncS] D).1 = 0 ∧ (stepsQ [wipeS u, syncS, writeS ⟨n, b, 0, kp, false⟩, syncS] D).2.cache = [] ∧ V (stepsQ [wipeS u, syncS, writeS ⟨n, b, 0, kp, false⟩, syncS] D).2 0 = masterB ⟨n, b, 0, kp, false⟩ ∧ ∀ i, i < n → V (stepsQ [wipeS u, syncS, writeS ⟨n, b, 0, kp, false⟩, syncS] D).2 (1 + i) = zs) ∨
     ((stepsQ [wipeS u, syncS, writeS ⟨n, b, 0, kp, false⟩, syncS] D).1 = 8 ∧ (BInv (stepsQ [wipeS u, syncS, writeS ⟨n, b, 0, kp, false⟩, syncS] D).2 n b kp ∨ CInv (stepsQ [wipeS u, syncS, writeS ⟨n, b, 0, kp, false⟩, syncS] D).2 n b kp))) := by
  have hb : ∀ s, Cand D 0 s → s = masterB ⟨n, b, 0, kp, true⟩ := fun s hs => by
    have h1 := cand_kept hc hs
    rw [view_kept hc (by omega)] at h1
    cases h1; exact h0
  obtain ⟨w1, w2, w3, w4⟩ := wipe_ran u 0 (D := D) (by omega)
  rw [steps_one]
  have ew : (wipeS u).q D = wipeQ u 0 D := rfl
  rw [ew]
  by_cases hw : (wipeQ u 0 D).1 = 0
  rotate_left
  · rw [if_pos hw]
    refine ⟨w1, by rw [w2], .inr ⟨by rcases w1.err with h | h; exact absurd h hw; exact h.1, .inl fun s hs => ?_⟩⟩
    rcases w3 0 s hs with h | h
    · exact hb s h
    · omega
  rw [if_neg (by omega), steps_one]
  have w4 := w4 hw
  generalize wipeQ u 0 D = r1 at w1 w2 w3 w4 hw ⊢
  have es : syncS.q r1.2 = syncQ r1.2 := rfl
  rw [es]
  obtain ⟨s1, s2⟩ := sync_sem r1.2
  by_cases hs : (syncQ r1.2).1 = 0
  rotate_left
  · rw [if_pos hs]
    have hkl : (syncQ r1.2).2.kept.length = D.kept.length := by rcases s2 with ⟨h, _, _⟩ | ⟨_, h, _⟩; exact absurd h hs; rw [h, w2]
    refine ⟨w1.trans s1, hkl, .inr ⟨by rcases s1.err with h | h; exact absurd h hs; exact h.1, .inl fun s hx => ?_⟩⟩
    rcases w3 0 s (sync_cand hx) with h | h
    · exact hb s h
    · omega
  rw [if_neg (by omega), steps_one]
  obtain ⟨k2, c2⟩ : (syncQ r1.2).2.kept.length = D.kept.length ∧ (syncQ r1.2).2.cache = [] := by
    rcases s2 with ⟨_, h, h'⟩ | ⟨h, _, _⟩
    · exact ⟨by rw [h, setL_len, w2], h'⟩
    · omega
  have v2 : ∀ i, i < D.kept.length → V (syncQ r1.2).2 i = if 1 ≤ i ∧ i < 1 + u then zs else V D i := fun i hi => by
    rw [sync_view (by rw [w2]; exact hi), w4 i]
  have b2 : ∀ s, Cand (syncQ r1.2).2 0 s → s = masterB ⟨n, b, 0, kp, true⟩ := fun s hx => by
    rcases w3 0 s (sync_cand hx) with h | h
    · exact hb s h
    · omega
  generalize syncQ r1.2 = r2 at s1 s2 hs k2 c2 v2 b2 ⊢
  have p2 := w1.trans s1
  have ez : (writeS ⟨n, b, 0, kp, false⟩).q r2.2 = writeQ r2.2 ((0 : Nat) : Int) (masterB ⟨n, b, 0, kp, false⟩) := rfl
  rw [ez]
  have hml := master_len ⟨n, b, 0, kp, false⟩
  have z2 : ∀ i, i < n → ∀ s, Cand r2.2 (1 + i) s → s = zs := fun i hi s hx => by
    have h1 := cand_kept c2 hx
    rw [view_kept c2 (by omega), v2 _ (by omega)] at h1
    by_cases hiu : i < u
    · rw [if_pos (by omega)] at h1; cases h1; rfl
    · rw [if_neg (by omega), hz i (by omega) hi] at h1; cases h1; rfl
  obtain ⟨t1, t2, t3⟩ := write_sem (D := r2.2) (a := 0) (by omega) hml
  have cc : CInv (writeQ r2.2 ((0 : Nat) : Int) (masterB ⟨n, b, 0, kp, false⟩)).2 n b kp := ⟨fun s hx => by
      rcases write_cand (by omega) hml hx with h | ⟨_, rfl⟩
      · exact ⟨true, b2 s h⟩
      · exact ⟨false, rfl⟩, fun i hi s hx => by
      rcases write_cand (by omega) hml hx with h | ⟨h, _⟩
      · exact z2 i hi s h
      · omega⟩
  by_cases hx : (writeQ r2.2 ((0 : Nat) : Int) (masterB ⟨n, b, 0, kp, false⟩)).1 = 0
  rotate_left
  · rw [if_pos hx]
    exact ⟨p2.trans t1, by rw [t2, k2], .inr ⟨by rcases t1.err with h | h; exact absurd h hx; exact h.1, .inr cc⟩⟩
  rw [if_neg (by omega), steps_one]
  have v3 := write_view (D := r2.2) (a := 0) (by omega) hml hx
  generalize writeQ r2.2 ((0 : Nat) : Int) (masterB ⟨n, b, 0, kp, false⟩) = r3 at t1 t2 t3 cc hx v3 ⊢
  have p3 := p2.trans t1
  have es : syncS.q r3.2 = syncQ r3.2 := rfl
  rw [es]
  obtain ⟨u1, u2⟩ := sync_sem r3.2
  have cd : CInv (syncQ r3.2).2 n b kp := ⟨fun s hx => cc.mas s (sync_cand hx), fun i hi s hx => cc.sec i hi s (sync_cand hx)⟩
  have kl : (syncQ r3.2).2.kept.length = D.kept.length := by
    rcases u2 with ⟨_, h, _⟩ | ⟨_, h, _⟩
    · rw [h, setL_len, t2, k2]
    · rw [h, t2, k2]
  by_cases hy : (syncQ r3.2).1 = 0
  rotate_left
  · rw [if_pos hy]
    exact ⟨p3.trans u1, kl, .inr ⟨by rcases u1.err with h | h; exact absurd h hy; exact h.1, .inr cd⟩⟩
  rw [if_neg (by omega), steps_nil]
  refine ⟨⟨.inl rfl, fun h => ⟨rfl, ((p3.trans u1).on h).2⟩⟩, kl, .inl ⟨rfl, ?_, ?_, fun i hi => ?_⟩⟩
  · rcases u2 with ⟨_, _, h⟩ | ⟨h, _, _⟩
    · exact h
    · omega
  · rw [sync_view (by rw [t2, k2]; omega), v3, if_pos rfl]
  · rw [sync_view (by rw [t2, k2]; omega), v3, if_neg (by omega), v2 _ (by omega)]
    by_cases hiu : i < u
    · rw [if_pos (by omega)]
    · rw [if_neg (by omega), hz i (by omega) hi]
theorem pre_sem {D : Dk} {n b kp : Nat} (hc : D.cache = []) (hn : n < D.kept.length) (h0 : V D 0 = masterB ⟨n, b, 0, kp, true⟩) :
    Pow D (preQ ⟨n, b, 0, kp, true⟩ D) ∧ (preQ ⟨n, b, 0, kp, true⟩ D).2.kept.length = D.kept.length ∧
    (((preQ ⟨n, b, 0, kp, true⟩ D).1 = 0 ∧ (preQ ⟨n, b, 0, kp, true⟩ D).2.cache = [] ∧ V (preQ ⟨n, b, 0, kp, true⟩ D).2 0 = masterB ⟨n, b, 0, kp, false⟩ ∧ ∀ i, i < n → V (preQ ⟨n, b, 0, kp, true⟩ D).2 (1 + i) = zs) ∨
     ((preQ ⟨n, b, 0, kp, true⟩ D).1 = 8 ∧ (BInv (preQ ⟨n, b, 0, kp, true⟩ D).2 n b kp ∨ CInv (preQ ⟨n, b, 0, kp, true⟩ D).2 n b kp))) := by
  have e : preQ ⟨n, b, 0, kp, true⟩ D = stepsQ [wipeS n, syncS, writeS ⟨n, b, 0, kp, false⟩, syncS] D := rfl
  rw [e]
  exact four_sem hc hn (Nat.le_refl n) h0 (fun i h1 h2 => by omega)
end Go.Proofs.YtijbhgiigddjdaaGreat.Wl
end
