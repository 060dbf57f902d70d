/-
  Texts joined: Sl Sw. Conditions: each theorem's own.
-/
import Derived.Test.YtijbhgiigddjdaaGreatPC22
set_option linter.unusedVariables false
set_option linter.unusedSimpArgs false
set_option maxRecDepth 10000
set_option maxHeartbeats 16000000
section
namespace Go.Proofs.YtijbhgiigddjdaaGreat.Wl
open Go.K Cc

def mendQ (l : List UInt8) : List Sec → Nat → Dk → Int × Dk
 | [], _, D => if 0 < D.cache.length then syncQ D else (0, D)
 | o :: r, i, D => if secB l i = o then mendQ l r (i + 1) D else if (writeQ D (1 + i : Nat) (secB l i)).1 ≠ 0 then writeQ D (1 + i : Nat) (secB l i) else mendQ l r (i + 1) (writeQ D (1 + i : Nat) (secB l i)).2
theorem mend_ok (l : List UInt8) : ∀ (old : List Sec) (i : Nat) {D : Dk}, DkOk D → D.cache.length + old.length ≤ roomMax → DkOk (mendQ l old i D).2 ∧ (mendQ l old i D).2.cache.length ≤ D.cache.length + old.length ∧ (mendQ l old i D).2.kept.length = D.kept.length
 | [], i, D, h, hr => by
  rw [mendQ]
  split
  ·obtain ⟨a, b, c⟩ := sync_ok h
   exact ⟨a, Nat.le_trans b (Nat.le_add_right _ _), c⟩
  ·exact ⟨h, Nat.le_add_right _ _, rfl⟩
 | o :: r, i, D, h, hr => by
  rw [List.length_cons] at hr ⊢
  rw [mendQ]
  split
  ·obtain ⟨a, b, c⟩ := mend_ok l r (i + 1) h (by omega)
   exact ⟨a, by omega, c⟩
  ·obtain ⟨a, b, c⟩ := write_ok h (by omega) (1 + i : Nat) (secB l i)
   split
   ·exact ⟨a, by omega, c⟩
   ·obtain ⟨x, y, z⟩ := mend_ok l r (i + 1) a (by omega)
    exact ⟨x, by omega, z.trans c⟩
theorem Mend (h : Base) (p d : Nat) (W : LM) (L : Lg) (M : DM) (D : Dk) (v : Value) (old : List Sec) (hv : SL h 512 v (old.map seB)) (ho : ∀ s ∈ old, s.length = 512) (hol : old.length ≤ 8192) (hsl : L.stream.length ≤ 100000000) (hs : StrOk h W L.stream) (hk : DkOk D) (hr : D.cache.length + 10000 ≤ roomMax) :
  Tr Tryz.prog 59 [pv p, v] h (lgA p d W L ++ dkA d M D) (fun u h' H' => u = .int .i64 (mendQ L.stream old 0 D).1 ∧ ∃ M', H' = lgA p d W L ++ dkA d M' (mendQ L.stream old 0 D).2) := by
 obtain ⟨ao, ca, rfl⟩ := hv.len
 rw [List.length_map] at hv ⊢
 refine K.en Tryz.func59 fun F => ?_
 (repeat' first | refine X.rq ?_ | refine X.rc ?_ ?_ <;> intro hc <;> try omega)
 refine K.c_loop (σ := SpS) (fun q => [(0, pv p), (1, .slice ao old.length ca), (9, .int .i64 old.length), (10, .int .i64 q.j)]) (fun q => q.hb) (fun q => (lgA p d W L ++ dkA d q.M q.D) ++ F)
  (fun q => q.j ≤ old.length ∧ h.le q.hb ∧ DkOk q.D ∧ q.D.cache.length + (old.length - q.j) + 1000 ≤ roomMax ∧ mendQ L.stream old 0 D = mendQ L.stream (old.drop q.j) q.j q.D) (fun q => old.length - q.j) ⟨0, h, M, D⟩ ⟨Nat.zero_le _, K.Base.le.refl _, hk, by dsimp only; omega, rfl⟩ (by repeat (first | exact K.Sub.nil _ | refine K.Sub.cons rfl ?_)) rfl rfl ?_
 rintro ⟨j, hb, M1, D1⟩ ⟨hj, hle, hk1, hr1, hq⟩ KL hKL
 dsimp only at hj hle hk1 hr1 hq ⊢
 have hs1 := hs.le hle
 by_cases hjl : j < old.length
 ·obtain ⟨o, hoj⟩ : ∃ o, old[j]? = some o := ⟨_, List.getElem?_eq_getElem hjl⟩
  have hdr : old.drop j = o :: old.drop (j + 1) := by rw [List.drop_eq_getElem_cons hjl, (List.getElem?_eq_some_iff.1 hoj).2]
  rw [hdr, mendQ] at hq
  have ho5 := ho o (List.mem_of_getElem? hoj)
  have hoe : (old.map seB)[j]? = some (seB o) := by rw [List.getElem?_map, hoj]; rfl
  obtain ⟨bb, oo, rfl, hcel⟩ := (hv.le hle).at hoe
  obtain ⟨a1, a2, a3⟩ := write_ok hk1 (by omega) (1 + j : Nat) (secB L.stream j)
  (repeat' first | refine X.rq ?_ | refine X.rc ?_ ?_ <;> intro hc <;> try omega)
  refine K.l_call (Fx.cal rfl) rfl (Sector hb p d W L j (by omega) hsl hs1) (K.pp [0, 0, 0] rfl) rfl ?_
  rintro u h2 H' le2 ⟨rfl, asx, csx, rfl, hbs⟩
  have hbo : BV h2 (.slice (some ⟨bb, oo + (j : Int).toNat * 512, none⟩) 512 512) o := .inr ⟨bb, oo + (j : Int).toNat * 512, 512, by rw [ho5], by omega, by rw [Int.toNat_natCast]; exact Cels.le le2 hcel⟩
  (repeat' first | refine X.rq ?_ | refine X.rc ?_ ?_ <;> intro hc <;> try omega)
  refine K.s_pure (K.p_sliceAll (Fx.und rfl) (Fx.sz rfl) rfl) rfl ?_
  refine K.l_callV (Fx.cal rfl) rfl (Equal h2 _ _ _ _ hbs hbo) (K.pp [] rfl) rfl rfl ?_
  by_cases he : secB L.stream j = o
  ·rw [if_pos he] at hq
   rw [decide_eq_true he]
   (repeat' first | refine X.rq ?_ | refine X.rc ?_ ?_ <;> intro hc <;> try omega)
   refine K.a_round hKL ⟨j + 1, h2, M1, D1⟩ ⟨by dsimp only; omega, hle.trans le2, hk1, by dsimp only; omega, hq⟩ (by repeat (first | exact K.Sub.nil _ | refine K.Sub.cons rfl ?_)) rfl rfl (by dsimp only; omega)
  ·rw [if_neg he] at hq
   rw [decide_eq_false he]
   (repeat' first | refine X.rq ?_ | refine X.rc ?_ ?_ <;> intro hc <;> try omega)
   rw [show (1 : Int) + (j : Int) = ((1 + j : Nat) : Int) by omega]
   refine K.l_call (Fx.cal rfl) rfl (Write h2 d M1 D1 ((1 + j : Nat) : Int) _ (secB L.stream j) hk1 (by omega) (by omega) hbs (by rw [sec_len]; omega)) (K.pp [3, 3, 3] rfl) rfl ?_
   rintro u h3 H' le3 ⟨rfl, ac, cap, c, rfl⟩
   have hle3 := hle.trans (le2.trans le3)
   by_cases hw : (writeQ D1 ((1 + j : Nat) : Int) (secB L.stream j)).1 = 0
   ·rw [if_neg (by omega)] at hq
    rw [hw]
    (repeat' first | refine X.rq ?_ | refine X.rc ?_ ?_ <;> intro hc <;> try omega)
    all_goals try (exfalso; omega)
    refine K.AT.perm (K.pp [3, 3, 3] rfl) ?_
    refine K.a_round hKL ⟨j + 1, h3, { M1 with ac := ac, cap := cap, c2 := c }, (writeQ D1 ((1 + j : Nat) : Int) (secB L.stream j)).2⟩ ⟨by dsimp only; omega, hle3, a1, by dsimp only; omega, hq⟩ (by repeat (first | exact K.Sub.nil _ | refine K.Sub.cons rfl ?_)) rfl rfl (by dsimp only; omega)
   ·rw [if_pos hw] at hq
    (repeat' first | refine X.rq ?_ | refine X.rc ?_ ?_ <;> intro hc <;> try omega)
    all_goals try (exfalso; omega)
    refine K.AT.perm (K.pp [3, 3, 3] rfl) ?_
    exact K.done (vs := [.int .i64 (writeQ D1 ((1 + j : Nat) : Int) (secB L.stream j)).1]) (by first | exact Or.inl rfl | exact Or.inr rfl) rfl hle3 (H' := [_, _, _, _, _, _]) rfl ⟨by rw [hq]; rfl, { M1 with ac := ac, cap := cap, c2 := c }, by rw [hq]; rfl⟩
 ·obtain rfl : j = old.length := by omega
  rw [List.drop_of_length_le (Nat.le_refl _), mendQ] at hq
  have hpe := Pending hb d M1 D1
  (repeat' first | refine X.rq ?_ | refine X.rc ?_ ?_ <;> intro hc <;> try omega)
  refine K.l_callV (Fx.cal rfl) rfl hpe (K.pp [3, 3, 3] rfl) rfl rfl ?_
  by_cases hc : 0 < D1.cache.length
  ·rw [if_pos hc] at hq
   refine K.WL.perm (K.pp [3, 3, 3] rfl) ?_
   (repeat' first | refine X.rq ?_ | refine X.rc ?_ ?_ <;> intro hc <;> try omega)
   all_goals try (exfalso; omega)
   refine K.l_call (Fx.cal rfl) rfl (Sync hb d M1 D1 hk1) (K.pp [3, 3, 3] rfl) rfl ?_
   rintro u h3 H' le3 ⟨rfl, c, rfl⟩
   (repeat' first | refine X.rq ?_ | refine X.rc ?_ ?_ <;> intro hc <;> try omega)
   refine K.AT.perm (K.pp [3, 3, 3] rfl) ?_
   exact K.dn (vs := [.int .i64 (syncQ D1).1]) rfl (hle.trans le3) (H' := [_, _, _, _, _, _]) rfl ⟨by rw [hq]; rfl, { M1 with c3 := c }, by rw [hq]; rfl⟩
  ·rw [if_neg hc] at hq
   (repeat' first | refine X.rq ?_ | refine X.rc ?_ ?_ <;> intro hc <;> try omega)
   all_goals try (exfalso; omega)
   refine K.AT.perm (K.pp [3, 3, 3] rfl) ?_
   exact K.dn (vs := [.int .i64 0]) rfl hle (H' := [_, _, _, _, _, _]) rfl ⟨by rw [hq]; rfl, M1, by rw [hq]; rfl⟩
end Go.Proofs.YtijbhgiigddjdaaGreat.Wl
end

section
namespace Go.Proofs.YtijbhgiigddjdaaGreat.Wl
open Go.K Cc

def V (D : Dk) (i : Nat) : Sec := viewQ D.kept D.cache i
def Cand (D : Dk) (i : Nat) (s : Sec) : Prop := D.kept[i]? = some s ∨ (i, s) ∈ D.cache
def NoTrip (D : Dk) : Prop := D.dark = false ∧ D.trip = -1
structure Pow (D : Dk) (r : Int × Dk) : Prop where
 err : r.1 = 0 ∨ (r.1 = 8 ∧ r.2.dark = true)
 on : NoTrip D → r.1 = 0 ∧ NoTrip r.2
theorem Pow.trans {D : Dk} {r r' : Int × Dk} (h : Pow D r) (h' : Pow r.2 r') : Pow D r' := ⟨h'.err, fun hn => h'.on (h.on hn).2⟩
theorem goes_dark {D : Dk} (h : (goesQ D).1 = false) : (goesQ D).2.dark = true := by
 unfold goesQ at h ⊢
 split
 ·assumption
 ·rename_i h1
  rw [if_neg h1] at h
  split
  ·rfl
  ·rename_i h2
   rw [if_neg h2] at h
   split at h <;> cases h
theorem goes_on {D : Dk} (h : NoTrip D) : goesQ D = (true, D) := by
 unfold goesQ
 rw [if_neg (by rw [h.1]; decide), if_neg (by rw [h.2]; decide), if_neg (by rw [h.2]; decide)]
theorem Cand.of {D D' : Dk} (h1 : D'.kept = D.kept) (h2 : D'.cache = D.cache) {i : Nat} {s : Sec} (h : Cand D' i s) : Cand D i s := by
 unfold Cand at h ⊢; rw [← h1, ← h2]; exact h
theorem V.of {D D' : Dk} (h1 : D'.kept = D.kept) (h2 : D'.cache = D.cache) (i : Nat) : V D' i = V D i := by unfold V; rw [h1, h2]
theorem write_sem {D : Dk} {a : Nat} {b : Sec} (ha : a < D.kept.length) (hb : b.length = 512) :
  Pow D (writeQ D a b) ∧ (writeQ D a b).2.kept = D.kept ∧ (((writeQ D a b).1 = 0 ∧ (writeQ D a b).2.cache = D.cache ++ [(a, b)]) ∨ ((writeQ D a b).1 = 8 ∧ (writeQ D a b).2.cache = D.cache)) := by
 obtain ⟨g1, g2⟩ := goes_kept D
 unfold writeQ
 rw [if_neg (by omega), if_neg (by omega)]
 cases hg : (goesQ D).1 with
 | false =>
  rw [if_neg (by decide)]
  refine ⟨⟨.inr ⟨rfl, goes_dark hg⟩, fun hn => ?_⟩, g1, .inr ⟨rfl, g2⟩⟩
  rw [goes_on hn] at hg; cases hg
 | true =>
  rw [if_pos rfl, Int.toNat_natCast]
  refine ⟨⟨.inl rfl, fun hn => ⟨rfl, ?_⟩⟩, g1, .inl ⟨rfl, rfl⟩⟩
  rw [goes_on hn]; exact hn
theorem sync_sem (D : Dk) : Pow D (syncQ D) ∧ (((syncQ D).1 = 0 ∧ (syncQ D).2.kept = setL D.kept D.cache ∧ (syncQ D).2.cache = []) ∨ ((syncQ D).1 = 8 ∧ (syncQ D).2.kept = D.kept ∧ (syncQ D).2.cache = D.cache)) := by
 obtain ⟨g1, g2⟩ := goes_kept D
 unfold syncQ
 cases hg : (goesQ D).1 with
 | false =>
  rw [if_neg (by decide)]
  refine ⟨⟨.inr ⟨rfl, goes_dark hg⟩, fun hn => ?_⟩, .inr ⟨rfl, g1, g2⟩⟩
  rw [goes_on hn] at hg; cases hg
 | true =>
  rw [if_pos rfl]
  refine ⟨⟨.inl rfl, fun hn => ⟨rfl, ?_⟩⟩, .inl ⟨rfl, rfl, rfl⟩⟩
  rw [goes_on hn]; exact hn
theorem read_sem {D : Dk} {a : Nat} (ha : a < D.kept.length) : (readQ D a).2.kept = D.kept ∧ (readQ D a).2.cache = D.cache ∧ (((readQ D a).1 = .ok (V D a) ∧ (NoTrip D → NoTrip (readQ D a).2)) ∨ ((readQ D a).1 = .error 8 ∧ (readQ D a).2.dark = true ∧ ¬ NoTrip D)) := by
 obtain ⟨g1, g2⟩ := goes_kept D
 unfold readQ
 rw [if_neg (by omega)]
 cases hg : (goesQ D).1 with
 | false =>
  rw [if_neg (by decide)]
  exact ⟨g1, g2, .inr ⟨rfl, goes_dark hg, fun hn => by rw [goes_on hn] at hg; cases hg⟩⟩
 | true =>
  rw [if_pos rfl, Int.toNat_natCast]
  exact ⟨g1, g2, .inl ⟨rfl, fun hn => by rw [goes_on hn]; exact hn⟩⟩
theorem fold_view (i : Nat) : ∀ (l : List Loo) (x : Sec), l.foldl (fun x l => if l.1 = i then l.2 else x) x = x ∨ (i, l.foldl (fun x l => if l.1 = i then l.2 else x) x) ∈ l
 | [], x => .inl rfl
 | y :: l, x => by
  rw [List.foldl_cons]
  rcases fold_view i l (if y.1 = i then y.2 else x) with h | h
  ·rw [h]
   split
   ·rename_i hy; exact .inr (by rw [← hy]; exact List.mem_cons_self ..)
   ·exact .inl rfl
  ·exact .inr (List.mem_cons_of_mem _ h)
theorem view_cand {D : Dk} {i : Nat} (hi : i < D.kept.length) : Cand D i (V D i) := by
 unfold Cand V viewQ
 rcases fold_view i D.cache (D.kept.getD i []) with h | h
 ·rw [h, List.getD_eq_getElem?_getD, List.getElem?_eq_getElem hi]; exact .inl rfl
 ·exact .inr h
theorem set_view (kept : List Sec) (i : Nat) (hi : i < kept.length) : ∀ cache : List Loo, (setL kept cache)[i]? = some (viewQ kept cache i) := fun cache => by
 obtain ⟨l, rfl⟩ : ∃ l, cache = l.reverse := ⟨cache.reverse, by simp⟩
 induction l with
 | nil => show kept[i]? = some (kept.getD i []); rw [List.getD_eq_getElem?_getD, List.getElem?_eq_getElem hi]; rfl
 | cons x l ih =>
  rw [List.reverse_cons, setL_snoc, view_snoc]
  by_cases hx : x.1 = i
  ·rw [if_pos hx, hx, List.getElem?_set_self (by rw [setL_len]; exact hi)]
  ·rw [if_neg hx, List.getElem?_set_ne hx, ih]
theorem set_cand (kept : List Sec) (i : Nat) (s : Sec) : ∀ cache : List Loo, (setL kept cache)[i]? = some s → kept[i]? = some s ∨ (i, s) ∈ cache := fun cache => by
 obtain ⟨l, rfl⟩ : ∃ l, cache = l.reverse := ⟨cache.reverse, by simp⟩
 induction l with
 | nil => exact fun h => .inl h
 | cons x l ih =>
  intro h
  rw [List.reverse_cons, setL_snoc] at h
  rw [List.reverse_cons]
  by_cases hx : x.1 = i
  ·have hlt : i < (setL kept l.reverse).length := by have := (List.getElem?_eq_some_iff.1 h).1; rwa [List.length_set] at this
   rw [hx, List.getElem?_set_self hlt] at h
   cases h
   exact .inr (List.mem_append_right _ (by rw [← hx]; exact List.mem_singleton.2 rfl))
  ·rw [List.getElem?_set_ne hx] at h
   rcases ih h with h | h
   ·exact .inl h
   ·exact .inr (List.mem_append_left _ h)
theorem sync_cand {D : Dk} {i : Nat} {s : Sec} (h : Cand (syncQ D).2 i s) : Cand D i s := by
 rcases (sync_sem D).2 with ⟨_, h1, h2⟩ | ⟨_, h1, h2⟩
 ·unfold Cand at h
  rw [h1, h2] at h
  rcases h with h | h
  ·exact set_cand _ _ _ _ h
  ·cases h
 ·exact h.of h1 h2
theorem sync_view {D : Dk} {i : Nat} (hi : i < D.kept.length) : V (syncQ D).2 i = V D i := by
 rcases (sync_sem D).2 with ⟨_, h1, h2⟩ | ⟨_, h1, h2⟩
 ·unfold V
  rw [h1, h2]
  have := set_view D.kept i hi D.cache
  show (setL D.kept D.cache).getD i [] = _
  rw [List.getD_eq_getElem?_getD, this]; rfl
 ·exact V.of h1 h2 i
theorem write_cand {D : Dk} {a : Nat} {b : Sec} (ha : a < D.kept.length) (hb : b.length = 512) {i : Nat} {s : Sec} (h : Cand (writeQ D a b).2 i s) : Cand D i s ∨ (i = a ∧ s = b) := by
 obtain ⟨_, h1, h2⟩ := write_sem ha hb
 unfold Cand at h ⊢
 rw [h1] at h
 rcases h with h | h
 ·exact .inl (.inl h)
 ·rcases h2 with ⟨_, e⟩ | ⟨_, e⟩
  ·rw [e] at h
   rcases List.mem_append.1 h with h | h
   ·exact .inl (.inr h)
   ·cases List.mem_singleton.1 h; exact .inr ⟨rfl, rfl⟩
  ·rw [e] at h; exact .inl (.inr h)
theorem write_view {D : Dk} {a : Nat} {b : Sec} (ha : a < D.kept.length) (hb : b.length = 512) (h0 : (writeQ D a b).1 = 0) (i : Nat) : V (writeQ D a b).2 i = if a = i then b else V D i := by
 obtain ⟨_, h1, h2⟩ := write_sem ha hb
 rcases h2 with ⟨_, e⟩ | ⟨e8, e⟩
 ·unfold V
  rw [h1, e, view_snoc]
 ·omega
structure Ran (D : Dk) (r : Int × Dk) (f : Nat → Sec) (i n : Nat) : Prop where
 pow : Pow D r
 kept : r.2.kept = D.kept
 cand : ∀ j s, Cand r.2 j s → Cand D j s ∨ (i ≤ j ∧ j < i + n ∧ s = f j)
 view : r.1 = 0 → ∀ j, V r.2 j = if i ≤ j ∧ j < i + n then f j else V D j
theorem ran_zero (D : Dk) (f : Nat → Sec) (i : Nat) : Ran D (0, D) f i 0 := ⟨⟨.inl rfl, fun h => ⟨rfl, h⟩⟩, rfl, fun j s h => .inl h, fun _ j => by rw [if_neg (by omega)]⟩
theorem ran_succ {D : Dk} {f : Nat → Sec} {i n : Nat} {r : Int × Dk} (hi : i < D.kept.length) (hf : (f i).length = 512) (hr : (writeQ D i (f i)).1 = 0 → Ran (writeQ D i (f i)).2 r f (i + 1) n) :
  Ran D (if (writeQ D i (f i)).1 ≠ 0 then writeQ D i (f i) else r) f i (n + 1) := by
 obtain ⟨hp, hk, hc⟩ := write_sem hi hf
 by_cases h0 : (writeQ D i (f i)).1 = 0
 ·rw [if_neg (by omega)]
  have hr := hr h0
  refine ⟨hp.trans hr.pow, hr.kept.trans hk, fun j s h => ?_, fun e j => ?_⟩
  ·rcases hr.cand j s h with h | ⟨a, b, c⟩
   ·rcases write_cand hi hf h with h | ⟨rfl, rfl⟩
    ·exact .inl h
    ·exact .inr ⟨Nat.le_refl _, by omega, rfl⟩
   ·exact .inr ⟨by omega, by omega, c⟩
  ·rw [hr.view e j]
   by_cases hj : i + 1 ≤ j ∧ j < i + 1 + n
   ·rw [if_pos hj, if_pos (by omega)]
   ·rw [if_neg hj, write_view hi hf h0]
    by_cases hji : i = j
    ·subst hji; rw [if_pos rfl, if_pos (by omega)]
    ·rw [if_neg hji, if_neg (by omega)]
 ·rw [if_pos h0]
  refine ⟨hp, hk, fun j s h => ?_, fun e => absurd e h0⟩
  rcases write_cand hi hf h with h | ⟨rfl, rfl⟩
  ·exact .inl h
  ·exact .inr ⟨Nat.le_refl _, by omega, rfl⟩
theorem wipe_ran : ∀ (n i : Nat) {D : Dk}, 1 + i + n ≤ D.kept.length → Ran D (wipeQ n i D) (fun _ => zs) (1 + i) n
 | 0, i, D, h => by rw [wipeQ]; exact ran_zero D _ _
 | n + 1, i, D, h => by
  rw [wipeQ]
  refine ran_succ (f := fun _ => zs) (by omega) zs_len fun _ => ?_
  have := wipe_ran n (i + 1) (D := (writeQ D ((1 + i : Nat) : Int) zs).2) (by rw [(write_sem (by omega) zs_len).2.1]; omega)
  rwa [show 1 + (i + 1) = 1 + i + 1 by omega] at this
def flQ (l : List UInt8) : Nat → Nat → Dk → Int × Dk
 | 0, _, D => (0, D)
 | k + 1, i, D => if (writeQ D (1 + i : Nat) (secB l i)).1 ≠ 0 then writeQ D (1 + i : Nat) (secB l i) else flQ l k (i + 1) (writeQ D (1 + i : Nat) (secB l i)).2
theorem fl_ok (l : List UInt8) : ∀ (k i : Nat) {D : Dk}, DkOk D → D.cache.length + k ≤ roomMax → DkOk (flQ l k i D).2 ∧ (flQ l k i D).2.cache.length ≤ D.cache.length + k ∧ (flQ l k i D).2.kept.length = D.kept.length
 | 0, i, D, h, hr => ⟨h, Nat.le_refl _, rfl⟩
 | k + 1, i, D, h, hr => by
  obtain ⟨a, b, c⟩ := write_ok h (by omega) (1 + i : Nat) (secB l i)
  rw [flQ]
  split
  ·exact ⟨a, by omega, c⟩
  ·obtain ⟨x, y, z⟩ := fl_ok l k (i + 1) a (by omega)
   exact ⟨x, by omega, z.trans c⟩
theorem fl_ran (l : List UInt8) : ∀ (n i : Nat) {D : Dk}, 1 + i + n ≤ D.kept.length → Ran D (flQ l n i D) (fun j => secB l (j - 1)) (1 + i) n
 | 0, i, D, h => by rw [flQ]; exact ran_zero D _ _
 | n + 1, i, D, h => by
  have e : secB l i = (fun j => secB l (j - 1)) (1 + i) := by dsimp only; rw [Nat.add_sub_cancel_left]
  rw [flQ, e]
  refine ran_succ (f := fun j => secB l (j - 1)) (by omega) (sec_len _ _) fun _ => ?_
  have := fl_ran l n (i + 1) (D := (writeQ D ((1 + i : Nat) : Int) (secB l (1 + i - 1))).2) (by rw [(write_sem (by omega) (sec_len _ _)).2.1]; omega)
  rwa [show 1 + (i + 1) = 1 + i + 1 by omega] at this
theorem cand_kept {D : Dk} (h : D.cache = []) {i : Nat} {s : Sec} : Cand D i s → D.kept[i]? = some s := fun hc => by
 rcases hc with h1 | h1
 ·exact h1
 ·rw [h] at h1; cases h1
theorem view_kept {D : Dk} (h : D.cache = []) {i : Nat} (hi : i < D.kept.length) : D.kept[i]? = some (V D i) := cand_kept h (view_cand hi)
end Go.Proofs.YtijbhgiigddjdaaGreat.Wl
end
