/-
  Texts joined: Sl Sm. Conditions: each theorem's own.
-/
import Derived.Test.YtmcdaegaopfihaaGreatY34
section
namespace Go.Proofs.YtmcdaegaopfihaaGreat.Wl
open Go Go.K Go.Proofs Go.Proofs.YtmcdaegaopfihaaGreat Go.Proofs.YtmcdaegaopfihaaGreat.Cc
set_option linter.unusedVariables false
set_option linter.unusedSimpArgs false
set_option maxRecDepth 10000

def mendQ (l : List UInt8) : List Sec → Nat → Dk → Int × Dk
 | [], _, D => if 0 < D.cache.length then syncQ D else (0, D)
 | o :: r, i, D => if secB l i = o then mendQ l r (i + 1) D else if (writeQ D (1 + i : Nat) (secB l i)).1 ≠ 0 then writeQ D (1 + i : Nat) (secB l i) else mendQ l r (i + 1) (writeQ D (1 + i : Nat) (secB l i)).2
theorem mend_ok (l : List UInt8) : ∀ (old : List Sec) (i : Nat) {D : Dk}, DkOk D → D.cache.length + old.length ≤ roomMax → DkOk (mendQ l old i D).2 ∧ (mendQ l old i D).2.cache.length ≤ D.cache.length + old.length ∧ (mendQ l old i D).2.kept.length = D.kept.length
 | [], i, D, h, hr => by
  rw [mendQ]
  split
  ·obtain ⟨a, b, c⟩ := sync_ok h
   exact ⟨a, Nat.le_trans b (Nat.le_add_right _ _), c⟩
  ·exact ⟨h, Nat.le_add_right _ _, rfl⟩
 | o :: r, i, D, h, hr => by
  rw [List.length_cons] at hr ⊢
  rw [mendQ]
  split
  ·obtain ⟨a, b, c⟩ := mend_ok l r (i + 1) h (by omega)
   exact ⟨a, by omega, c⟩
  ·obtain ⟨a, b, c⟩ := write_ok h (by omega) (1 + i : Nat) (secB l i)
   split
   ·exact ⟨a, by omega, c⟩
   ·obtain ⟨x, y, z⟩ := mend_ok l r (i + 1) a (by omega)
    exact ⟨x, by omega, z.trans c⟩
set_option maxHeartbeats 2000000 in
theorem Mend (h : Base) (p d : Nat) (W : LM) (L : Lg) (M : DM) (D : Dk) (v : Value) (old : List Sec) (hv : SL h 512 v (old.map seB)) (ho : ∀ s ∈ old, s.length = 512) (hol : old.length ≤ 8192) (hsl : L.stream.length ≤ 100000000) (hs : StrOk h W L.stream) (hk : DkOk D) (hr : D.cache.length + 10000 ≤ roomMax) :
  Tr Tryz.prog 44 [pv p, v] h (lgA p d W L ++ dkA d M D) (fun u h' H' => u = .int .i64 (mendQ L.stream old 0 D).1 ∧ ∃ M', H' = lgA p d W L ++ dkA d M' (mendQ L.stream old 0 D).2) := by
 obtain ⟨ao, ca, rfl⟩ := hv.len
 rw [List.length_map] at hv ⊢
 refine K.enter Tryz.func44 rfl (Nat.le_of_ble_eq_true rfl) (fun F => ?_)
 (repeat' first | refine X.rq ?_ | refine X.rc ?_ ?_ <;> intro hc <;> try omega)
 refine K.c_loop (σ := SpS) (fun q => [(0, pv p), (1, .slice ao old.length ca), (9, .int .i64 old.length), (10, .int .i64 q.j)]) (fun q => q.hb) (fun q => (lgA p d W L ++ dkA d q.M q.D) ++ F)
  (fun q => q.j ≤ old.length ∧ h.le q.hb ∧ DkOk q.D ∧ q.D.cache.length + (old.length - q.j) + 1000 ≤ roomMax ∧ mendQ L.stream old 0 D = mendQ L.stream (old.drop q.j) q.j q.D) (fun q => old.length - q.j) ⟨0, h, M, D⟩ ⟨Nat.zero_le _, K.Base.le.refl _, hk, by dsimp only; omega, rfl⟩ (by repeat (first | exact K.Sub.nil _ | refine K.Sub.cons rfl ?_)) rfl rfl ?_
 rintro ⟨j, hb, M1, D1⟩ ⟨hj, hle, hk1, hr1, hq⟩ KL hKL
 dsimp only at hj hle hk1 hr1 hq ⊢
 have hs1 := hs.le hle
 by_cases hjl : j < old.length
 ·obtain ⟨o, hoj⟩ : ∃ o, old[j]? = some o := ⟨_, List.getElem?_eq_getElem hjl⟩
  have hdr : old.drop j = o :: old.drop (j + 1) := by rw [List.drop_eq_getElem_cons hjl, (List.getElem?_eq_some_iff.1 hoj).2]
  rw [hdr, mendQ] at hq
  have ho5 := ho o (List.mem_of_getElem? hoj)
  have hoe : (old.map seB)[j]? = some (seB o) := by rw [List.getElem?_map, hoj]; rfl
  obtain ⟨bb, oo, rfl, hcel⟩ := (hv.le hle).at hoe
  obtain ⟨a1, a2, a3⟩ := write_ok hk1 (by omega) (1 + j : Nat) (secB L.stream j)
  (repeat' first | refine X.rq ?_ | refine X.rc ?_ ?_ <;> intro hc <;> try omega)
  refine K.l_call (Fx.cal rfl) rfl (Sector hb p d W L j (by omega) hsl hs1) (K.pp [0, 0, 0] rfl) rfl ?_
  rintro u h2 H' le2 ⟨rfl, asx, csx, rfl, hbs⟩
  have hbo : BV h2 (.slice (some ⟨bb, oo + (j : Int).toNat * 512, none⟩) 512 512) o := .inr ⟨bb, oo + (j : Int).toNat * 512, 512, by rw [ho5], by omega, by rw [Int.toNat_natCast]; exact Cels.le le2 hcel⟩
  (repeat' first | refine X.rq ?_ | refine X.rc ?_ ?_ <;> intro hc <;> try omega)
  refine K.s_pure (K.p_sliceAll (Fx.und rfl) (Fx.sz rfl) rfl) rfl ?_
  refine K.l_callV (Fx.cal rfl) rfl (Equal h2 _ _ _ _ hbs hbo) (K.pp [] rfl) rfl rfl ?_
  by_cases he : secB L.stream j = o
  ·rw [if_pos he] at hq
   rw [decide_eq_true he]
   (repeat' first | refine X.rq ?_ | refine X.rc ?_ ?_ <;> intro hc <;> try omega)
   refine K.a_round hKL ⟨j + 1, h2, M1, D1⟩ ⟨by dsimp only; omega, hle.trans le2, hk1, by dsimp only; omega, hq⟩ (by repeat (first | exact K.Sub.nil _ | refine K.Sub.cons rfl ?_)) rfl rfl (by dsimp only; omega)
  ·rw [if_neg he] at hq
   rw [decide_eq_false he]
   (repeat' first | refine X.rq ?_ | refine X.rc ?_ ?_ <;> intro hc <;> try omega)
   rw [show (1 : Int) + (j : Int) = ((1 + j : Nat) : Int) by omega]
   refine K.l_call (Fx.cal rfl) rfl (Write h2 d M1 D1 ((1 + j : Nat) : Int) _ (secB L.stream j) hk1 (by omega) (by omega) hbs (by rw [sec_len]; omega)) (K.pp [3, 3, 3] rfl) rfl ?_
   rintro u h3 H' le3 ⟨rfl, ac, cap, c, rfl⟩
   have hle3 := hle.trans (le2.trans le3)
   by_cases hw : (writeQ D1 ((1 + j : Nat) : Int) (secB L.stream j)).1 = 0
   ·rw [if_neg (by omega)] at hq
    rw [hw]
    (repeat' first | refine X.rq ?_ | refine X.rc ?_ ?_ <;> intro hc <;> try omega)
    all_goals try (exfalso; omega)
    refine K.AT.perm (K.pp [3, 3, 3] rfl) ?_
    refine K.a_round hKL ⟨j + 1, h3, { M1 with ac := ac, cap := cap, c2 := c }, (writeQ D1 ((1 + j : Nat) : Int) (secB L.stream j)).2⟩ ⟨by dsimp only; omega, hle3, a1, by dsimp only; omega, hq⟩ (by repeat (first | exact K.Sub.nil _ | refine K.Sub.cons rfl ?_)) rfl rfl (by dsimp only; omega)
   ·rw [if_pos hw] at hq
    (repeat' first | refine X.rq ?_ | refine X.rc ?_ ?_ <;> intro hc <;> try omega)
    all_goals try (exfalso; omega)
    refine K.AT.perm (K.pp [3, 3, 3] rfl) ?_
    exact K.done (vs := [.int .i64 (writeQ D1 ((1 + j : Nat) : Int) (secB L.stream j)).1]) (by first | exact Or.inl rfl | exact Or.inr rfl) rfl hle3 (H' := [_, _, _, _, _, _]) rfl ⟨by rw [hq]; rfl, { M1 with ac := ac, cap := cap, c2 := c }, by rw [hq]; rfl⟩
 ·obtain rfl : j = old.length := by omega
  rw [List.drop_of_length_le (Nat.le_refl _), mendQ] at hq
  have hpe := Pending hb d M1 D1
  (repeat' first | refine X.rq ?_ | refine X.rc ?_ ?_ <;> intro hc <;> try omega)
  refine K.l_callV (Fx.cal rfl) rfl hpe (K.pp [3, 3, 3] rfl) rfl rfl ?_
  by_cases hc : 0 < D1.cache.length
  ·rw [if_pos hc] at hq
   refine K.WL.perm (K.pp [3, 3, 3] rfl) ?_
   (repeat' first | refine X.rq ?_ | refine X.rc ?_ ?_ <;> intro hc <;> try omega)
   all_goals try (exfalso; omega)
   refine K.l_call (Fx.cal rfl) rfl (Sync hb d M1 D1 hk1) (K.pp [3, 3, 3] rfl) rfl ?_
   rintro u h3 H' le3 ⟨rfl, c, rfl⟩
   (repeat' first | refine X.rq ?_ | refine X.rc ?_ ?_ <;> intro hc <;> try omega)
   refine K.AT.perm (K.pp [3, 3, 3] rfl) ?_
   exact K.done (vs := [.int .i64 (syncQ D1).1]) (by first | exact Or.inl rfl | exact Or.inr rfl) rfl (hle.trans le3) (H' := [_, _, _, _, _, _]) rfl ⟨by rw [hq]; rfl, { M1 with c3 := c }, by rw [hq]; rfl⟩
  ·rw [if_neg hc] at hq
   (repeat' first | refine X.rq ?_ | refine X.rc ?_ ?_ <;> intro hc <;> try omega)
   all_goals try (exfalso; omega)
   refine K.AT.perm (K.pp [3, 3, 3] rfl) ?_
   exact K.done (vs := [.int .i64 0]) (by first | exact Or.inl rfl | exact Or.inr rfl) rfl hle (H' := [_, _, _, _, _, _]) rfl ⟨by rw [hq]; rfl, M1, by rw [hq]; rfl⟩
end Go.Proofs.YtmcdaegaopfihaaGreat.Wl
end

section
namespace Go.Proofs.YtmcdaegaopfihaaGreat.Wl
open Go Go.K Go.Proofs Go.Proofs.YtmcdaegaopfihaaGreat Go.Proofs.YtmcdaegaopfihaaGreat.Cc
set_option linter.unusedVariables false
set_option linter.unusedSimpArgs false
set_option maxRecDepth 10000

theorem NaN1 (h : Base) (x : Nat) : TrV Tryz.prog 91 [n64 x] h [] (.bool false) [] := by
 refine K.enter Tryz.func91 rfl (Nat.le_of_ble_eq_true rfl) (fun F => ?_)
 unfold n64
 (repeat' first | refine X.rq ?_ | refine X.rc ?_ ?_ <;> intro hc <;> try omega)
 rw [decide_eq_false (fun e => e rfl : ¬ ((x : Int) ≠ (x : Int)))]
 refine K.done (by first | exact Or.inl rfl | exact Or.inr rfl) rfl (by first | exact K.Base.le.refl _ | assumption) (H' := []) rfl ⟨rfl, rfl, rfl⟩
theorem NaN2 (h : Base) (x : Nat) : TrV Tryz.prog 65 [n64 x] h [] (.bool false) [] := by
 refine K.enter Tryz.func65 rfl (Nat.le_of_ble_eq_true rfl) (fun F => ?_)
 unfold n64
 (repeat' first | refine X.rq ?_ | refine X.rc ?_ ?_ <;> intro hc <;> try omega)
 rw [decide_eq_false (fun e => e rfl : ¬ ((x : Int) ≠ (x : Int)))]
 refine K.done (by first | exact Or.inl rfl | exact Or.inr rfl) rfl (by first | exact K.Base.le.refl _ | assumption) (H' := []) rfl ⟨rfl, rfl, rfl⟩
theorem Less (h : Base) (x y : Nat) : TrV Tryz.prog 64 [n64 x, n64 y] h [] (.bool (decide (x < y))) [] := by
 refine K.enter Tryz.func64 rfl (Nat.le_of_ble_eq_true rfl) (fun F => ?_)
 have hn := NaN1 h x
 unfold n64 at hn ⊢
 (repeat' first | refine X.rq ?_ | refine X.rc ?_ ?_ <;> intro hc <;> try omega)
 refine K.l_callV (Fx.cal rfl) rfl hn (K.pp [] rfl) rfl rfl ?_
 simp only [Go.K.nmz]
 rw [show decide (x < y) = decide ((x : Int) < (y : Int)) from decide_eq_decide.2 (by omega)]
 (repeat' first | refine X.rq ?_ | refine X.rc ?_ ?_ <;> intro hc <;> try omega)
 all_goals refine K.done (by first | exact Or.inl rfl | exact Or.inr rfl) rfl (by first | exact K.Base.le.refl _ | assumption) (H' := []) rfl ⟨rfl, rfl, rfl⟩
def lbQ (l : List Nat) (x : Nat) : Nat := (l.takeWhile fun y => decide (y < x)).length
theorem lb_le (l : List Nat) (x : Nat) : lbQ l x ≤ l.length := (List.takeWhile_sublist _).length_le
theorem lb_iff {l : List Nat} {x : Nat} (hs : l.Pairwise (· < ·)) {m y : Nat} (hy : l[m]? = some y) : y < x ↔ m < lbQ l x := by
 unfold lbQ
 induction l generalizing m with
 | nil => simp at hy
 | cons a r ih =>
  obtain ⟨h1, h2⟩ := List.pairwise_cons.1 hs
  rw [List.takeWhile_cons]
  cases m with
  | zero =>
   cases hy
   by_cases h : y < x <;> simp [h]
  | succ m =>
   rw [List.getElem?_cons_succ] at hy
   have hay := h1 y (List.mem_of_getElem? hy)
   have := ih h2 hy
   by_cases h : a < x
   ·simp [h, this]
   ·simp [h]; omega
theorem lb_mem {l : List Nat} {x : Nat} (hs : l.Pairwise (· < ·)) : x ∈ l ↔ l[lbQ l x]? = some x := by
 constructor
 ·intro hx
  obtain ⟨m, hm⟩ := List.mem_iff_getElem?.1 hx
  have h1 : ¬ m < lbQ l x := fun h => Nat.lt_irrefl _ ((lb_iff hs hm).2 h)
  rcases Nat.lt_or_ge (lbQ l x) m with h2 | h2
  ·obtain ⟨y, hy⟩ : ∃ y, l[lbQ l x]? = some y := ⟨_, List.getElem?_eq_getElem (Nat.lt_trans h2 (List.getElem?_eq_some_iff.1 hm).1)⟩
   have h3 : ¬ y < x := fun h => Nat.lt_irrefl _ ((lb_iff hs hy).1 h)
   have h4 := List.pairwise_iff_getElem.1 hs (lbQ l x) m (List.getElem?_eq_some_iff.1 hy).1 (List.getElem?_eq_some_iff.1 hm).1 h2
   rw [(List.getElem?_eq_some_iff.1 hy).2, (List.getElem?_eq_some_iff.1 hm).2] at h4
   omega
  ·obtain rfl : m = lbQ l x := by omega
   exact hm
 ·exact fun h => List.mem_of_getElem? h
set_option maxHeartbeats 2000000 in
theorem BSearch (h : Base) (v : Value) (l : List Nat) (x : Nat) (hv : SL h 1 v (l.map fun n => [n64 n])) (hl : l.length ≤ 1000000000) (hs : l.Pairwise (· < ·)) :
  TrV Tryz.prog 37 [v, n64 x] h [] (.tuple #[.int .i64 (lbQ l x), .bool (decide (x ∈ l))]) [] := by
 obtain ⟨ao, ca, rfl⟩ := hv.len
 rw [List.length_map] at hv ⊢
 have hbl := lb_le l x
 refine K.enter Tryz.func37 rfl (Nat.le_of_ble_eq_true rfl) (fun F => ?_)
 simp only [List.nil_append]
 unfold n64
 (repeat' first | refine X.rq ?_ | refine X.rc ?_ ?_ <;> intro hc <;> try omega)
 refine K.c_loop (σ := Nat × Nat) (fun q => [(0, .slice ao l.length ca), (1, .int .u64 x), (6, .int .i64 l.length), (7, .int .i64 q.1), (8, .int .i64 q.2)]) (fun _ => h) (fun _ => F)
  (fun q => q.1 ≤ q.2 ∧ q.2 ≤ l.length ∧ q.1 ≤ lbQ l x ∧ lbQ l x ≤ q.2) (fun q => q.2 - q.1) (0, l.length) ⟨Nat.zero_le _, Nat.le_refl _, Nat.zero_le _, hbl⟩ (by repeat (first | exact K.Sub.nil _ | refine K.Sub.cons rfl ?_)) rfl rfl ?_
 rintro ⟨i, k⟩ ⟨hik, hkl, hlo, hhi⟩ KL hKL
 dsimp only at hik hkl hlo hhi ⊢
 by_cases hlt : i < k
 ·have hm : IntKind.i64.wrap (((i : Int) + (k : Int)).fdiv (2 ^ (min (1 : Int).toNat IntKind.u64.bits))) = (((i + k) / 2 : Nat) : Int) := by
   show IntKind.i64.wrap (((i : Int) + (k : Int)).fdiv 2) = _
   rw [Int.fdiv_eq_ediv_of_nonneg _ (by decide)]
   rw [K.wr_i64 (by omega) (by omega)]
   omega
  have hml : (i + k) / 2 < l.length := by omega
  have hmi : i ≤ (i + k) / 2 ∧ (i + k) / 2 < k := by omega
  obtain ⟨y, hy⟩ : ∃ y, l[(i + k) / 2]? = some y := ⟨_, List.getElem?_eq_getElem hml⟩
  have hc0 : (l.map fun n => [n64 n])[(((i + k) / 2 : Nat) : Int).toNat]? = some [n64 y] := by rw [Int.toNat_natCast, List.getElem?_map, hy]; rfl
  have hiff := lb_iff (x := x) hs hy
  (repeat' first | refine X.rq ?_ | refine X.rc ?_ ?_ <;> intro hc <;> try omega)
  rw [hm]
  generalize (i + k) / 2 = m at hml hmi hc0 hy hiff
  refine K.s_pureE (K.p_indexL hv (Fx.und rfl) (Fx.sz rfl) rfl rfl (by omega) hc0) rfl ?_
  rintro v2 ⟨b, o, rfl, hcel⟩
  refine K.s_pure (K.p_load (Fx.agg rfl) rfl (Cels.up hcel).1) rfl ?_
  (repeat' first | refine X.rq ?_ | refine X.rc ?_ ?_ <;> intro hc <;> try omega)
  refine K.l_callV (Fx.cal rfl) rfl (Less h y x) (K.pp [] rfl) rfl rfl ?_
  simp only [List.nil_append]
  by_cases hyx : y < x
  ·rw [decide_eq_true hyx]
   (repeat' first | refine X.rq ?_ | refine X.rc ?_ ?_ <;> intro hc <;> try omega)
   refine K.a_round hKL (m + 1, k) ⟨by dsimp only; omega, hkl, by dsimp only; omega, hhi⟩ (by repeat (first | exact K.Sub.nil _ | refine K.Sub.cons rfl ?_)) rfl rfl (by dsimp only; omega)
  ·rw [decide_eq_false hyx]
   (repeat' first | refine X.rq ?_ | refine X.rc ?_ ?_ <;> intro hc <;> try omega)
   refine K.a_round hKL (i, m) ⟨by dsimp only; omega, by dsimp only; omega, hlo, by dsimp only; omega⟩ (by repeat (first | exact K.Sub.nil _ | refine K.Sub.cons rfl ?_)) rfl rfl (by dsimp only; omega)
 ·obtain rfl : i = k := by omega
  obtain rfl : i = lbQ l x := by omega
  have hmem := lb_mem (x := x) hs
  by_cases hin : lbQ l x < l.length
  ·obtain ⟨y, hy⟩ : ∃ y, l[lbQ l x]? = some y := ⟨_, List.getElem?_eq_getElem hin⟩
   have hc0 : (l.map fun n => [n64 n])[((lbQ l x : Nat) : Int).toNat]? = some [n64 y] := by rw [Int.toNat_natCast, List.getElem?_map, hy]; rfl
   rw [hy] at hmem
   have hn := NaN2 h y
   unfold n64 at hn
   (repeat' first | refine X.rq ?_ | refine X.rc ?_ ?_ <;> intro hc <;> try omega)
   all_goals try (exfalso; omega)
   try refine K.s_take rfl rfl ?_
   refine K.s_pureE (K.p_indexL hv (Fx.und rfl) (Fx.sz rfl) rfl rfl (by omega) hc0) rfl ?_
   rintro v2 ⟨b, o, rfl, hcel⟩
   try refine K.s_take rfl rfl ?_
   refine K.s_pure (K.p_load (v := .int .u64 y) (Fx.agg rfl) rfl (Cels.up hcel).1) rfl ?_
   by_cases hyx : y = x
   ·subst hyx
    rw [decide_eq_true (hmem.2 rfl)]
    (repeat' first | refine X.rq ?_ | refine X.rc ?_ ?_ <;> intro hc <;> try omega)
    all_goals try (exfalso; omega)
    refine K.done (by first | exact Or.inl rfl | exact Or.inr rfl) rfl (by first | exact K.Base.le.refl _ | assumption) (H' := []) rfl ⟨rfl, rfl, rfl⟩
   ·rw [decide_eq_false (fun h => hyx (by simpa using hmem.1 h))]
    (repeat' first | refine X.rq ?_ | refine X.rc ?_ ?_ <;> intro hc <;> try omega)
    all_goals try (exfalso; omega)
    try refine K.s_take rfl rfl ?_
    refine K.s_pureE (K.p_indexL hv (Fx.und rfl) (Fx.sz rfl) rfl rfl (by omega) hc0) rfl ?_
    rintro v3 ⟨b3, o3, rfl, hcel3⟩
    try refine K.s_take rfl rfl ?_
    refine K.s_pure (K.p_load (v := .int .u64 y) (Fx.agg rfl) rfl (Cels.up hcel3).1) rfl ?_
    (repeat' first | refine X.rq ?_ | refine X.rc ?_ ?_ <;> intro hc <;> try omega)
    try refine K.s_take rfl rfl ?_
    refine K.l_callV (Fx.cal rfl) rfl hn (K.pp [] rfl) rfl rfl ?_
    simp only [List.nil_append]
    (repeat' first | refine X.rq ?_ | refine X.rc ?_ ?_ <;> intro hc <;> try omega)
    refine K.done (by first | exact Or.inl rfl | exact Or.inr rfl) rfl (by first | exact K.Base.le.refl _ | assumption) (H' := []) rfl ⟨rfl, rfl, rfl⟩
  ·have hno : x ∉ l := fun h => by
    have := hmem.1 h
    exact hin (List.getElem?_eq_some_iff.1 this).1
   rw [decide_eq_false hno]
   (repeat' first | refine X.rq ?_ | refine X.rc ?_ ?_ <;> intro hc <;> try omega)
   all_goals try (exfalso; omega)
   refine K.done (by first | exact Or.inl rfl | exact Or.inr rfl) rfl (by first | exact K.Base.le.refl _ | assumption) (H' := []) rfl ⟨rfl, rfl, rfl⟩
end Go.Proofs.YtmcdaegaopfihaaGreat.Wl
end
