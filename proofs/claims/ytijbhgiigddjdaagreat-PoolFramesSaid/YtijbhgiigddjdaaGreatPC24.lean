/-
  Texts joined: Sm Sq. Conditions: each theorem's own.
-/
import Derived.Test.YtijbhgiigddjdaaGreatPC23
set_option linter.unusedVariables false
set_option linter.unusedSimpArgs false
set_option maxRecDepth 10000
set_option maxHeartbeats 16000000
section
namespace Go.Proofs.YtijbhgiigddjdaaGreat.Wl
open Go.K Cc

theorem NaN1 (h : Base) (x : Nat) : TrV Tryz.prog 161 [n64 x] h [] (.bool false) [] := by
 refine K.en Tryz.func161 fun F => ?_
 unfold n64
 (repeat' first | refine X.rq ?_ | refine X.rc ?_ ?_ <;> intro hc <;> try omega)
 rw [decide_eq_false (fun e => e rfl : ¬ ((x : Int) ≠ (x : Int)))]
 refine K.dl rfl (H' := []) rfl ⟨rfl, rfl, rfl⟩
theorem NaN2 (h : Base) (x : Nat) : TrV Tryz.prog 134 [n64 x] h [] (.bool false) [] := by
 refine K.en Tryz.func134 fun F => ?_
 unfold n64
 (repeat' first | refine X.rq ?_ | refine X.rc ?_ ?_ <;> intro hc <;> try omega)
 rw [decide_eq_false (fun e => e rfl : ¬ ((x : Int) ≠ (x : Int)))]
 refine K.dl rfl (H' := []) rfl ⟨rfl, rfl, rfl⟩
theorem Less (h : Base) (x y : Nat) : TrV Tryz.prog 133 [n64 x, n64 y] h [] (.bool (decide (x < y))) [] := by
 refine K.en Tryz.func133 fun F => ?_
 have hn := NaN1 h x
 unfold n64 at hn ⊢
 (repeat' first | refine X.rq ?_ | refine X.rc ?_ ?_ <;> intro hc <;> try omega)
 refine K.l_callV (Fx.cal rfl) rfl hn (K.pp [] rfl) rfl rfl ?_
 simp only [Go.K.nmz]
 rw [show decide (x < y) = decide ((x : Int) < (y : Int)) from decide_eq_decide.2 (by omega)]
 (repeat' first | refine X.rq ?_ | refine X.rc ?_ ?_ <;> intro hc <;> try omega)
 all_goals refine K.dl rfl (H' := []) rfl ⟨rfl, rfl, rfl⟩
def lbQ (l : List Nat) (x : Nat) : Nat := (l.takeWhile fun y => decide (y < x)).length
theorem lb_le (l : List Nat) (x : Nat) : lbQ l x ≤ l.length := (List.takeWhile_sublist _).length_le
theorem lb_iff {l : List Nat} {x : Nat} (hs : l.Pairwise (· < ·)) {m y : Nat} (hy : l[m]? = some y) : y < x ↔ m < lbQ l x := by
 unfold lbQ
 induction l generalizing m with
 | nil => simp at hy
 | cons a r ih =>
  obtain ⟨h1, h2⟩ := List.pairwise_cons.1 hs
  rw [List.takeWhile_cons]
  cases m with
  | zero =>
   cases hy
   by_cases h : y < x <;> simp [h]
  | succ m =>
   rw [List.getElem?_cons_succ] at hy
   have hay := h1 y (List.mem_of_getElem? hy)
   have := ih h2 hy
   by_cases h : a < x
   ·simp [h, this]
   ·simp [h]; omega
theorem lb_mem {l : List Nat} {x : Nat} (hs : l.Pairwise (· < ·)) : x ∈ l ↔ l[lbQ l x]? = some x := by
 constructor
 ·intro hx
  obtain ⟨m, hm⟩ := List.mem_iff_getElem?.1 hx
  have h1 : ¬ m < lbQ l x := fun h => Nat.lt_irrefl _ ((lb_iff hs hm).2 h)
  rcases Nat.lt_or_ge (lbQ l x) m with h2 | h2
  ·obtain ⟨y, hy⟩ : ∃ y, l[lbQ l x]? = some y := ⟨_, List.getElem?_eq_getElem (Nat.lt_trans h2 (List.getElem?_eq_some_iff.1 hm).1)⟩
   have h3 : ¬ y < x := fun h => Nat.lt_irrefl _ ((lb_iff hs hy).1 h)
   have h4 := List.pairwise_iff_getElem.1 hs (lbQ l x) m (List.getElem?_eq_some_iff.1 hy).1 (List.getElem?_eq_some_iff.1 hm).1 h2
   rw [(List.getElem?_eq_some_iff.1 hy).2, (List.getElem?_eq_some_iff.1 hm).2] at h4
   omega
  ·obtain rfl : m = lbQ l x := by omega
   exact hm
 ·exact fun h => List.mem_of_getElem? h
theorem BSearch (h : Base) (v : Value) (l : List Nat) (x : Nat) (hv : SL h 1 v (l.map fun n => [n64 n])) (hl : l.length ≤ 1000000000) (hs : l.Pairwise (· < ·)) :
  TrV Tryz.prog 96 [v, n64 x] h [] (.tuple #[.int .i64 (lbQ l x), .bool (decide (x ∈ l))]) [] := by
 obtain ⟨ao, ca, rfl⟩ := hv.len
 rw [List.length_map] at hv ⊢
 have hbl := lb_le l x
 refine K.en Tryz.func96 fun F => ?_
 simp only [List.nil_append]
 unfold n64
 (repeat' first | refine X.rq ?_ | refine X.rc ?_ ?_ <;> intro hc <;> try omega)
 refine K.c_loop (σ := Nat × Nat) (fun q => [(0, .slice ao l.length ca), (1, .int .u64 x), (6, .int .i64 l.length), (7, .int .i64 q.1), (8, .int .i64 q.2)]) (fun _ => h) (fun _ => F)
  (fun q => q.1 ≤ q.2 ∧ q.2 ≤ l.length ∧ q.1 ≤ lbQ l x ∧ lbQ l x ≤ q.2) (fun q => q.2 - q.1) (0, l.length) ⟨Nat.zero_le _, Nat.le_refl _, Nat.zero_le _, hbl⟩ (by repeat (first | exact K.Sub.nil _ | refine K.Sub.cons rfl ?_)) rfl rfl ?_
 rintro ⟨i, k⟩ ⟨hik, hkl, hlo, hhi⟩ KL hKL
 dsimp only at hik hkl hlo hhi ⊢
 by_cases hlt : i < k
 ·have hm : IntKind.i64.wrap (((i : Int) + (k : Int)).fdiv (2 ^ (min (1 : Int).toNat IntKind.u64.bits))) = (((i + k) / 2 : Nat) : Int) := by
   show IntKind.i64.wrap (((i : Int) + (k : Int)).fdiv 2) = _
   rw [Int.fdiv_eq_ediv_of_nonneg _ (by decide)]
   rw [K.wr_i64 (by omega) (by omega)]
   omega
  have hml : (i + k) / 2 < l.length := by omega
  have hmi : i ≤ (i + k) / 2 ∧ (i + k) / 2 < k := by omega
  obtain ⟨y, hy⟩ : ∃ y, l[(i + k) / 2]? = some y := ⟨_, List.getElem?_eq_getElem hml⟩
  have hc0 : (l.map fun n => [n64 n])[(((i + k) / 2 : Nat) : Int).toNat]? = some [n64 y] := by rw [Int.toNat_natCast, List.getElem?_map, hy]; rfl
  have hiff := lb_iff (x := x) hs hy
  (repeat' first | refine X.rq ?_ | refine X.rc ?_ ?_ <;> intro hc <;> try omega)
  rw [hm]
  generalize (i + k) / 2 = m at hml hmi hc0 hy hiff
  refine K.s_pureE (K.p_indexL hv (Fx.und rfl) (Fx.sz rfl) rfl rfl (by omega) hc0) rfl ?_
  rintro v2 ⟨b, o, rfl, hcel⟩
  refine K.s_pure (K.p_load (Fx.agg rfl) rfl (Cels.up hcel).1) rfl ?_
  (repeat' first | refine X.rq ?_ | refine X.rc ?_ ?_ <;> intro hc <;> try omega)
  refine K.l_callV (Fx.cal rfl) rfl (Less h y x) (K.pp [] rfl) rfl rfl ?_
  simp only [List.nil_append]
  by_cases hyx : y < x
  ·rw [decide_eq_true hyx]
   (repeat' first | refine X.rq ?_ | refine X.rc ?_ ?_ <;> intro hc <;> try omega)
   refine K.a_round hKL (m + 1, k) ⟨by dsimp only; omega, hkl, by dsimp only; omega, hhi⟩ (by repeat (first | exact K.Sub.nil _ | refine K.Sub.cons rfl ?_)) rfl rfl (by dsimp only; omega)
  ·rw [decide_eq_false hyx]
   (repeat' first | refine X.rq ?_ | refine X.rc ?_ ?_ <;> intro hc <;> try omega)
   refine K.a_round hKL (i, m) ⟨by dsimp only; omega, by dsimp only; omega, hlo, by dsimp only; omega⟩ (by repeat (first | exact K.Sub.nil _ | refine K.Sub.cons rfl ?_)) rfl rfl (by dsimp only; omega)
 ·obtain rfl : i = k := by omega
  obtain rfl : i = lbQ l x := by omega
  have hmem := lb_mem (x := x) hs
  by_cases hin : lbQ l x < l.length
  ·obtain ⟨y, hy⟩ : ∃ y, l[lbQ l x]? = some y := ⟨_, List.getElem?_eq_getElem hin⟩
   have hc0 : (l.map fun n => [n64 n])[((lbQ l x : Nat) : Int).toNat]? = some [n64 y] := by rw [Int.toNat_natCast, List.getElem?_map, hy]; rfl
   rw [hy] at hmem
   have hn := NaN2 h y
   unfold n64 at hn
   (repeat' first | refine X.rq ?_ | refine X.rc ?_ ?_ <;> intro hc <;> try omega)
   all_goals try (exfalso; omega)
   try refine K.s_take rfl rfl ?_
   refine K.s_pureE (K.p_indexL hv (Fx.und rfl) (Fx.sz rfl) rfl rfl (by omega) hc0) rfl ?_
   rintro v2 ⟨b, o, rfl, hcel⟩
   try refine K.s_take rfl rfl ?_
   refine K.s_pure (K.p_load (v := .int .u64 y) (Fx.agg rfl) rfl (Cels.up hcel).1) rfl ?_
   by_cases hyx : y = x
   ·subst hyx
    rw [decide_eq_true (hmem.2 rfl)]
    (repeat' first | refine X.rq ?_ | refine X.rc ?_ ?_ <;> intro hc <;> try omega)
    all_goals try (exfalso; omega)
    refine K.dl rfl (H' := []) rfl ⟨rfl, rfl, rfl⟩
   ·rw [decide_eq_false (fun h => hyx (by simpa using hmem.1 h))]
    (repeat' first | refine X.rq ?_ | refine X.rc ?_ ?_ <;> intro hc <;> try omega)
    all_goals try (exfalso; omega)
    try refine K.s_take rfl rfl ?_
    refine K.s_pureE (K.p_indexL hv (Fx.und rfl) (Fx.sz rfl) rfl rfl (by omega) hc0) rfl ?_
    rintro v3 ⟨b3, o3, rfl, hcel3⟩
    try refine K.s_take rfl rfl ?_
    refine K.s_pure (K.p_load (v := .int .u64 y) (Fx.agg rfl) rfl (Cels.up hcel3).1) rfl ?_
    (repeat' first | refine X.rq ?_ | refine X.rc ?_ ?_ <;> intro hc <;> try omega)
    try refine K.s_take rfl rfl ?_
    refine K.l_callV (Fx.cal rfl) rfl hn (K.pp [] rfl) rfl rfl ?_
    simp only [List.nil_append]
    (repeat' first | refine X.rq ?_ | refine X.rc ?_ ?_ <;> intro hc <;> try omega)
    refine K.dl rfl (H' := []) rfl ⟨rfl, rfl, rfl⟩
  ·have hno : x ∉ l := fun h => by
    have := hmem.1 h
    exact hin (List.getElem?_eq_some_iff.1 this).1
   rw [decide_eq_false hno]
   (repeat' first | refine X.rq ?_ | refine X.rc ?_ ?_ <;> intro hc <;> try omega)
   all_goals try (exfalso; omega)
   refine K.dl rfl (H' := []) rfl ⟨rfl, rfl, rfl⟩
end Go.Proofs.YtijbhgiigddjdaaGreat.Wl
end

section
namespace Go.Proofs.YtijbhgiigddjdaaGreat.Wl
open Go.K Cc

def secs (l : List UInt8) : Nat := (l.length + 509) / 510
def firstQ (L : Lg) : Nat := (L.durable - L.m.base) / 510
def flushQ (L : Lg) (D : Dk) : Int × Lg × Dk :=
 if L.durable = endQ L then (0, L, D) else
 if (flQ L.stream (secs L.stream - firstQ L) (firstQ L) D).1 ≠ 0 then ((flQ L.stream (secs L.stream - firstQ L) (firstQ L) D).1, L, (flQ L.stream (secs L.stream - firstQ L) (firstQ L) D).2) else
 if (syncQ (flQ L.stream (secs L.stream - firstQ L) (firstQ L) D).2).1 ≠ 0 then ((syncQ (flQ L.stream (secs L.stream - firstQ L) (firstQ L) D).2).1, L, (syncQ (flQ L.stream (secs L.stream - firstQ L) (firstQ L) D).2).2) else
 (0, { L with durable := endQ L }, (syncQ (flQ L.stream (secs L.stream - firstQ L) (firstQ L) D).2).2)
theorem Flush (h : Base) (p d : Nat) (W : LM) (L : Lg) (M : DM) (D : Dk) (ho : LgOk L) (hs : StrOk h W L.stream) (hk : DkOk D) (hr : D.cache.length + 20000 ≤ roomMax) :
  Tr Tryz.prog 65 [pv p] h (lgA p d W L ++ dkA d M D) (fun u h' H' => u = .int .i64 (flushQ L D).1 ∧ ∃ M', H' = lgA p d W (flushQ L D).2.1 ++ dkA d M' (flushQ L D).2.2) := by
 have hno := LNone h p d W L
 have hen := LEnd h p d W L ho hs
 have hmn := ho.mas.n
 have hdu := ho.dur
 have hba := ho.base
 have hsl := ho.str
 unfold lastLSN at hba
 obtain ⟨so, sc, hsv⟩ := hs.len
 obtain ⟨sv, sA, ar, kr⟩ := W
 dsimp only at hsv
 subst hsv
 obtain ⟨f0, hf0⟩ : ∃ f0, f0 = firstQ L := ⟨_, rfl⟩
 obtain ⟨en, hen2⟩ : ∃ en, en = endQ L := ⟨_, rfl⟩
 have hen3 : en = L.m.base + L.stream.length := hen2
 have hf1 : f0 = (L.durable - L.m.base) / 510 := hf0
 have hsec : secs L.stream = (L.stream.length + 509) / 510 := rfl
 refine K.en Tryz.func65 fun F => ?_
 (repeat' first | refine X.rq ?_ | refine X.rc ?_ ?_ <;> intro hc <;> try omega)
 refine K.l_callV (Fx.cal rfl) rfl hno (K.pp [0, 0, 0] rfl) rfl rfl ?_
 (repeat' first | refine X.rq ?_ | refine X.rc ?_ ?_ <;> intro hc <;> try omega)
 refine X.drawN ([blk p 138 (lgV d ⟨.slice so L.stream.length sc, sA, ar, kr⟩ L)]) [] (.pu 0 (.pu 1 (.pu 2 (.pu 4 (.st 3 (.on 5 (.pu 6 .nil))))))) ?_
 refine X.u_mv ?_
 refine X.u_nc ?_
 refine X.u_fa ?_
 refine X.u_mv ?_
 refine X.s_ld ?_
 refine K.d_on rfl (fun KK hKK => ?_)
 refine K.l_callV (Fx.cal rfl) rfl hen (K.pp [0, 0, 0] rfl) rfl rfl ?_
 rw [← hen2]
 refine K.l_nil ?_
 refine X.onE hKK ?_
 refine X.u_beql ?_
 refine K.d_nil ?_
 unfold flushQ
 rw [← hen2, ← hf0]
 by_cases hd : L.durable = en
 ·rw [if_pos hd]
  (repeat' first | refine X.rq ?_ | refine X.rc ?_ ?_ <;> intro hc <;> try omega)
  all_goals try (exfalso; omega)
  exact K.dn (vs := [.int .i64 0]) rfl (K.Base.le.refl _) (H' := [_, _, _, _, _, _]) rfl ⟨rfl, M, rfl⟩
 ·rw [if_neg hd]
  (repeat' first | refine X.rq ?_ | refine X.rc ?_ ?_ <;> intro hc <;> try omega)
  all_goals try (exfalso; omega)
  refine X.drawN ([blk p 138 (lgV d ⟨.slice so L.stream.length sc, sA, ar, kr⟩ L)]) [] (.pu 0 (.pu 1 (.pu 2 (.pu 4 (.pu 5 (.pu 6 (.pu 7 (.st 3 (.st 8 (.pu 9 (.pu 10 (.pu 11 (.pu 12 .nil))))))))))))) ?_
  refine X.u_mv ?_
  refine X.u_nc ?_
  refine X.u_fa ?_
  refine X.u_mv ?_
  refine X.u_nc ?_
  refine X.u_fa ?_
  refine X.u_fa ?_
  refine X.s_ld ?_
  refine X.s_ld ?_
  refine X.u_bsub ?_
  refine X.u_cv ?_
  refine X.u_bquo ?_
  refine X.u_sg ?_
  refine K.d_nil ?_
  rw [show ((L.durable : Int) - (L.m.base : Int)) / 510 = (f0 : Int) by omega]
  (repeat' first | refine X.rq ?_ | refine X.rc ?_ ?_ <;> intro hc <;> try omega)
  refine K.c_loop (σ := SpS) (fun q => [(0, pv p), (4, .int .i64 q.j)]) (fun q => q.hb) (fun q => (lgA p d ⟨.slice so L.stream.length sc, sA, ar, kr⟩ L ++ dkA d q.M q.D) ++ F)
   (fun q => q.j ≤ secs L.stream ∧ h.le q.hb ∧ DkOk q.D ∧ q.D.cache.length + (secs L.stream - q.j) + 1000 ≤ roomMax ∧ flQ L.stream (secs L.stream - f0) f0 D = flQ L.stream (secs L.stream - q.j) q.j q.D) (fun q => secs L.stream - q.j) ⟨f0, h, M, D⟩ ⟨by dsimp only; omega, K.Base.le.refl _, hk, by dsimp only; omega, rfl⟩ (by repeat (first | exact K.Sub.nil _ | refine K.Sub.cons rfl ?_)) rfl rfl ?_
  rintro ⟨j, hb, M1, D1⟩ ⟨hj, hle, hk1, hr1, hq⟩ KL hKL
  dsimp only at hj hle hk1 hr1 hq ⊢
  have hs1 := hs.le hle
  rw [hq]
  by_cases hjl : j < secs L.stream
  ·obtain ⟨r, hre⟩ : ∃ r, secs L.stream - j = r + 1 := ⟨secs L.stream - j - 1, by omega⟩
   rw [hre, flQ] at hq ⊢
   obtain ⟨a1, a2, a3⟩ := write_ok hk1 (by omega) (1 + j : Nat) (secB L.stream j)
   unfold lgA lgV
   simp only [Go.K.cna]
   (repeat' first | refine X.rq ?_ | refine X.rc ?_ ?_ <;> intro hc <;> try omega)
   all_goals try (exfalso; omega)
   refine X.drawN ([blk p 138 [dv d, .int .i64 L.m.n, n64 L.m.base, n64 L.m.check, .int .u32 L.m.kept, .bool L.m.wiped, .slice so L.stream.length sc, bufV ar L.starts.length kr, n64 L.durable]]) [] (.pu 0 (.pu 1 (.pu 2 (.pu 4 (.pu 5 (.pu 6 (.pu 7 (.st 3 (.on 8 (.on 9 (.pu 10 .nil))))))))))) ?_
   refine X.u_mv ?_
   refine X.u_nc ?_
   refine X.u_fa ?_
   refine X.u_mv ?_
   refine X.u_badd ?_
   refine X.u_mv ?_
   refine X.u_mv ?_
   refine X.s_ld ?_
   refine K.d_on rfl (fun KK hKK => ?_)
   refine K.l_call (Fx.cal rfl) rfl (Sector hb p d ⟨.slice so L.stream.length sc, sA, ar, kr⟩ L j (by omega) (by omega) hs1) (K.pp [0, 0, 0] rfl) rfl ?_
   rintro u h2 H' le2 ⟨rfl, asx, csx, rfl, hbs⟩
   refine K.l_nil ?_
   refine X.onE hKK ?_
   refine K.d_on rfl (fun KK hKK => ?_)
   rw [show (1 : Int) + (j : Int) = ((1 + j : Nat) : Int) by omega]
   refine K.l_call (Fx.cal rfl) rfl (Write h2 d M1 D1 ((1 + j : Nat) : Int) _ (secB L.stream j) hk1 (by omega) (by omega) hbs (by rw [sec_len]; omega)) (K.pp [3, 3, 3] rfl) rfl ?_
   rintro u h3 H' le3 ⟨rfl, ac, cap, c, rfl⟩
   have le9 := le2.trans le3
   refine K.l_nil ?_
   refine X.onE hKK ?_
   refine X.u_sg ?_
   refine K.d_nil ?_
   have hle3 := hle.trans (le2.trans le3)
   by_cases hw : (writeQ D1 ((1 + j : Nat) : Int) (secB L.stream j)).1 = 0
   ·rw [if_neg (by omega)] at hq
    rw [hw]
    (repeat' first | refine X.rq ?_ | refine X.rc ?_ ?_ <;> intro hc <;> try omega)
    all_goals try (exfalso; omega)
    refine K.AT.perm (K.pp [3, 3, 3] rfl) ?_
    refine K.a_round hKL ⟨j + 1, h3, { M1 with ac := ac, cap := cap, c2 := c }, (writeQ D1 ((1 + j : Nat) : Int) (secB L.stream j)).2⟩ ⟨by dsimp only; omega, hle3, a1, by dsimp only; omega, by dsimp only; rw [show secs L.stream - (j + 1) = r by omega]; exact hq⟩ (by repeat (first | exact K.Sub.nil _ | refine K.Sub.cons rfl ?_)) rfl rfl (by dsimp only; omega)
   ·rw [if_pos hw, if_pos hw]
    (repeat' first | refine X.rq ?_ | refine X.rc ?_ ?_ <;> intro hc <;> try omega)
    all_goals try (exfalso; omega)
    refine K.AT.perm (K.pp [3, 3, 3] rfl) ?_
    exact K.dn (vs := [.int .i64 _]) rfl hle3 (H' := [_, _, _, _, _, _]) rfl ⟨rfl, { M1 with ac := ac, cap := cap, c2 := c }, rfl⟩
  ·obtain rfl : j = secs L.stream := by omega
   rw [Nat.sub_self, flQ, if_neg (fun h => h rfl)]
   unfold lgA lgV
   simp only [Go.K.cna]
   (repeat' first | refine X.rq ?_ | refine X.rc ?_ ?_ <;> intro hc <;> try omega)
   all_goals try (exfalso; omega)
   refine K.l_call (Fx.cal rfl) rfl (Sync hb d M1 D1 hk1) (K.pp [3, 3, 3] rfl) rfl ?_
   rintro u h3 H' le3 ⟨rfl, c, rfl⟩
   have hle3 := hle.trans le3
   by_cases hy : (syncQ D1).1 = 0
   ·rw [if_neg (by omega), hy]
    (repeat' first | refine X.rq ?_ | refine X.rc ?_ ?_ <;> intro hc <;> try omega)
    all_goals try (exfalso; omega)
    refine K.l_callV (Fx.cal rfl) rfl (LEnd h3 p d ⟨.slice so L.stream.length sc, sA, ar, kr⟩ L ho (hs.le hle3)) (K.pp [3, 3, 3] rfl) rfl rfl ?_
    rw [← hen2]
    unfold lgA lgV
    simp only [Go.K.cna]
    (repeat' first | refine X.rq ?_ | refine X.rc ?_ ?_ <;> intro hc <;> try omega)
    refine X.sto ?_
    simp only [Go.K.nmz]
    (repeat' first | refine X.rq ?_ | refine X.rc ?_ ?_ <;> intro hc <;> try omega)
    exact K.dn (vs := [.int .i64 0]) rfl hle3 (H' := [_, _, _, _, _, _]) rfl ⟨rfl, { M1 with c3 := c }, rfl⟩
   ·rw [if_pos hy]
    (repeat' first | refine X.rq ?_ | refine X.rc ?_ ?_ <;> intro hc <;> try omega)
    all_goals try (exfalso; omega)
    refine K.AT.perm (K.pp [3, 3, 3] rfl) ?_
    exact K.dn (vs := [.int .i64 _]) rfl hle3 (H' := [_, _, _, _, _, _]) rfl ⟨rfl, { M1 with c3 := c }, rfl⟩
end Go.Proofs.YtijbhgiigddjdaaGreat.Wl
end
