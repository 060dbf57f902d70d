/-
 PoolFrames, walked. Conditions: each theorem's own.
-/
import Derived.Test.YtijbhgiigddjdaaGreatPC47
set_option linter.unusedVariables false
set_option linter.unusedSimpArgs false
set_option maxRecDepth 10000
set_option maxHeartbeats 16000000
namespace Go.Proofs.YtijbhgiigddjdaaGreat.Pl
open Go.K Pg Wl

theorem wrap_step (c : Int) (n : Nat) : IntKind.i64.wrap (IntKind.i64.wrap (c + n) + 1) = IntKind.i64.wrap (c + (n + 1 : Nat)) := by
 rw [IntKind.wrap_i64, IntKind.wrap_i64, IntKind.wrap_i64]
 omega
structure Fram (pages : Nat) (M0 MD : DM) (P : Po) (seen : List Bool) (n : Nat) : Prop where
 po : PoOk P
 len : seen.length = pages
 cnt : P.frs.length = n
 num : seen.countP id = n
 in_ : ∀ (k : Nat), seen[k]? = some true → ∃ x ∈ P.frs, x.n = k + 1
 out : ∀ (k : Nat), seen[k]? = some false → ∀ x ∈ P.frs, x.n ≠ k + 1
 c1 : n = 0 → MD = M0
 c2 : 0 < n → MD.c1 = IntKind.i64.wrap (M0.c1 + n)
 c3 : MD.c2 = M0.c2 ∧ MD.c3 = M0.c3
 dl : P.dl = []
 cln : ∀ x ∈ P.frs, x.fresh = false
theorem count_lt {l : List Bool} {k : Nat} (h : l[k]? = some false) : l.countP id < l.length := by
 rcases Nat.lt_or_ge (l.countP id) l.length with h1 | h1
 ·exact h1
 ·exfalso
  have h2 := List.countP_le_length (p := id) (l := l)
  have := List.countP_eq_length.1 (by omega : l.countP id = l.length) false (List.mem_of_getElem? h)
  cases this
theorem count_set : ∀ {l : List Bool} {k : Nat}, l[k]? = some false → (l.set k true).countP id = l.countP id + 1
 | [], _, h => by simp at h
 | b :: l, 0, h => by
  simp only [List.getElem?_cons_zero, Option.some.injEq] at h
  subst h
  rw [List.set_cons_zero]; simp
 | b :: l, k + 1, h => by
  have := count_set (l := l) (k := k) (by simpa using h)
  rw [List.set_cons_succ, List.countP_cons, List.countP_cons, this]; omega
def bRow (l : List Bool) : List (List Value) := l.map fun b => [.bool b]
theorem bRow_len (l : List Bool) : ∀ e ∈ bRow l, e.length = 1 := fun e he => by
 obtain ⟨b, _, rfl⟩ := List.mem_map.1 he
 rfl
theorem bRow_set (l : List Bool) (k : Nat) (b : Bool) : (bRow l).set k [.bool b] = bRow (l.set k b) := by
 unfold bRow
 rw [List.map_set]
theorem fram_get {pages frames : Nat} {M0 MD MD' : DM} {L L' : Lg} {D D' : Dk} {P P' : Po} {seen : List Bool} {n k : Nat} {b : Bool} {r : Except Int Pag} (hf : Fram pages M0 MD P seen n) (hb : seen[k]? = some b) (hp : pages ≤ frames) (hmo : P.most = frames)
  (hG : GetR L D P (k + 1) r P' L' D') (hin : hasQ L D (k + 1)) (hv : V D (L.m.n + (k + 1)) = zs) (hn : NoTrip D) (hL : LgOk L) (hk : DkOk D) (hr : D.cache.length + 20000 ≤ roomMax) (hk32 : k + 1 < 4294967296)
  (h1 : (∃ x ∈ P.frs, x.n = k + 1) → MD' = MD) (h2 : (∀ x ∈ P.frs, x.n ≠ k + 1) → P.frs.length < P.most → ∀ p, r = .ok p → MD' = readM MD) :
  L' = L ∧ D' = D ∧ (∃ p, r = .ok p) ∧ P'.most = frames ∧ Fram pages M0 MD' P' (seen.set k true) (if b = true then n else n + 1) := by
 obtain ⟨g1, g2, g3, g4, _⟩ := hG.ok hf.po hL hk hr hk32
 have hlt := (List.getElem?_eq_some_iff.1 hb).1
 cases b with
 | true =>
  obtain ⟨rfl, rfl, i, x, hx, hxn, rfl, rfl⟩ := get_hit hG hin (hf.in_ k hb)
  obtain rfl := h1 (hf.in_ k hb)
  have hs : seen.set k true = seen := by
   refine List.ext_getElem? fun j => ?_
   by_cases e : k = j
   ·subst e; rw [List.getElem?_set_self hlt, hb]
   ·rw [List.getElem?_set_ne e]
  have hmem : ∀ m : Nat, (∃ y ∈ (setP P i { x with used := true }).frs, y.n = m) ↔ ∃ y ∈ P.frs, y.n = m := fun m => by
   have e : (setP P i { x with used := true }).frs.map (·.n) = P.frs.map (·.n) := by
    show (P.frs.set i _).map _ = _
    refine List.ext_getElem? fun j => ?_
    rw [List.getElem?_map, List.getElem?_map, List.getElem?_set]
    split
    ·rename_i e; subst e; rw [if_pos (List.getElem?_eq_some_iff.1 hx).1, hx]; rfl
    ·rfl
   have : ∀ l : List Fr, (∃ y ∈ l, y.n = m) ↔ m ∈ l.map (·.n) := fun l => by simp [List.mem_map]
   rw [this, this, e]
  rw [if_pos rfl, hs]
  refine ⟨rfl, rfl, ⟨_, rfl⟩, hmo, g1, hf.len, ?_, hf.num, fun m hm => (hmem _).2 (hf.in_ m hm), fun m hm y hy e => ?_, hf.c1, hf.c2, hf.c3, hf.dl, fun y hy => ?_⟩
  ·show (P.frs.set i _).length = n
   rw [List.length_set]; exact hf.cnt
  ·obtain ⟨z, hz, e2⟩ := (hmem (m + 1)).1 ⟨y, hy, e⟩
   exact hf.out m hm z hz e2
  ·rcases List.mem_or_eq_of_mem_set hy with hy | rfl
   ·exact hf.cln y hy
   ·exact hf.cln x (List.mem_of_getElem? hx)
 | false =>
  have hno := hf.out k hb
  have hc := count_lt hb
  have h0 := hf.num
  have h3 := hf.cnt
  have h4 := hf.len
  have hlt2 : P.frs.length < P.most := by omega
  obtain ⟨rfl, rfl, hm⟩ := get_miss hG hin hno hlt2 hn
  rw [hv, show pageQ zs = ((⟨0, 0, 0, []⟩ : Pag), 0) from if_pos rfl] at hm
  rcases hm with ⟨h, _⟩ | ⟨_, rfl, y, hP', hy1, hy2, hy3, hy4⟩
  ·exact absurd rfl h
  obtain rfl := h2 hno hlt2 _ rfl
  have hfr : P'.frs = P.frs ++ [y] := by
   rw [hP']
   show (P.frs ++ [emptyF y.b (k + 1)]).set P.frs.length y = _
   rw [List.set_append_right _ _ (Nat.le_refl _), Nat.sub_self]
   rfl
  rw [if_neg (by decide)]
  refine ⟨rfl, rfl, ⟨_, rfl⟩, g4.trans hmo, g1, by rw [List.length_set]; exact h4, by rw [hfr, List.length_append, h3]; rfl, by rw [count_set hb, h0], fun m hm => ?_, fun m hm x hx => ?_, fun h => by omega, fun _ => ?_, hf.c3, g2.trans hf.dl, fun x hx => ?_⟩
  ·rw [List.getElem?_set] at hm
   by_cases hkm : k = m
   ·subst hkm
    exact ⟨y, by rw [hfr]; exact List.mem_append.2 (.inr (List.mem_singleton.2 rfl)), hy1⟩
   ·rw [if_neg hkm] at hm
    obtain ⟨x, hx, e⟩ := hf.in_ m hm
    exact ⟨x, by rw [hfr]; exact List.mem_append.2 (.inl hx), e⟩
  ·rw [List.getElem?_set] at hm
   by_cases hkm : k = m
   ·subst hkm
    rw [if_pos rfl, if_pos hlt] at hm; cases hm
   ·rw [if_neg hkm] at hm
    rw [hfr] at hx
    rcases List.mem_append.1 hx with hx | hx
    ·exact hf.out m hm x hx
    ·rw [List.mem_singleton.1 hx, hy1]; omega
  ·show IntKind.i64.wrap (MD.c1 + 1) = _
   by_cases hn0 : n = 0
   ·rw [hf.c1 hn0, hn0]; rfl
   ·rw [hf.c2 (by omega)]; exact wrap_step _ _
  ·rw [hfr] at hx
   rcases List.mem_append.1 hx with hx | hx
   ·exact hf.cln x hx
   ·rw [List.mem_singleton.1 hx]; exact hy3
theorem wrs_clean : ∀ (frs : List Fr) (L : Lg) (D : Dk), (∀ x ∈ frs, x.fresh = false) → (wrsQ frs L D).e = 0 ∧ (wrsQ frs L D).D = D ∧ (wrsQ frs L D).L = L
 | [], L, D, _ => ⟨rfl, rfl, rfl⟩
 | x :: r, L, D, h => by
  have hw : wrQ x L D = ⟨0, L, D, x⟩ := by unfold wrQ; rw [if_pos (h x (List.mem_cons_self ..))]
  obtain ⟨a, b, c⟩ := wrs_clean r L D fun y hy => h y (List.mem_cons_of_mem _ hy)
  rw [wrsQ, hw, if_neg (fun e => e rfl)]
  exact ⟨a, b, c⟩
structure FrS where
 i : Nat
 n : Nat
 seen : List Bool
 MD : DM
 P : Po
 A : Asrt
theorem PoolFramesW (h : Base) (pages frames : Int) (v : Value) (bl : List UInt8) (hpi : in64 pages) (hfi : in64 frames) (hb : BV h v bl) (hbl : bl.length ≤ 140737488351232) :
  Tr Tryz.prog 5 [.int .i64 pages, .int .i64 frames, v] h [] (fun u h' H' => u = .bool true ∧ H' = []) := by
 obtain ⟨ao, ca, rfl⟩ := hb.len
 refine K.en Tryz.func5 fun F => ?_
 simp only [List.nil_append]
 by_cases hg : 1 ≤ pages ∧ pages ≤ frames ∧ 8 ≤ frames ∧ frames ≤ 40 ∧ bl.length ≤ 200
 rotate_left
 ·(repeat' first | refine X.rq ?_ | refine X.rc ?_ ?_ <;> intro hc <;> try omega)
  all_goals try (exfalso; omega)
  all_goals
   refine K.l_call (Fx.cal rfl) rfl (QAlive h) (K.pp [] rfl) rfl ?_
   rintro u h' H' hle ⟨rfl, rfl⟩
   (repeat' first | refine X.rq ?_ | refine X.rc ?_ ?_ <;> intro hc <;> try omega)
   exact K.dn (vs := [.bool true]) rfl hle (H' := []) rfl ⟨rfl, rfl⟩
 obtain ⟨hp1, hpf, hf1, hf2, hb200⟩ := hg
 obtain ⟨p, rfl⟩ : ∃ k : Nat, pages = (k : Int) := ⟨pages.toNat, by omega⟩
 obtain ⟨f, rfl⟩ : ∃ k : Nat, frames = (k : Int) := ⟨frames.toNat, by omega⟩
 (repeat' first | refine X.rq ?_ | refine X.rc ?_ ?_ <;> intro hc <;> try omega)
 all_goals try (exfalso; omega)
 refine K.l_call (Fx.cal rfl) rfl (BBeg h p f (by omega) (by omega) (by omega) (by omega)) (K.pp [] rfl) rfl ?_
 rintro u h1 H' le1 ⟨s, d, l, q, bi, bf, bp, M0, D, A, rfl, ⟨hrun, hon, hln, hze⟩, hA, rfl⟩
 unfold begX stV
 simp only [Go.K.cna]
 refine K.WL.sel [2, 2, 2] rfl ?_
 simp only [Go.K.nmz]
 have hb1 := hb.le le1
 have o0 : LgOk L0 := hrun.lgOk
 have hca := hrun.cache
 have hpq : pagesQ L0 D = p := by unfold pagesQ; rw [hln]; show ((17 + p : Nat) : Int) - 1 - ((16 : Nat) : Int) = _; omega
 (repeat' first | refine X.rq ?_ | refine X.rc ?_ ?_ <;> intro hc <;> try omega)
 refine K.l_callV (Fx.cal rfl) rfl (BCounts hA) (K.pp [1] rfl) rfl rfl ?_
 simp only [Go.K.cna]
 simp only [Go.K.nmz]
 (repeat' first | refine X.rq ?_ | refine X.rc ?_ ?_ <;> intro hc <;> try omega)
 refine K.l_alloc (Fx.zr rfl) rfl rfl (fun B9 => ?_)
 refine X.stw ?_
 simp only [Go.K.nmz]
 (repeat' first | refine X.rq ?_ | refine X.rc ?_ ?_ <;> intro hc <;> try omega)
 refine K.l_makeSlice (m := p) (c := p) (Fx.und rfl) (Fx.sz rfl) (Fx.zr rfl) rfl (Fx.byt rfl) rfl rfl (Nat.le_refl _) (by omega) (by unfold maxLen; omega) rfl (fun bs => ?_)
 rw [made1 _ rfl, show List.replicate p [Value.bool false] = bRow (List.replicate p false) from by unfold bRow; rw [List.map_replicate]]
 (repeat' first | refine X.rq ?_ | refine X.rc ?_ ?_ <;> intro hc <;> try omega)
 refine K.WC.perm (K.pp [2, 2, 0, 0] rfl) ?_
 simp only [Go.K.nmz]
 have hfr0 : Fram p M0 M0 (newPo f) (List.replicate p false) 0 := ⟨newPoOk (by omega) (by omega), List.length_replicate, rfl, by rw [List.countP_replicate]; rfl, (fun k hk => by
  rw [List.getElem?_replicate] at hk
  split at hk <;> cases hk), (fun k _ x hx => by cases hx), fun _ => rfl, (fun h => by omega), ⟨rfl, rfl⟩, rfl, (fun x hx => by cases hx)⟩
 refine K.c_loop (σ := FrS) (fun x => [(0, .int .i64 p), (2, .slice ao bl.length ca), (7, pv s), (9, .pointer (some ⟨B9, 0, none⟩)), (10, bufV (some bs) p p), (11, .int .i64 x.n), (12, .int .i64 x.i)]) (fun _ => h1)
  (fun x => x.A :: blk s 35 (stV d l q bi bf bp (p + 1)) :: bufA 4 1 (some bs) p p (bRow x.seen).flatten :: blk B9 74 [.int .i64 M0.c1, .int .i64 M0.c2, .int .i64 M0.c3] :: F)
  (fun x => x.i ≤ bl.length ∧ PoolM h1 q d l L0 x.MD D x.P x.A ∧ x.P.most = f ∧ Fram p M0 x.MD x.P x.seen x.n) (fun x => bl.length - x.i) ⟨0, 0, List.replicate p false, M0, newPo f, A⟩ ⟨Nat.zero_le _, hA, rfl, hfr0⟩ (by repeat (first | exact K.Sub.nil _ | refine K.Sub.cons rfl ?_)) rfl rfl ?_
 rintro ⟨i, n, seen, MD, P, A2⟩ ⟨hi, hA2, hmo, hfr⟩ KL hKL
 dsimp only at hi hA2 hmo hfr ⊢
 have hslen := hfr.len
 have hnp : n ≤ p := by
  have := List.countP_le_length (p := id) (l := seen)
  have := hfr.num
  omega
 by_cases hil : i < bl.length
 ·have hc0 : bl[((i : Nat) : Int).toNat]? = some (bl[i]'hil) := by rw [Int.toNat_natCast]; exact List.getElem?_eq_getElem hil
  generalize bl[i]'hil = c at hc0
  (repeat' first | refine X.rq ?_ | refine X.rc ?_ ?_ <;> intro hc <;> try omega)
  refine K.s_pureE (K.p_indexB hb1 (Fx.und rfl) (Fx.sz rfl) rfl rfl (by omega) hc0) rfl ?_
  rintro v2 ⟨b, o, rfl, hcel⟩
  have hcel := K.Cel.up (K := A2 :: blk s 35 (stV d l q bi bf bp (p + 1)) :: bufA 4 1 (some bs) p p (bRow seen).flatten :: blk B9 74 [.int .i64 M0.c1, .int .i64 M0.c2, .int .i64 M0.c3] :: F) hcel
  (repeat' first | refine X.rq ?_ | refine X.rc ?_ ?_ <;> intro hc <;> try omega)
  have hc256 : c.toNat < 256 := UInt8.toNat_lt c
  obtain ⟨k, hk⟩ : ∃ k, k = c.toNat % p := ⟨_, rfl⟩
  have hkp : k < p := by rw [hk]; exact Nat.mod_lt _ (by omega)
  have hw1 : (IntKind.i64.wrap (c.toNat : Int)).tmod (p : Int) = (k : Int) := by
   rw [wrap_small _ (by omega) (by omega), hk, Int.ofNat_tmod]
  have hw2 : IntKind.i64.wrap ((k : Int) + 1) = ((k + 1 : Nat) : Int) := wrap_small _ (by omega) (by omega)
  have hw3 : IntKind.u32.wrap ((k + 1 : Nat) : Int) = ((k + 1 : Nat) : Int) := by rw [IntKind.wrap_u32]; omega
  rw [hw1, hw2, hw3]
  have hsk : seen[k]? = some (seen[k]'(by omega)) := List.getElem?_eq_getElem (by omega)
  generalize seen[k]'(by omega) = sb at hsk
  have hG := BGet hA2 (k + 1) o0 hrun.ok (by rw [hca]; decide) hfr.po (by omega) (by omega)
  refine K.l_call (Fx.cal rfl) rfl hG (K.pp [0] rfl) rfl ?_
  rintro u h' H' - ⟨e, r, P3, L3, D3, MD3, A3, H1, hR, hV, hm1, hm2, hA3, rfl⟩
  obtain rfl := e.symm
  obtain ⟨rfl, eD, ⟨pg, rfl⟩, hmo3, hfr3⟩ := fram_get hfr hsk (by omega) hmo hR (by unfold hasQ; rw [hpq]; omega) (hze _ (by show 16 < 16 + (k + 1); omega) (by show 16 + (k + 1) < 17 + p; omega)) hon o0 hrun.ok (by rw [hca]; decide) (by omega) hm1 hm2
  obtain rfl := eD.symm
  obtain ⟨b5, cap5, l5, rfl, -, -, rfl⟩ := pageX_ok hV
  clear hV hG hm1 hm2 hR
  unfold pgA
  simp only [Go.K.cna]
  simp only [Go.K.nmz]
  refine K.WL.sel [1, 1] rfl ?_
  simp only [Go.K.nmz]
  (repeat' first | refine X.rq ?_ | refine X.rc ?_ ?_ <;> intro hc <;> try omega)
  refine K.l_alloc (Fx.zr rfl) rfl rfl (fun B14 => ?_)
  refine X.stw ?_
  simp only [Go.K.nmz]
  refine K.WL.drop ?_
  (repeat' first | refine X.rq ?_ | refine X.rc ?_ ?_ <;> intro hc <;> try omega)
  have hrow : (bRow seen)[k]? = some [.bool sb] := by unfold bRow; rw [List.getElem?_map, hsk]; rfl
  refine K.s_pure (K.p_load (v := .bool sb) (Fx.agg rfl) rfl (by have := K.cel_rowZ (h := h1) (K := A3 :: blk s 35 (stV d l q bi bf bp (p + 1)) :: bufA 4 1 (some bs) p p (bRow seen).flatten :: blk B9 74 [.int .i64 M0.c1, .int .i64 M0.c2, .int .i64 M0.c3] :: F) (i := k) (q := 0) 2 rfl (bRow_len _) hrow rfl; rwa [Nat.mul_one, Nat.add_zero] at this)) rfl ?_
  have hcnt := BCounts hA3
  have hn1 : IntKind.i64.wrap ((n : Int) + 1) = ((n + 1 : Nat) : Int) := wrap_small _ (by omega) (by omega)
  obtain ⟨hcc2, hcc3⟩ := hfr3.c3
  cases sb with
  | true =>
   rw [if_pos rfl] at hfr3
   have hn0 : 0 < n := by
    have h1 := hfr.num
    have : 0 < seen.countP id := List.countP_pos_iff.2 ⟨true, List.mem_of_getElem? hsk, rfl⟩
    omega
   have hcc1 := hfr3.c2 hn0
   (repeat' first | refine X.rq ?_ | refine X.rc ?_ ?_ <;> intro hc <;> try omega)
   refine K.l_storePart1 (i := k) (q := 0) (c := [.bool true]) 2 rfl (Fx.sz rfl) (by rw [Nat.mul_one, Nat.add_zero]; rfl) rfl rfl (bRow_len _) hrow Nat.zero_lt_one ?_
   rw [show [Value.bool true].set 0 (.bool true) = [.bool true] from rfl, bRow_set]
   simp only [Go.K.nmz]
   (repeat' first | refine X.rq ?_ | refine X.rc ?_ ?_ <;> intro hc <;> try omega)
   refine K.l_callV (Fx.cal rfl) rfl hcnt (K.pp [0] rfl) rfl rfl ?_
   simp only [Go.K.cna]
   simp only [Go.K.nmz]
   rw [hcc1, hcc2, hcc3]
   (repeat' first | refine X.rq ?_ | refine X.rc ?_ ?_ <;> intro hc <;> try omega)
   refine K.l_alloc (Fx.zr rfl) rfl rfl (fun B16 => ?_)
   refine X.stw ?_
   simp only [Go.K.nmz]
   refine K.WL.perm (K.pp [1, 1, 1, 1] rfl) ?_
   simp only [Go.K.nmz]
   (repeat' first | refine X.rq ?_ | refine X.rc ?_ ?_ <;> intro hc <;> try omega)
   all_goals try (exfalso; simp_all; done)
   refine K.AT.sel [4] rfl ?_
   simp only [Go.K.nmz]
   refine K.a_round hKL ⟨i + 1, n, seen.set k true, MD3, P3, A3⟩ ⟨by dsimp only; omega, hA3, hmo3, hfr3⟩ (by repeat (first | exact K.Sub.nil _ | refine K.Sub.cons rfl ?_)) rfl rfl (by dsimp only; omega)
  | false =>
   rw [if_neg (by decide)] at hfr3
   have hcc1 := hfr3.c2 (by omega)
   rw [show ((n + 1 : Nat) : Int) = (n : Int) + 1 from rfl] at hcc1
   (repeat' first | refine X.rq ?_ | refine X.rc ?_ ?_ <;> intro hc <;> try omega)
   refine K.l_storePart1 (i := k) (q := 0) (c := [.bool false]) 2 rfl (Fx.sz rfl) (by rw [Nat.mul_one, Nat.add_zero]; rfl) rfl rfl (bRow_len _) hrow Nat.zero_lt_one ?_
   rw [show [Value.bool false].set 0 (.bool true) = [.bool true] from rfl, bRow_set]
   simp only [Go.K.nmz]
   (repeat' first | refine X.rq ?_ | refine X.rc ?_ ?_ <;> intro hc <;> try omega)
   refine K.l_callV (Fx.cal rfl) rfl hcnt (K.pp [0] rfl) rfl rfl ?_
   simp only [Go.K.cna]
   simp only [Go.K.nmz]
   rw [hcc1, hcc2, hcc3]
   (repeat' first | refine X.rq ?_ | refine X.rc ?_ ?_ <;> intro hc <;> try omega)
   refine K.l_alloc (Fx.zr rfl) rfl rfl (fun B16 => ?_)
   refine X.stw ?_
   simp only [Go.K.nmz]
   refine K.WL.perm (K.pp [1, 1, 1, 1] rfl) ?_
   simp only [Go.K.nmz]
   (repeat' first | refine X.rq ?_ | refine X.rc ?_ ?_ <;> intro hc <;> try omega)
   all_goals try (exfalso; simp_all; done)
   refine K.AT.sel [4] rfl ?_
   simp only [Go.K.nmz]
   refine K.a_round hKL ⟨i + 1, n + 1, seen.set k true, MD3, P3, A3⟩ ⟨by dsimp only; omega, hA3, hmo3, hfr3⟩ (by repeat (first | exact K.Sub.nil _ | refine K.Sub.cons rfl ?_)) rfl rfl (by dsimp only; omega)
 ·obtain rfl : i = bl.length := by omega
  (repeat' first | refine X.rq ?_ | refine X.rc ?_ ?_ <;> intro hc <;> try omega)
  have hFl := BFlushAll hA2 o0 hrun.ok (by rw [hca, hmo]; simp only [List.length_nil]; unfold roomMax; omega) hfr.po
  obtain ⟨hwe, hwd, hwl⟩ := wrs_clean P.frs L0 D hfr.cln
  have hall : ∀ e5 P5 L5 D5, AllR L0 D P e5 P5 L5 D5 → e5 = 0 ∧ L5.stream = L0.stream := fun e5 P5 L5 D5 hR5 => by
   cases hR5 with
   | none h => exact ⟨rfl, rfl⟩
   | fail h => exact absurd hwe h
   | dark h h' => rw [hwd] at h'; exact absurd ((sync_sem D).1.on hon).1 h'
   | ok h h' => exact ⟨rfl, by rw [hwl]⟩
  refine X.drawN ([blk s 35 (stV d l q bi bf bp (p + 1)),blk B9 74 [.int .i64 M0.c1, .int .i64 M0.c2, .int .i64 M0.c3]]) [] (.pu 0 (.pu 1 (.pu 2 (.st 3 (.on 4 (.pu 5 (.pu 6 (.pu 7 (.pu 8 (.pu 9 (.pu 13 (.st 10 (.st 14 (.on 11 (.pu 12 (.pu 15 (.pu 16 (.pu 17 (.on 18 (.pu 19 (.pu 20 .nil))))))))))))))))))))) ?_
  refine X.u_mv ?_
  refine X.u_nc ?_
  refine X.u_fa ?_
  refine X.s_ld ?_
  refine K.d_on rfl (fun KK hKK => ?_)
  refine K.l_call (Fx.cal rfl) rfl hFl (K.pp [0] rfl) rfl ?_
  rintro u h' H' - ⟨e, e5, P5, L5, D5, MD5, A5, hR5, rfl, hmd, hA5, rfl⟩
  obtain rfl := e.symm
  obtain rfl := hmd hfr.dl
  obtain ⟨rfl, hst5⟩ := hall e5 P5 L5 D5 hR5
  have hA5 := hA5 hst5
  refine K.l_nil ?_
  refine X.onE hKK ?_
  refine X.u_beql ?_
  refine X.u_mv ?_
  refine X.g_mv ?_
  refine X.g_nc ?_
  refine X.g_fa ?_
  refine X.g_fa ?_
  refine X.h_ld ?_
  refine X.h_ld ?_
  refine K.d_on rfl (fun KK hKK => ?_)
  refine K.s_take rfl rfl ?_
  refine K.l_callV (Fx.cal rfl) rfl (BCounts hA5) (K.pp [0] rfl) rfl rfl ?_
  rw [hfr.c3.1, hfr.c3.2]
  refine K.l_nil ?_
  refine X.onE hKK ?_
  refine X.g_fd ?_
  refine X.g_beql ?_
  rw [decide_eq_true (show M0.c3 = M0.c3 from rfl)]
  refine X.u_pk ?_
  refine X.u_mv ?_
  refine K.d_on rfl (fun KK hKK => ?_)
  refine K.s_take rfl rfl ?_
  refine K.l_call (Fx.cal rfl) rfl (QAlive _) (K.pp [] rfl) rfl ?_
  rintro u h9 H' le9 ⟨rfl, rfl⟩
  refine K.l_nil ?_
  refine X.onE hKK ?_
  refine X.u_pk ?_
  refine X.u_sg ?_
  refine K.d_nil ?_
  (repeat' first | refine X.rq ?_ | refine X.rc ?_ ?_ <;> intro hc <;> try omega)
  simp only [Go.K.cna]
  simp only [Go.K.nmz]
  exact K.dc (vs := [.bool true]) (.tmp rfl .nil) (le1.trans le9) (D := [_, _, _, _]) (H' := []) rfl ⟨rfl, rfl⟩
end Go.Proofs.YtijbhgiigddjdaaGreat.Pl
