/-
  Texts joined: Ae Ak Ad. Conditions: each theorem's own.
-/
import Derived.Test.YtmcdaegaopfihaaGreatY43
import Derived.Test.YtmcdaegaopfihaaGreatY10
section
namespace Go.Proofs.YtmcdaegaopfihaaGreat.Wl
open Go Go.K Go.Proofs Go.Proofs.YtmcdaegaopfihaaGreat Go.Proofs.YtmcdaegaopfihaaGreat.Cc Go.Proofs.YtmcdaegaopfihaaGreat.Rc
set_option linter.unusedVariables false
set_option linter.unusedSimpArgs false
set_option maxRecDepth 10000

theorem Run.cut {D : Dk} {L : Lg} {rs : List Recd} {m : Nat} (h : Run D L rs m) : Run D ⟨L.m, bytesQ (rs.take m), startsQ L.m.base (rs.take m), L.durable⟩ (rs.take m) m := by
 have hl := len_take_le rs m
 have h1 := h.fin'
 have h2 := h.len
 have ht : (rs.take m).take m = rs.take m := by rw [List.take_take, Nat.min_self]
 refine ⟨h.ok, h.cache, h.n1, h.n2, h.mas, h.wip, h.base, ?_, h.right.take m, rfl, rfl, by rw [List.length_take]; have := h.few; omega, by rw [ht]; exact h.dur, by rw [ht]; exact h.chk, by show lenQ (rs.take m) ≤ L.m.n * 510; omega, h.v0, by rw [ht]; exact h.vi⟩
 show L.m.base + lenQ (rs.take m) ≤ lastLSN
 omega
theorem open_mas {D D2 : Dk} {L L2 : Lg} {rs : List Recd} {m : Nat} {l : List Recd} (h : Run D L rs m) (ho : Opens D (.ok (L2, l)) D2) : L2.m = L.m := by
 obtain ⟨_, _, h3⟩ := rm_sem h.v0 h.mas h.n1 h.n2 h.base (by have := h.fin'; omega)
 cases ho with
 | ok hm _ _ _ _ _ =>
  rcases h3 with ⟨e, _⟩ | ⟨e, _⟩
  ·rw [hm] at e
   cases e
   show { L.m with wiped := false } = L.m
   rw [← h.wip]
  ·rw [hm] at e; cases e
theorem open_run {D D2 : Dk} {L : Lg} {rs : List Recd} {m : Nat} {r : Except Int (Lg × List Recd)} (h : Run D L rs m) (hn : NoTrip D) (ho : Opens D r D2) :
  NoTrip D2 ∧ D2.kept.length = D.kept.length ∧ ∃ L2, r = .ok (L2, foundQ L.m.base (rs.take m)) ∧ Run D2 L2 (rs.take m) m ∧ L2.m = L.m := by
 have hc := h.cut
 have hl : (rs.take m).length = m := by rw [List.length_take]; have := h.few; omega
 obtain ⟨_, h2, _, h4, h5⟩ := open_dead (brk := none) ho h.ok h.cache (.inl (hc.dead none)) h.n1 h.n2 h.base hc.fin' h.mas.kept (fun x hx => by cases hx) hc.right hc.few hc.len
 refine ⟨h4 hn, h2, ?_⟩
 rcases h5 with ⟨j, L2, h6, h7, rfl, h8, h9, h10, h11⟩ | ⟨x, _, hx, _⟩ | ⟨_, _, hx⟩
 ·obtain rfl : j = m := by omega
  rw [List.take_take, Nat.min_self] at ho h8 ⊢
  exact ⟨L2, rfl, h8, open_mas h ho⟩
 ·cases hx
 ·exact absurd hn hx
theorem Run.sts_sorted {D : Dk} {L : Lg} {rs : List Recd} {m : Nat} (h : Run D L rs m) : L.starts.Pairwise (· < ·) := by rw [h.sts]; exact (starts_rise _ _ h.right).1
end Go.Proofs.YtmcdaegaopfihaaGreat.Wl
end

section
namespace Go.Proofs.YtmcdaegaopfihaaGreat.Wl
open Go Go.K Go.Proofs Go.Proofs.YtmcdaegaopfihaaGreat Go.Proofs.YtmcdaegaopfihaaGreat.Cc Go.Proofs.YtmcdaegaopfihaaGreat.Rc
set_option linter.unusedVariables false
set_option linter.unusedSimpArgs false
set_option maxRecDepth 10000

theorem found_len (base : Nat) (rs : List Recd) : (foundQ base rs).length = rs.length := by unfold foundQ; rw [List.length_map, places_len]
theorem found_take (base : Nat) (rs : List Recd) (m : Nat) : foundQ base (rs.take m) = (foundQ base rs).take m := by unfold foundQ; rw [places_take, List.map_take]
theorem found_snoc (base : Nat) (rs : List Recd) (r : Recd) : foundQ base (rs ++ [r]) = foundQ base rs ++ [{ r with lsn := base + lenQ rs }] := by
 unfold foundQ
 rw [places_snoc, List.map_append, Nat.zero_add]; rfl
theorem places_get : ∀ (rs : List Recd) (a j : Nat) (o : Recd × Nat), (placesQ a rs)[j]? = some o → ∃ r, rs[j]? = some r ∧ o.1 = z0 r
 | [], a, j, o, h => by simp [placesQ] at h
 | r :: rs, a, 0, o, h => by
  simp only [placesQ, List.getElem?_cons_zero, Option.some.injEq] at h
  exact ⟨r, rfl, by rw [← h]⟩
 | r :: rs, a, j + 1, o, h => by
  rw [placesQ, List.getElem?_cons_succ] at h
  obtain ⟨r', h1, h2⟩ := places_get rs _ j o h
  exact ⟨r', by rw [List.getElem?_cons_succ]; exact h1, h2⟩
theorem found_get {base : Nat} {rs : List Recd} {j : Nat} {x : Recd} (h : (foundQ base rs)[j]? = some x) : ∃ r, rs[j]? = some r ∧ x = { r with lsn := x.lsn } ∧ (startsQ base rs)[j]? = some x.lsn := by
 unfold foundQ at h
 rw [List.getElem?_map] at h
 obtain ⟨o, ho, rfl⟩ := Option.map_eq_some_iff.1 h
 obtain ⟨r, h1, h2⟩ := places_get rs 0 j o ho
 refine ⟨r, h1, ?_, ?_⟩
 ·unfold lsnR; rw [h2]; rfl
 ·unfold startsQ stsQ
  rw [List.getElem?_map, ho]; rfl
structure Lost (D : Dk) (n base kept : Nat) (rs : List Recd) (m : Nat) (brk : Option Nat) : Prop where
 ok : DkOk D
 dead : Dead D n base kept rs m brk
 n1 : 16 ≤ n
 n2 : n < D.kept.length
 b1 : 1 ≤ base
 fin : base + lenQ rs ≤ lastLSN
 k1 : kept < 4294967296
 k2 : ∀ x, brk = some x → x < 4294967296
 right : RightL rs
 few : m ≤ rs.length
 len : lenQ rs ≤ n * 510
theorem Run.lost {D : Dk} {L : Lg} {rs : List Recd} {m : Nat} (h : Run D L rs m) : Lost D L.m.n L.m.base L.m.kept rs m none :=
 ⟨h.ok, .inl (h.dead none), h.n1, h.n2, h.base, h.fin', h.mas.kept, (fun x hx => by cases hx), h.right, h.few, h.len⟩
theorem Run.lostA {D D' : Dk} {L : Lg} {rs : List Recd} {m : Nat} {brk : Option Nat} (h : Run D L rs m) (hb : ∀ x, brk = some x → x < 4294967296) (hk : DkOk D') (hl : D'.kept.length = D.kept.length) (hd : Dead D' L.m.n L.m.base L.m.kept rs m brk) : Lost D' L.m.n L.m.base L.m.kept rs m brk :=
 ⟨hk, hd, h.n1, by rw [hl]; exact h.n2, h.base, h.fin', h.mas.kept, hb, h.right, h.few, h.len⟩
theorem cut_ok {D : Dk} (hk : DkOk D) (keep : List Bool) : DkOk (cutQ D keep) ∧ NoTrip (cutQ D keep) ∧ (cutQ D keep).cache = [] ∧ (cutQ D keep).kept.length = D.kept.length := by
 refine ⟨⟨cutL_512 hk.secs fun l hl => (hk.los l hl).2, fun l hl => (by cases hl), ?_, ?_, ⟨by show (-1 : Int) ≤ -1; decide, by show (-1 : Int) ≤ _; decide⟩, Nat.zero_le _⟩, ⟨rfl, rfl⟩, rfl, cutL_len _ _ _⟩
 ·show 0 < (cutL _ _ _).length
  rw [cutL_len]; exact hk.pos
 ·show (cutL _ _ _).length ≤ _
  rw [cutL_len]; exact hk.few
theorem Lost.cut {D : Dk} {n base kept : Nat} {rs : List Recd} {m : Nat} {brk : Option Nat} (h : Lost D n base kept rs m brk) (keep : List Bool) : Lost (cutQ D keep) n base kept rs m brk := by
 obtain ⟨c1, c2, c3, c4⟩ := cut_ok h.ok keep
 exact ⟨c1, h.dead.sub fun i s hs => hs.cut, h.n1, by rw [c4]; exact h.n2, h.b1, h.fin, h.k1, h.k2, h.right, h.few, h.len⟩
def tripQ (D : Dk) (n : Int) : Dk := if D.dark then D else { D with trip := max n (-1) }
theorem trip_ok {D : Dk} (hk : DkOk D) {n : Int} (hn : n ≤ 9223372036854775807) : DkOk (tripQ D n) ∧ (tripQ D n).kept = D.kept ∧ (tripQ D n).cache = D.cache := by
 unfold tripQ
 split
 ·exact ⟨hk, rfl, rfl⟩
 ·exact ⟨⟨hk.secs, hk.los, hk.pos, hk.few, ⟨by show -1 ≤ max n (-1); omega, by show max n (-1) ≤ _; omega⟩, hk.room⟩, rfl, rfl⟩
theorem Lost.trip {D : Dk} {n base kept : Nat} {rs : List Recd} {m : Nat} {brk : Option Nat} (h : Lost D n base kept rs m brk) {t : Int} (ht : t ≤ 9223372036854775807) : Lost (tripQ D t) n base kept rs m brk := by
 obtain ⟨c1, c2, c3⟩ := trip_ok h.ok ht
 exact ⟨c1, h.dead.sub fun i s hs => hs.of c2 c3, h.n1, by rw [c2]; exact h.n2, h.b1, h.fin, h.k1, h.k2, h.right, h.few, h.len⟩
theorem Run.trip {D : Dk} {L : Lg} {rs : List Recd} {m : Nat} (h : Run D L rs m) {t : Int} (ht : t ≤ 9223372036854775807) : Run (tripQ D t) L rs m := by
 obtain ⟨c1, c2, c3⟩ := trip_ok h.ok ht
 exact ⟨c1, by rw [c3]; exact h.cache, h.n1, by rw [c2]; exact h.n2, h.mas, h.wip, h.base, h.fin, h.right, h.str, h.sts, h.few, h.dur, h.chk, h.len, by rw [V.of c2 c3]; exact h.v0, fun i hi => by rw [V.of c2 c3]; exact h.vi i hi⟩
theorem Lost.open {D D2 : Dk} {r : Except Int (Lg × List Recd)} {n base kept : Nat} {rs : List Recd} {m : Nat} {brk : Option Nat} (h : Lost D n base kept rs m brk) (hc : D.cache = []) (ho : Opens D r D2) :
    Lost D2 n base kept rs m brk ∧ D2.kept.length = D.kept.length ∧ (NoTrip D → NoTrip D2) ∧
    ((∃ j L, m ≤ j ∧ j ≤ rs.length ∧ r = .ok (L, foundQ base (rs.take j)) ∧ Run D2 L (rs.take j) j ∧ L.m.n = n ∧ L.m.base = base ∧ L.m.kept = kept) ∨
     (∃ x L, brk = some x ∧ r = .ok (L, []) ∧ Run D2 L [] 0 ∧ L.m.n = n ∧ L.m.base = base + lenQ rs ∧ L.m.kept = x) ∨
     (r = .error 8 ∧ D2.dark = true ∧ ¬ NoTrip D)) := by
  obtain ⟨h1, h2, h3, h4, h5⟩ := open_dead ho h.ok hc h.dead h.n1 h.n2 h.b1 h.fin h.k1 h.k2 h.right h.few h.len
  exact ⟨⟨h1, h3, h.n1, by rw [h2]; exact h.n2, h.b1, h.fin, h.k1, h.k2, h.right, h.few, h.len⟩, h2, h4, h5⟩
end Go.Proofs.YtmcdaegaopfihaaGreat.Wl
end

section
namespace Go.Proofs.YtmcdaegaopfihaaGreat.Wl
open Go Go.K Go.Proofs Go.Proofs.YtmcdaegaopfihaaGreat Go.Proofs.YtmcdaegaopfihaaGreat.Pg Go.Proofs.YtmcdaegaopfihaaGreat.Rc
set_option linter.unusedVariables false
set_option linter.unusedSimpArgs false
set_option maxRecDepth 10000

def LongP (h : Base) (G : Prop) (u : Value) (h' : Base) (H' : List Asrt) : Prop := h' = h ∧ H' = [] ∧ ∃ b, u = .bool b ∧ (b = false → G)
structure FewR (r : Recd) : Prop where
 img : r.images.length ≤ 66000
 liv : r.lives.length ≤ 66000
 dir : r.dirty.length ≤ 66000
 dat : r.op.data.length ≤ 66000
theorem FewR.small {r : Recd} (h : FewR r) : smallR r := ⟨h.img, h.liv, by have := h.dir; omega, h.dat⟩
structure LoS where
 k : Nat
 n : Nat
set_option maxHeartbeats 8000000 in
theorem LLong (h : Base) (v : Value) (l : List PAct) (hv : ActsV h v l) (hl : l.length ≤ 9223372036854775807) :
  Tr Tryz.prog 6 [v] h [] (LongP h (l.length ≤ 200 ∧ ∀ x ∈ l, FewR x.r)) := by
 obtain ⟨es, hv, hel, hr⟩ := hv
 obtain ⟨ao, ca, rfl⟩ := hv.len
 rw [hel] at hv ⊢
 refine K.enter Tryz.func6 rfl (Nat.le_of_ble_eq_true rfl) (fun F => ?_)
 simp only [List.nil_append]
 (repeat' first | refine X.rq ?_ | refine X.rc ?_ ?_ <;> intro hc <;> try omega)
 refine K.c_loop (σ := Nat) (fun j => [(0, .slice ao l.length ca), (3, .int .i64 j)]) (fun _ => h) (fun _ => F)
  (fun j => j ≤ l.length ∧ j ≤ 201 ∧ ∀ _ : Unit, ∀ (i : Nat) x, i < j → l[i]? = some x → FewR x.r) (fun j => l.length - j) 0 ⟨Nat.zero_le _, Nat.zero_le _, fun _ i x hi => by omega⟩ (by repeat (first | exact K.Sub.nil _ | refine K.Sub.cons rfl ?_)) rfl rfl ?_
 rintro j ⟨hj, hj3, hyes⟩ KL hKL
 by_cases hjl : j < l.length ∧ j ≤ 200
 ·obtain ⟨hjl, hj200⟩ := hjl
  have hc1 : es[j]? = some (es[j]'(by omega)) := List.getElem?_eq_getElem (by omega)
  have hc0 : es[((j : Nat) : Int).toNat]? = some (es[j]'(by omega)) := by rw [Int.toNat_natCast]; exact hc1
  have he1 : l[j]? = some (l[j]'(by omega)) := List.getElem?_eq_getElem hjl
  generalize es[j]'(by omega) = c at hc0 hc1
  generalize l[j]'(by omega) = x at he1
  obtain ⟨_, _, ⟨q1, q2, q3, q4, q5⟩, cs, rfl, hx⟩ := hr j c x hc1 he1
  obtain ⟨what, r, xn⟩ := x
  dsimp only at q1 q2 q3 q4 q5 hx
  obtain ⟨hw, ad, ai, al, ay, cd, ci, cl, cy, rfl, hb, ⟨es2, hi1, hi2, hi3⟩, hl4, hd2⟩ := hx.cells
  clear hx hb hl4 hd2 hw
  (repeat' first | refine X.rq ?_ | refine X.rc ?_ ?_ <;> intro hc <;> try omega)
  refine K.s_pureE (K.p_indexL hv (Fx.und rfl) (Fx.sz rfl) rfl rfl (by omega) hc0) rfl ?_
  rintro v2 ⟨b, o, rfl, hcel⟩
  have hcr : Cels h [] b (o + 1) (cR r (.slice ad r.op.data.length cd) (.slice ai r.images.length ci) (.slice al r.lives.length cl) (.slice ay r.dirty.length cy)) := Cels.take 15 (Cels.drop 1 (by simp [cR]) hcel)
  (repeat' first | refine X.rq ?_ | refine X.rc ?_ ?_ <;> intro hc <;> try omega)
  refine K.s_pure (K.p_loadM (vs := cR r (.slice ad r.op.data.length cd) (.slice ai r.images.length ci) (.slice al r.lives.length cl) (.slice ay r.dirty.length cy)) (Fx.agg rfl) rfl (Cels.up hcr) (Fx.sz rfl) rfl) rfl ?_
  clear hcr hcel
  (repeat' first | refine X.rq ?_ | refine X.rc ?_ ?_ <;> intro hc <;> try omega)
  refine K.l_alloc (Fx.zr rfl) rfl rfl (fun B4 => ?_)
  refine X.stw ?_
  simp only [Go.K.nmz]
  (repeat' first | refine X.rq ?_ | refine X.rc ?_ ?_ <;> intro hc <;> try omega)
  obtain ⟨n0, hn0⟩ : ∃ n0, n0 = r.op.data.length + r.lives.length + r.dirty.length + r.images.length := ⟨_, rfl⟩
  rw [show (r.op.data.length : Int) + r.lives.length + r.dirty.length + r.images.length = (n0 : Int) by omega]
  refine K.c_loop (σ := LoS) (fun q => [(0, .slice ao l.length ca), (3, .int .i64 j), (4, .pointer (some ⟨B4, 0, none⟩)), (5, .int .i64 q.n), (6, .int .i64 q.k)]) (fun _ => h) (fun _ => blk B4 45 (cR r (.slice ad r.op.data.length cd) (.slice ai r.images.length ci) (.slice al r.lives.length cl) (.slice ay r.dirty.length cy)) :: F)
   (fun q => q.k ≤ r.images.length ∧ q.k ≤ 200 ∧ n0 ≤ q.n ∧ q.n ≤ n0 + q.k * 28428972647776256) (fun q => r.images.length - q.k) ⟨0, n0⟩ ⟨by dsimp only; omega, by dsimp only; omega, by dsimp only; omega, by dsimp only; omega⟩ (by repeat (first | exact K.Sub.nil _ | refine K.Sub.cons rfl ?_)) rfl rfl ?_
  rintro ⟨k, nn⟩ ⟨hk, hk2, hn1, hn2⟩ KM hKM
  dsimp only at hk hk2 hn1 hn2 ⊢
  by_cases hkl : k < r.images.length ∧ k < 200
  ·obtain ⟨hkl, hk200⟩ := hkl
   have hd1 : es2[k]? = some (es2[k]'(by omega)) := List.getElem?_eq_getElem (by omega)
   have hd0 : es2[((k : Nat) : Int).toNat]? = some (es2[k]'(by omega)) := by rw [Int.toNat_natCast]; exact hd1
   have hz1 : r.images[k]? = some (r.images[k]'hkl) := List.getElem?_eq_getElem hkl
   have q5 := q5 (r.images[k]'hkl) (List.getElem_mem hkl)
   generalize es2[k]'(by omega) = d at hd0 hd1
   generalize r.images[k]'hkl = m at hz1 q5
   obtain ⟨hpg, cs5, rfl, hwp, cv, rfl, es5, hv5, hel5, hr5⟩ := hi3 k d m hd1 hz1
   obtain ⟨q6, q7⟩ := q5
   obtain ⟨ao5, ca5, rfl⟩ := hv5.len
   clear hwp
   rw [hel5] at hv5
   (repeat' first | refine X.rq ?_ | refine X.rc ?_ ?_ <;> intro hc <;> try omega)
   refine K.s_pureE (K.p_indexL hi1 (Fx.und rfl) (Fx.sz rfl) rfl rfl (by omega) hd0) rfl ?_
   rintro v3 ⟨b3, o3, rfl, hcel3⟩
   have hq3 := (Cels.up (K := blk B4 45 (cR r (.slice ad r.op.data.length cd) (.slice ai r.images.length ci) (.slice al r.lives.length cl) (.slice ay r.dirty.length cy)) :: F) hcel3).2.2.2.2.1
   rw [hel5] at hq3
   (repeat' first | refine X.rq ?_ | refine X.rc ?_ ?_ <;> intro hc <;> try omega)
   refine K.c_loop (σ := LoS) (fun q => [(0, .slice ao l.length ca), (3, .int .i64 j), (4, .pointer (some ⟨B4, 0, none⟩)), (5, .int .i64 q.n), (6, .int .i64 k), (7, .int .i64 q.k)]) (fun _ => h) (fun _ => blk B4 45 (cR r (.slice ad r.op.data.length cd) (.slice ai r.images.length ci) (.slice al r.lives.length cl) (.slice ay r.dirty.length cy)) :: F)
    (fun q => q.k ≤ m.to.cells.length ∧ q.k ≤ 200 ∧ n0 ≤ q.n ∧ q.n ≤ nn + 4398046511104 + q.k * 140737488351232) (fun q => m.to.cells.length - q.k) ⟨0, nn + m.to.cells.length⟩ ⟨Nat.zero_le _, Nat.zero_le _, by dsimp only; omega, by dsimp only; omega⟩ (by repeat (first | exact K.Sub.nil _ | refine K.Sub.cons rfl ?_)) rfl rfl ?_
   rintro ⟨u, mm⟩ ⟨hu, hu2, hm1, hm2⟩ KN hKN
   dsimp only at hu hu2 hm1 hm2 ⊢
   by_cases hul : u < m.to.cells.length ∧ u < 200
   ·obtain ⟨hul, hu200⟩ := hul
    have hf1 : es5[u]? = some (es5[u]'(by omega)) := List.getElem?_eq_getElem (by omega)
    have hf0 : es5[((u : Nat) : Int).toNat]? = some (es5[u]'(by omega)) := by rw [Int.toNat_natCast]; exact hf1
    have hy1 : m.to.cells[u]? = some (m.to.cells[u]'hul) := List.getElem?_eq_getElem hul
    have q7 := q7 (m.to.cells[u]'hul) (List.getElem_mem hul)
    generalize es5[u]'(by omega) = f at hf0 hf1
    generalize m.to.cells[u]'hul = z at hy1 q7
    obtain ⟨_, hzl, ao6, ca6, rfl, _⟩ := hr5 u f z hf1 hy1
    (repeat' first | refine X.rq ?_ | refine X.rc ?_ ?_ <;> intro hc <;> try omega)
    refine K.s_pureE (K.p_indexL hi1 (Fx.und rfl) (Fx.sz rfl) rfl rfl (by omega) hd0) rfl ?_
    rintro v4 ⟨b4, o4, rfl, hcel4⟩
    have hq4 := (Cels.up (K := blk B4 45 (cR r (.slice ad r.op.data.length cd) (.slice ai r.images.length ci) (.slice al r.lives.length cl) (.slice ay r.dirty.length cy)) :: F) hcel4).2.2.2.2.1
    rw [hel5] at hq4
    (repeat' first | refine X.rq ?_ | refine X.rc ?_ ?_ <;> intro hc <;> try omega)
    refine K.s_pureE (K.p_indexL hi1 (Fx.und rfl) (Fx.sz rfl) rfl rfl (by omega) hd0) rfl ?_
    rintro v5 ⟨b5, o5, rfl, hcel5⟩
    have hq5 := (Cels.up (K := blk B4 45 (cR r (.slice ad r.op.data.length cd) (.slice ai r.images.length ci) (.slice al r.lives.length cl) (.slice ay r.dirty.length cy)) :: F) hcel5).2.2.2.2.1
    rw [hel5] at hq5
    (repeat' first | refine X.rq ?_ | refine X.rc ?_ ?_ <;> intro hc <;> try omega)
    refine K.s_pureE (K.p_indexL hv5 (Fx.und rfl) (Fx.sz rfl) rfl rfl (by omega) hf0) rfl ?_
    rintro v6 ⟨b6, o6, rfl, hcel6⟩
    have hq6 := (Cels.up (K := blk B4 45 (cR r (.slice ad r.op.data.length cd) (.slice ai r.images.length ci) (.slice al r.lives.length cl) (.slice ay r.dirty.length cy)) :: F) hcel6).2.2.1
    (repeat' first | refine X.rq ?_ | refine X.rc ?_ ?_ <;> intro hc <;> try omega)
    refine K.a_round hKN ⟨u + 1, mm + z.data.length⟩ ⟨by dsimp only; omega, by dsimp only; omega, by dsimp only; omega, by dsimp only; omega⟩ (by repeat (first | exact K.Sub.nil _ | refine K.Sub.cons rfl ?_)) rfl rfl (by dsimp only; omega)
   ·by_cases hul2 : u < m.to.cells.length
    all_goals
     (repeat' first | refine X.rq ?_ | refine X.rc ?_ ?_ <;> intro hc <;> try omega)
     all_goals try (exfalso; omega)
     all_goals try
      refine K.s_pureE (K.p_indexL hi1 (Fx.und rfl) (Fx.sz rfl) rfl rfl (by omega) hd0) rfl ?_
      rintro v4 ⟨b4, o4, rfl, hcel4⟩
      have hq4 := (Cels.up (K := blk B4 45 (cR r (.slice ad r.op.data.length cd) (.slice ai r.images.length ci) (.slice al r.lives.length cl) (.slice ay r.dirty.length cy)) :: F) hcel4).2.2.2.2.1
      rw [hel5] at hq4
     (repeat' first | refine X.rq ?_ | refine X.rc ?_ ?_ <;> intro hc <;> try omega)
     all_goals try (exfalso; omega)
     refine K.a_round hKM ⟨k + 1, mm⟩ ⟨by dsimp only; omega, by dsimp only; omega, by dsimp only; omega, by dsimp only; omega⟩ (by repeat (first | exact K.Sub.nil _ | refine K.Sub.cons rfl ?_)) rfl rfl (by dsimp only; omega)
  ·(repeat' first | refine X.rq ?_ | refine X.rc ?_ ?_ <;> intro hc <;> try omega)
   all_goals try (exfalso; omega)
   all_goals refine K.AT.drop ?_
   all_goals first
    | refine K.done (by first | exact Or.inl rfl | exact Or.inr rfl) rfl (by first | exact K.Base.le.refl _ | assumption) (H' := []) rfl ⟨rfl, rfl, true, rfl, fun e => by cases e⟩
    | skip
   all_goals
    refine K.a_round hKL (j + 1) ⟨by omega, by omega, fun _ i y hi h2 => ?_⟩ (by repeat (first | exact K.Sub.nil _ | refine K.Sub.cons rfl ?_)) rfl rfl (by omega)
    by_cases hij : i < j
    ·exact hyes () i y hij h2
    ·obtain rfl : i = j := by omega
     rw [he1] at h2; cases h2
     exact ⟨by dsimp only; omega, by dsimp only; omega, by dsimp only; omega, by dsimp only; omega⟩
 ·have hfin : ∀ _ : Unit, l.length ≤ 200 → l.length ≤ 200 ∧ ∀ x ∈ l, FewR x.r := fun _ hl => ⟨hl, fun x hx => by
   obtain ⟨m, hm, rfl⟩ := List.mem_iff_getElem.1 hx
   exact hyes () m _ (by omega) (List.getElem?_eq_getElem hm)⟩
  clear hyes
  (repeat' first | refine X.rq ?_ | refine X.rc ?_ ?_ <;> intro hc <;> try omega)
  all_goals
   refine K.done (by first | exact Or.inl rfl | exact Or.inr rfl) rfl (by first | exact K.Base.le.refl _ | assumption) (H' := []) rfl ⟨rfl, rfl, _, rfl, fun e => ?_⟩
   refine hfin () ?_
   simp only [decide_eq_false_iff_not, decide_eq_true_eq, reduceCtorEq] at e <;> omega
end Go.Proofs.YtmcdaegaopfihaaGreat.Wl
end
