/-
 The law: whatever is done to a log, it answers what the document says. Conditions: each theorem's own.
-/
import Derived.Test.YtmcdaegaopfihaaGreatZ46
import Derived.Test.YtmcdaegaopfihaaGreatZ47
namespace Go.Proofs.YtmcdaegaopfihaaGreat.Wl
open Go Go.K Go.Proofs Go.Proofs.YtmcdaegaopfihaaGreat Go.Proofs.YtmcdaegaopfihaaGreat.Pg Go.Proofs.YtmcdaegaopfihaaGreat.Ra Go.Proofs.YtmcdaegaopfihaaGreat.Cc Go.Proofs.YtmcdaegaopfihaaGreat.Rc
set_option linter.unusedVariables false
set_option linter.unusedSimpArgs false
set_option maxRecDepth 10000

theorem Does (h : Base) (s p d : Nat) (M : SM) (W : LM) (Dm : DM) (D : Dk) (L : Lg) (rs : List Recd) (m : Nat) (hp : PlayX h M W D L rs m) (c : List Value) (x : PAct) (hx : ActC h c x) (hf : FewR x.r) :
  Tr Tryz.prog 28 [pv s, pv p, .agg c.toArray] h (playA s p d M W Dm D L rs) (DoesR s p d D L) := by
 obtain ⟨hw, hn, hr, cs, rfl, hxr⟩ := hx
 by_cases h0 : x.what = 0
 ·rw [h0]; exact DoesAppend h s p d M W Dm D L rs m hp cs x.r x.n hxr hf hr
 by_cases h1 : x.what = 1
 ·rw [h1]; exact DoesFlush h s p d M W Dm D L rs m hp cs x.n ⟨_, hxr⟩
 by_cases h2 : x.what = 2
 ·rw [h2]; exact DoesMark h s p d M W Dm D L rs m hp cs x.n ⟨_, hxr⟩ hn
 by_cases h3 : x.what = 3
 ·rw [h3]; exact DoesReset h s p d M W Dm D L rs m hp cs x.n ⟨_, hxr⟩ hn
 exact DoesNone h s p d M W Dm D L rs m hp cs x.what x.n ⟨_, hxr⟩ (by omega)
theorem flat_take : ∀ (kept : List Sec) (k : Nat), (∀ s ∈ kept, s.length = 512) → k ≤ kept.length → kept.flatten.take (k * 512) = (kept.take k).flatten
 | [], k, _, hk => by
  obtain rfl : k = 0 := by simpa using hk
  rfl
 | s :: r, 0, _, _ => by simp
 | s :: r, k + 1, hs, hk => by
  have h1 := hs s (List.mem_cons_self ..)
  rw [List.flatten_cons, List.take_succ_cons, List.flatten_cons, List.take_append, List.take_of_length_le (by omega), h1, show (k + 1) * 512 - 512 = k * 512 by omega, flat_take r k (fun x hx => hs x (List.mem_cons_of_mem _ hx)) (by simpa using hk)]
theorem take_map {kept : List Sec} {k : Nat} {f : Nat → Sec} (h : ∀ i, i < k → kept[i]? = some (f i)) : kept.take k = (List.range k).map f := by
 apply List.ext_getElem?
 intro i
 rw [List.getElem?_map]
 by_cases hi : i < k
 ·rw [List.getElem?_take_of_lt hi, h i hi, List.getElem?_range hi]; rfl
 ·rw [List.getElem?_eq_none (by rw [List.length_take]; omega), List.getElem?_eq_none (by rw [List.length_range]; omega)]; rfl
theorem image_run {D : Dk} {L : Lg} {rs : List Recd} {m : Nat} (h : Run D L rs m) : D.kept.flatten.take ((1 + L.m.n) * 512) = imageQ L.m (L.stream.take (L.durable - L.m.base)) L.m.n := by
 have hn := h.n2
 have e : L.stream.take (L.durable - L.m.base) = bytesQ (rs.take m) := by rw [h.str, h.dur, Nat.add_sub_cancel_left, bytes_take]
 rw [e, flat_take _ _ h.ok.secs (by omega), take_map (f := fun i => if i = 0 then masterB L.m else secB (bytesQ (rs.take m)) (i - 1)) fun i hi => ?_]
 ·rw [Nat.add_comm, List.range_succ_eq_map, List.map_cons, List.map_map, List.flatten_cons]
  unfold imageQ logB
  rfl
 ·rw [view_kept h.cache (by omega)]
  cases i with
  | zero => rw [h.v0]; rfl
  | succ i => rw [show i + 1 = 1 + i by omega, h.vi i (by omega)]; simp
theorem found_has {L : Lg} {base : Nat} {rs : List Recd} {m : Nat} (hb : base = L.m.base) (hs : L.starts = startsQ L.m.base rs) : FoP L rs (foundQ base (rs.take m)) := by
 subst hb
 refine ⟨by rw [found_len, List.length_take]; omega, by rw [hs, starts_len], fun j x hx => ?_⟩
 obtain ⟨r, h1, h2, h3⟩ := found_get hx
 rw [starts_take] at h3
 have hj : j < m := by
  have := (List.getElem?_eq_some_iff.1 h1).1
  rw [List.length_take] at this; omega
 rw [List.getElem?_take_of_lt hj] at h1 h3
 exact ⟨r, h1, by rw [h2]; rfl, by rw [hs]; exact h3⟩
set_option maxHeartbeats 1000000 in
theorem NewC (h : Base) (n : Nat) (hn1 : 1 ≤ n) (hn2 : n ≤ 8192) : Tr Tryz.prog 21 [.int .i64 n] h [] (fun v h' H' => h' = h ∧ ∃ d Bk, v = .tuple #[dv d, .int .i64 0] ∧ H' = dkA d ⟨Bk, none, 0, 0, 0, 0⟩ (newDk n)) := by
 refine K.enter Tryz.func21 rfl (Nat.le_of_ble_eq_true rfl) (fun F => ?_)
 (repeat' first | refine X.rq ?_ | refine X.rc ?_ ?_ <;> intro hc <;> try omega)
 all_goals try (exfalso; omega)
 refine K.l_makeSlice (m := n) (c := n) (Fx.und rfl) (Fx.sz rfl) zrS rfl (Fx.byt rfl) rfl rfl (Nat.le_refl _) (by omega) (by unfold maxLen; omega) rfl (fun Bk => ?_)
 rw [made_sec]
 refine K.WL.nilBuf 114 513 ?_
 (repeat' first | refine X.rq ?_ | refine X.rc ?_ ?_ <;> intro hc <;> try omega)
 refine K.l_box rfl rfl rfl (fun d => ?_)
 (repeat' first | refine X.rq ?_ | refine X.rc ?_ ?_ <;> intro hc <;> try omega)
 refine K.AT.perm (K.pp [0, 1] rfl) ?_
 have e1 : (List.replicate n (nul 512)) = (newDk n).kept.map seB := by
  show _ = (List.replicate n zs).map seB
  rw [List.map_replicate, seB_zs]
 have e2 : (newDk n).kept.length = n := List.length_replicate
 refine K.done (by first | exact Or.inl rfl | exact Or.inr rfl) rfl (by first | exact K.Base.le.refl _ | assumption) (H' := [_, _, _]) rfl ⟨rfl, d, Bk, rfl, ?_⟩
 unfold dkA dkV keptA cacheA
 rw [e2, ← e1]
 rfl
theorem cels_bytes {h : Base} {KK : List Asrt} {T b m cap : Nat} {l : List UInt8} (j : Nat) (hj : KK[j]? = some (bufA T 1 (some b) m cap (l.map u8))) : Cels h KK b 0 (l.map u8) := K.cels_of fun i u hi => ⟨fun w hs => by
 obtain ⟨sp, fz, g1, _⟩ := hs.own _ (List.mem_of_getElem? hj)
 have hc : (l.map u8 ++ sp)[i]? = some u := by rw [List.getElem?_append_left (List.getElem?_eq_some_iff.1 hi).1]; exact hi
 rw [Nat.zero_add]
 have := List.getElem?_eq_some_iff.1 hc
 simp [World.cell?, g1, hc]⟩
structure PlS where
 j : Nat
 hb : Base
 M : SM
 W : LM
 Dm : DM
 D : Dk
 L : Lg
 rs : List Recd
 m : Nat
set_option maxHeartbeats 16000000 in
theorem WalPlaysW (h : Base) (sc n : Int) (v : Value) (l : List PAct) (hsc : in64 sc) (hn : in64 n) (hv : ActsV h v l) (hl : l.length ≤ 9223372036854775807) :
  Tr Tryz.prog 5 [.int .i64 sc, .int .i64 n, v] h [] (fun u h' H' => u = .bool true ∧ H' = []) := by
 have hlong := LLong h v l hv hl
 obtain ⟨es, hv, hel, hr⟩ := hv
 obtain ⟨ao, ca, rfl⟩ := hv.len
 rw [hel] at hv hlong ⊢
 refine K.enter Tryz.func5 rfl (Nat.le_of_ble_eq_true rfl) (fun F => ?_)
 simp only [List.nil_append]
 by_cases hs0 : 1 ≤ sc ∧ sc ≤ 256
 rotate_left
 ·(repeat' first | refine X.rq ?_ | refine X.rc ?_ ?_ <;> intro hc <;> try omega)
  all_goals try (exfalso; omega)
  all_goals
   refine K.l_call (Fx.cal rfl) rfl (Alive _) (K.pp [] rfl) rfl ?_
   rintro u h9 H' le9 ⟨rfl, rfl⟩
   simp only [List.nil_append]
   (repeat' first | refine X.rq ?_ | refine X.rc ?_ ?_ <;> intro hc <;> try omega)
   exact K.done (vs := [.bool true]) (by first | exact Or.inl rfl | exact Or.inr rfl) rfl le9 (H' := []) rfl ⟨rfl, rfl⟩
 obtain ⟨k, rfl⟩ : ∃ k : Nat, sc = (k : Int) := ⟨sc.toNat, by omega⟩
 have hk1 : 1 ≤ k := by omega
 have hk2 : k ≤ 256 := by omega
 (repeat' first | refine X.rq ?_ | refine X.rc ?_ ?_ <;> intro hc <;> try omega)
 all_goals try (exfalso; omega)
 refine K.l_call (Fx.cal rfl) rfl hlong (K.pp [] rfl) rfl ?_
 rintro u h' H' - ⟨rfl, rfl, b, rfl, hb⟩
 simp only [List.nil_append]
 cases b with
 | true =>
  (repeat' first | refine X.rq ?_ | refine X.rc ?_ ?_ <;> intro hc <;> try omega)
  refine K.l_call (Fx.cal rfl) rfl (Alive _) (K.pp [] rfl) rfl ?_
  rintro u h9 H' le9 ⟨rfl, rfl⟩
  simp only [List.nil_append]
  (repeat' first | refine X.rq ?_ | refine X.rc ?_ ?_ <;> intro hc <;> try omega)
  exact K.done (vs := [.bool true]) (by first | exact Or.inl rfl | exact Or.inr rfl) rfl le9 (H' := []) rfl ⟨rfl, rfl⟩
 | false =>
  obtain ⟨hl2, hfew⟩ := hb rfl
  clear hb hlong
  have k0 : DkOk (newDk k) := newOk (by omega) (by omega)
  have kl : (newDk k).kept.length = k := List.length_replicate
  (repeat' first | refine X.rq ?_ | refine X.rc ?_ ?_ <;> intro hc <;> try omega)
  refine K.l_call (Fx.cal rfl) rfl (NewC h' k hk1 (by omega)) (K.pp [] rfl) rfl ?_
  rintro u h1 H' - ⟨rfl, d, Bk, rfl, rfl⟩
  unfold dkA
  simp only [List.cons_append, List.nil_append]
  have hF := fun M => Format h1 d M (newDk k) n k0 (by show 0 + 10000 ≤ roomMax; decide)
  unfold dkA at hF
  (repeat' first | refine X.rq ?_ | refine X.rc ?_ ?_ <;> intro hc <;> try omega)
  refine K.l_call (Fx.cal rfl) rfl (hF _) (K.pp [0, 0, 0] rfl) rfl ?_
  rintro u h2 H' le2 ⟨rfl, M2, hM2, rfl⟩
  simp only [Go.K.nmz]
  by_cases hn0 : 16 ≤ n ∧ n < (k : Int)
  rotate_left
  ·have hbad : n < 16 ∨ ((newDk k).kept.length : Int) ≤ n := by rw [kl]; omega
   obtain rfl := hM2 hbad
   have ef : formatQ n (newDk k) = (1, newDk k) := if_pos hbad
   rw [ef]
   dsimp only
   have hC := Counts h2 d ⟨Bk, none, 0, 0, 0, 0⟩ (newDk k)
   unfold dkA at hC
   (repeat' first | refine X.rq ?_ | refine X.rc ?_ ?_ <;> intro hc <;> try omega)
   all_goals try (exfalso; omega)
   all_goals
    refine K.l_callV (Fx.cal rfl) rfl hC (K.pp [0, 0, 0] rfl) rfl rfl ?_
    simp only [Go.K.nmz]
    (repeat' first | refine X.rq ?_ | refine X.rc ?_ ?_ <;> intro hc <;> try omega)
    refine K.l_call (Fx.cal rfl) rfl (Alive _) (K.pp [] rfl) rfl ?_
    rintro u h9 H' le9 ⟨rfl, rfl⟩
    simp only [List.nil_append]
    (repeat' first | refine X.rq ?_ | refine X.rc ?_ ?_ <;> intro hc <;> try omega)
    exact K.doneC (vs := [.bool true]) (by first | exact Or.inl rfl | exact Or.inr rfl) (.tmp rfl .nil) (le2.trans le9) (D := [_, _, _]) (H' := []) rfl ⟨rfl, rfl⟩
  obtain ⟨nn, rfl⟩ : ∃ nn : Nat, n = (nn : Int) := ⟨n.toNat, by omega⟩
  obtain ⟨g0, g1, g2, g3⟩ := format_run (D := newDk k) (n := nn) k0 rfl ⟨rfl, rfl⟩ (by omega) (by rw [kl]; omega)
  rw [g0]
  clear hM2
  generalize (formatQ (nn : Int) (newDk k)).2 = D1 at g1 g2 g3 ⊢
  rw [kl] at g2
  have hO := Open h2 d M2 D1 g3.ok (by rw [g3.cache]; decide)
  unfold dkA at hO
  (repeat' first | refine X.rq ?_ | refine X.rc ?_ ?_ <;> intro hc <;> try omega)
  all_goals try (exfalso; omega)
  refine K.l_call (Fx.cal rfl) rfl hO (K.pp [0, 0, 0] rfl) rfl ?_
  rintro u h3 H' le3 ⟨r, D3, M3, H3, hop, rfl, hV⟩
  obtain ⟨g4, g5, L3, rfl, g6, gm⟩ := open_run g3 g1 hop
  obtain ⟨p, W, sv, rfl, hrs, hst, rfl⟩ := hV
  obtain ⟨es4, hs4, he4, _⟩ := hrs
  obtain ⟨a4, c4, rfl⟩ := hs4.len
  have he0 : es4.length = 0 := by rw [he4]; rfl
  rw [he0]
  have q1 := g6.str
  have q2 := g6.sts
  have q3 := g6.dur
  obtain ⟨mm, ss, st, du⟩ := L3
  dsimp only at gm q1 q2 q3 hst
  subst gm q1 q2
  rw [show (master0 nn).base + lenQ (([] : List Recd).take 0 |>.take 0) = 1 from rfl] at q3
  subst q3
  have w1 : bytesQ [] = [] := rfl
  have w2 : startsQ (master0 nn).base [] = [] := rfl
  simp only [List.take_nil, w1, w2] at g6 hst ⊢
  unfold lgA
  simp only [Go.K.nmz]
  (repeat' first | refine X.rq ?_ | refine X.rc ?_ ?_ <;> intro hc <;> try omega)
  refine K.l_box rfl rfl rfl (fun s => ?_)
  refine K.WL.nilBuf 45 15 ?_
  refine K.WL.nilBuf 27 1 ?_
  refine K.WL.nilBuf 5 1 ?_
  have hno : RowsG (RecC h3) ([] : List (List Value)) ([] : List Recd) := ⟨rfl, fun j c x hc => by simp at hc⟩
  have hte := STellsA h3 s p d ⟨none, 0, none, 0, none, 0, []⟩ W ⟨master0 nn, [], [], 1⟩ [] hno g6.lgOk hst
  unfold stA lgA at hte
  (repeat' first | refine X.rq ?_ | refine X.rc ?_ ?_ <;> intro hc <;> try omega)
  all_goals try (exfalso; omega)
  refine K.l_callV (Fx.cal rfl) rfl hte (K.pp [3, 0, 0, 0, 0, 0, 0] rfl) rfl rfl ?_
  simp only [Go.K.nmz]
  (repeat' first | refine X.rq ?_ | refine X.rc ?_ ?_ <;> intro hc <;> try omega)
  all_goals try (exfalso; omega)
  have le23 := le2.trans le3
  have hrows : ∀ h9, h3.le h9 → ∀ (j : Nat) c x, es[j]? = some c → l[j]? = some x → ActC h9 c x := fun h9 le9 j c x a b => (hr j c x a b).le (le23.trans le9)
  clear hr hte hF hO
  refine K.c_loop (σ := PlS) (fun q => [(1, .int .i64 nn), (2, .slice ao l.length ca), (7, dv d), (10, pv p), (13, pv s), (14, .int .i64 q.j)]) (fun q => q.hb) (fun q => playA s p d q.M q.W q.Dm q.D q.L q.rs ++ F)
   (fun q => h3.le q.hb ∧ PlayX q.hb q.M q.W q.D q.L q.rs q.m ∧ q.j ≤ l.length ∧ q.L.m.n = nn ∧ q.D.kept.length = k) (fun q => l.length - q.j)
   ⟨0, h3, ⟨none, 0, none, 0, none, 0, []⟩, W, M3, D3, ⟨master0 nn, [], [], 1⟩, [], 0⟩ ⟨K.Base.le.refl _, ⟨g6, g4, hno, hst⟩, Nat.zero_le _, rfl, by show D3.kept.length = k; omega⟩ (by repeat (first | exact K.Sub.nil _ | refine K.Sub.cons rfl ?_)) rfl rfl ?_
  rintro ⟨j, hb, M, W, Dm, D, L, rs, m⟩ ⟨hle, hp, hj, hLn, hDk⟩ KL hKL
  dsimp only at hle hp hj hLn hDk ⊢
  clear hst g6 hno
  by_cases hjl : j < l.length
  ·have hc1 : es[j]? = some (es[j]'(by omega)) := List.getElem?_eq_getElem (by omega)
   have hc0 : es[((j : Nat) : Int).toNat]? = some (es[j]'(by omega)) := by rw [Int.toNat_natCast]; exact hc1
   have he1 : l[j]? = some (l[j]'hjl) := List.getElem?_eq_getElem hjl
   have hfx := hfew (l[j]'hjl) (List.getElem_mem hjl)
   generalize es[j]'(by omega) = c at hc0 hc1
   generalize l[j]'hjl = x at he1 hfx
   have hxc := hrows hb hle j c x hc1 he1
   have hcl : c.length = 17 := by
    obtain ⟨_, _, _, cs, rfl, hx⟩ := hxc
    have := rec_len hx
    simp; omega
   have hdoes := Does hb s p d M W Dm D L rs m hp c x hxc hfx
   have hvb := hv.le (le23.trans hle)
   unfold playA stA lgA dkA at hdoes ⊢
   simp only [List.cons_append, List.nil_append]
   (repeat' first | refine X.rq ?_ | refine X.rc ?_ ?_ <;> intro hc <;> try omega)
   refine K.s_pureE (K.p_indexL hvb (Fx.und rfl) (Fx.sz rfl) rfl rfl (by omega) hc0) rfl ?_
   rintro v2 ⟨b2, o2, rfl, hcel2⟩
   refine K.s_pure (K.p_loadM (vs := c) (Fx.agg rfl) rfl (Cels.up hcel2) (Fx.sz rfl) hcl) rfl ?_
   refine K.l_call (Fx.cal rfl) rfl hdoes (K.pp [0, 0, 0, 0, 0, 0, 0, 0, 0, 0] rfl) rfl ?_
   rintro u h5 H' le5 ⟨rfl, M5, W5, Dm5, D5, L5, rs5, m5, hp5, hk5, hn5, rfl⟩
   have hte := STellsA h5 s p d M5 W5 L5 rs5 hp5.es hp5.run.lgOk hp5.str
   unfold stA lgA at hte
   unfold playA stA lgA dkA
   simp only [List.cons_append, List.nil_append]
   (repeat' first | refine X.rq ?_ | refine X.rc ?_ ?_ <;> intro hc <;> try omega)
   refine K.l_callV (Fx.cal rfl) rfl hte (K.pp [0, 0, 0, 0, 0, 0, 0] rfl) rfl rfl ?_
   unfold stV
   simp only [Go.K.nmz]
   (repeat' first | refine X.rq ?_ | refine X.rc ?_ ?_ <;> intro hc <;> try omega)
   have hok5 := hp5.run.lgOk
   have hdu := hok5.dur
   have hba := hok5.base
   have hst5 := hok5.str
   have hn8 := hok5.mas.n
   unfold lastLSN at hba
   unfold n64
   refine X.draw ([blk s 77 [.int .i64 L5.m.n, .int .u64 (L5.m.base : Int), .int .u64 (L5.m.check : Int), .int .u32 L5.m.kept, bufV M5.a1 L5.stream.length M5.k1, bufV M5.a2 L5.starts.length M5.k2, bufV M5.a3 rs5.length M5.k3, .int .u64 (L5.durable : Int)]]) [] (.pu 0 (.pu 1 (.pu 2 (.pu 4 (.pu 5 (.pu 6 (.st 3 (.st 7 (.pu 8 (.pu 9 (.pu 10 .nil))))))))))) ?_ (hQ := by repeat (first | with_reducible refine K.NoPanic.then ?_ | with_reducible refine K.NoPanic.inBlock ?_ | with_reducible exact K.post_noPanic _ _ | exact K.post_noPanic _ _ | exact K.QN_noPanic | exact K.postS_noPanic | exact K.postX_noPanic | exact K.RPX_noPanic))
   refine K.d_pu rfl (fun _ _ => X.mv) rfl ?_
   refine K.d_pu rfl (fun _ _ => X.nc) rfl ?_
   refine K.d_pu rfl (fun _ _ => X.fa) rfl ?_
   refine K.d_pu rfl (fun _ _ => X.mv) rfl ?_
   refine K.d_pu rfl (fun _ _ => X.nc) rfl ?_
   refine K.d_pu rfl (fun _ _ => X.fa) rfl ?_
   refine K.d_st rfl X.ld rfl ?_
   refine K.d_st rfl X.ld rfl ?_
   refine K.d_pu rfl (fun _ _ => X.bsub) rfl ?_
   refine K.d_pu rfl (fun _ _ => X.cv) rfl ?_
   refine K.d_pu rfl (fun _ _ => X.sg) rfl ?_
   refine K.d_nil ?_
   rw [show (L5.durable : Int) - (L5.m.base : Int) = ((L5.durable - L5.m.base : Nat) : Int) by omega]
   have hfl5 : D5.kept.flatten.length = k * 512 := by rw [flat_512 hp5.run.ok.secs, hk5, hDk]
   have him := image_run hp5.run
   have hLn5 : L5.m.n = nn := hn5.trans hLn
   have hnk : nn < k := by omega
   have hil : (imageQ L5.m (L5.stream.take (L5.durable - L5.m.base)) L5.m.n).length = (1 + nn) * 512 := by rw [image_len, hLn5]
   have hIm := SImageA h5 s M5 L5 rs5 (L5.durable - L5.m.base) hp5.es hok5.mas hp5.run.wip (by omega) (by omega)
   unfold stA stV n64 at hIm
   have hDi := Image h5 d Dm5 D5 hp5.run.ok
   unfold dkA at hDi
   (repeat' first | refine X.rq ?_ | refine X.rc ?_ ?_ <;> intro hc <;> try omega)
   refine X.draw ([]) [] (.pu 0 (.pu 2 (.pu 3 (.pu 4 (.pu 7 (.pu 8 (.on 1 (.pu 5 (.st 6 (.on 9 (.st 10 (.pu 11 .nil)))))))))))) ?_ (hQ := by repeat (first | with_reducible refine K.NoPanic.then ?_ | with_reducible refine K.NoPanic.inBlock ?_ | with_reducible exact K.post_noPanic _ _ | exact K.post_noPanic _ _ | exact K.QN_noPanic | exact K.postS_noPanic | exact K.postX_noPanic | exact K.RPX_noPanic))
   refine K.d_pu rfl (fun _ _ => X.mv) rfl ?_
   refine K.d_pu rfl (fun _ _ => X.mv) rfl ?_
   refine K.d_pu rfl (fun _ _ => X.badd) rfl ?_
   refine K.d_pu rfl (fun _ _ => X.bmul) rfl ?_
   refine K.d_pu rfl (fun _ _ => X.mv) rfl ?_
   refine K.d_pu rfl (fun _ _ => X.mv) rfl ?_
   refine K.d_on rfl (fun KK hKK => ?_)
   refine K.l_call (Fx.cal rfl) rfl hDi (K.pp [7, 7, 7] rfl) rfl ?_
   rintro u h7 H' - ⟨e7, a7, c7, rfl, rfl⟩
   obtain rfl := e7.symm
   simp only [List.cons_append, List.nil_append]
   refine K.WL.someBuf 0 rfl (by omega) (fun b7 hb7 => ?_)
   subst hb7
   refine K.WL.capB 0 rfl (fun hcap7 => ?_)
   refine K.l_nil ?_
   refine X.onS hKK [bufA 5 1 (some b7) D5.kept.flatten.length c7 (D5.kept.flatten.map u8)] ?_
   refine K.d_pu rfl (fun _ _ => K.p_sliceU (q := (imageQ L5.m (L5.stream.take (L5.durable - L5.m.base)) L5.m.n).length) (Fx.und rfl) (Fx.sz rfl) rfl rfl (by omega) (by omega)) rfl ?_
   refine K.d_st rfl (K.p_toText (l := imageQ L5.m (L5.stream.take (L5.durable - L5.m.base)) L5.m.n) (Fx.und rfl) (Fx.und rfl) (Fx.und rfl) rfl (by have hz := K.Cels.take (imageQ L5.m (L5.stream.take (L5.durable - L5.m.base)) L5.m.n).length (cels_bytes (h := h5) (KK := [bufA 5 1 (some b7) D5.kept.flatten.length c7 (D5.kept.flatten.map u8)]) 0 rfl); rw [← List.map_take, hil, ← hLn5, him] at hz; exact hz)) rfl ?_
   refine K.d_on rfl (fun KK hKK => ?_)
   refine K.l_call (Fx.cal rfl) rfl hIm (K.pp [4, 4, 4, 4] rfl) rfl ?_
   rintro u h8 H' - ⟨e8, H2, rfl, a8, c8, rfl, rfl⟩
   obtain rfl := e8.symm
   simp only [List.cons_append, List.nil_append]
   refine K.l_nil ?_
   refine X.onS hKK [bufA 5 1 a8 (imageQ L5.m (L5.stream.take (L5.durable - L5.m.base)) L5.m.n).length c8 ((imageQ L5.m (L5.stream.take (L5.durable - L5.m.base)) L5.m.n).map u8), bufA 5 1 (some b7) D5.kept.flatten.length c7 (D5.kept.flatten.map u8)] ?_
   refine K.d_st rfl (K.p_toTextB (l := imageQ L5.m (L5.stream.take (L5.durable - L5.m.base)) L5.m.n) 0 rfl (Fx.und rfl) (Fx.und rfl) (Fx.und rfl) rfl) rfl ?_
   refine K.d_pu rfl (fun _ _ => X.bneq) rfl ?_
   rw [decide_eq_false (fun e => e rfl)]
   refine K.d_nil ?_
   (repeat' first | refine X.rq ?_ | refine X.rc ?_ ?_ <;> intro hc <;> try omega)
   refine K.AT.sel [4, 4] rfl ?_
   refine K.AT.perm (K.pp [0, 0, 0, 0, 3, 3, 3] rfl) ?_
   refine K.a_round hKL ⟨j + 1, h5, M5, W5, Dm5, D5, L5, rs5, m5⟩ ⟨hle.trans le5, hp5, by dsimp only; omega, hLn5, hk5.trans hDk⟩ (by repeat (first | exact K.Sub.nil _ | refine K.Sub.cons rfl ?_)) rfl rfl (by dsimp only; omega)
  ·clear hKL
   obtain ⟨a1, k1, a2, k2, a3, k3, ess⟩ := M
   have hok := hp.run.lgOk
   have hba := hok.base
   have hn8 := hok.mas.n
   have hst8 := hok.str
   have hsl8 := hok.sts
   have hO2 := Open hb d Dm D hp.run.ok (by rw [hp.run.cache]; decide)
   unfold dkA at hO2
   unfold playA stA lgA dkA stV n64
   simp only [List.cons_append, List.nil_append]
   (repeat' first | refine X.rq ?_ | refine X.rc ?_ ?_ <;> intro hc <;> try omega)
   refine K.l_call (Fx.cal rfl) rfl hO2 (K.pp [7, 7, 7] rfl) rfl ?_
   rintro u h6 H' le6 ⟨r6, D6, M6, H6, hop6, rfl, hV6⟩
   obtain ⟨f1, f2, L6, rfl, f3, f4⟩ := open_run hp.run hp.on hop6
   obtain ⟨p2, W2, sv, rfl, hrs6, hst6, rfl⟩ := hV6
   have hrs7 := hrs6
   obtain ⟨es6, hs6, he6, _⟩ := hrs6
   obtain ⟨a6, c6, rfl⟩ := hs6.len
   have hml : (rs.take m).length = m := by rw [List.length_take]; have := hp.run.few; omega
   rw [he6, found_len, hml] at hrs7 hs6 ⊢
   have e1 : endQ L6 = L.durable := by
    unfold endQ
    rw [f4, f3.str, hp.run.dur]; rfl
   have hsm : ∀ (i x : Nat), L.starts[i]? = some x → (x < L.durable ↔ i < m) := fun i x hx => by
    have hx' := hx
    rw [hp.run.sts] at hx
    rw [hp.run.dur]
    exact starts_below _ rs m i hp.run.right hp.run.few (by
     have h1 := (List.getElem?_eq_some_iff.1 hx).1
     rw [starts_len] at h1; exact h1) x hx
   have hslen : L.starts.length = rs.length := by rw [hp.run.sts, starts_len]
   have hfewm := hp.run.few
   have hB := LBase h6 p2 d W2 L6
   have hE := LEnd h6 p2 d W2 L6 f3.lgOk hst6
   have hC := LCheck h6 p2 d W2 L6
   have hK := LKept h6 p2 d W2 L6
   have hFo := SFoundA h6 s ⟨a1, k1, a2, k2, a3, k3, ess⟩ L rs _ _ (rows_le hp.es le6) hrs7 (found_has rfl hp.run.sts) (by omega)
   rw [e1] at hE
   rw [f4] at hB hC hK
   unfold lgA at hB hE hC hK
   unfold n64 at hB hE hC
   unfold stA stV n64 at hFo
   unfold lgA
   simp only [Go.K.nmz]
   (repeat' first | refine X.rq ?_ | refine X.rc ?_ ?_ <;> intro hc <;> try omega)
   refine K.c_loop (σ := Nat) (fun j => [(11, .slice a6 m c6), (13, pv s), (16, pv p2), (17, .int .i64 0), (18, .int .i64 ((min j m : Nat) : Int)), (19, .int .i64 j)]) (fun _ => h6) (fun _ => blk p2 34 (lgV d W2 L6) :: W2.sA :: startsA W2 L6 :: blk d 109 (dkV M6 D6) :: keptA M6 D6 :: cacheA M6 D6 :: blk s 77 [.int .i64 L.m.n, .int .u64 (L.m.base : Int), .int .u64 (L.m.check : Int), .int .u32 L.m.kept, bufV a1 L.stream.length k1, bufV a2 L.starts.length k2, bufV a3 rs.length k3, .int .u64 (L.durable : Int)] :: stA1 ⟨a1, k1, a2, k2, a3, k3, ess⟩ L :: stA2 ⟨a1, k1, a2, k2, a3, k3, ess⟩ L :: stA3 ⟨a1, k1, a2, k2, a3, k3, ess⟩ rs :: blk p 34 (lgV d W L) :: W.sA :: startsA W L :: F)
    (fun j => j ≤ L.starts.length) (fun j => L.starts.length - j) 0 (Nat.zero_le _) (by repeat (first | exact K.Sub.nil _ | refine K.Sub.cons rfl ?_)) rfl rfl ?_
   rintro i hi KM hKM
   by_cases hil : i < L.starts.length
   ·have hy1 : L.starts[i]? = some (L.starts[i]'hil) := List.getElem?_eq_getElem hil
    generalize L.starts[i]'hil = y at hy1
    have hyd := hsm i y hy1
    (repeat' first | refine X.rq ?_ | refine X.rc ?_ ?_ <;> intro hc <;> try omega)
    refine K.WC.someBuf 8 rfl (by omega) (fun b hb9 => ?_)
    dsimp only at hb9
    subst hb9
    refine X.draw ([blk s 77 [.int .i64 L.m.n, .int .u64 (L.m.base : Int), .int .u64 (L.m.check : Int), .int .u32 L.m.kept, bufV a1 L.stream.length k1, bufV (some b) L.starts.length k2, bufV a3 rs.length k3, .int .u64 (L.durable : Int)], stA2 ⟨a1, k1, some b, k2, a3, k3, ess⟩ L]) [] (.pu 0 (.pu 1 (.pu 2 (.pu 4 (.pu 7 (.pu 8 (.pu 9 (.st 3 (.pu 5 (.st 6 (.st 10 (.pu 11 .nil)))))))))))) ?_ (hQ := by repeat (first | with_reducible refine K.NoPanic.then ?_ | with_reducible refine K.NoPanic.inBlock ?_ | with_reducible exact K.post_noPanic _ _ | exact K.post_noPanic _ _ | exact K.QN_noPanic | exact K.postS_noPanic | exact K.postX_noPanic | exact K.RPX_noPanic))
    refine K.d_pu rfl (fun _ _ => X.mv) rfl ?_
    refine K.d_pu rfl (fun _ _ => X.nc) rfl ?_
    refine K.d_pu rfl (fun _ _ => X.fa) rfl ?_
    refine K.d_pu rfl (fun _ _ => X.mv) rfl ?_
    refine K.d_pu rfl (fun _ _ => X.mv) rfl ?_
    refine K.d_pu rfl (fun _ _ => X.nc) rfl ?_
    refine K.d_pu rfl (fun _ _ => X.fa) rfl ?_
    refine K.d_st rfl X.ld rfl ?_
    refine K.d_pu rfl (fun _ _ => X.ia) rfl ?_
    refine K.d_st rfl (K.p_load (v := .int .u64 y) (Fx.agg rfl) rfl (cel_nums (l := L.starts) 1 rfl hy1)) rfl ?_
    refine K.d_st rfl X.ld rfl ?_
    refine K.d_pu rfl (fun _ _ => X.blss) rfl ?_
    refine K.d_nil ?_
    by_cases him : i < m
    ·have hlt := hyd.2 him
     (repeat' first | refine X.rq ?_ | refine X.rc ?_ ?_ <;> intro hc <;> try omega)
     all_goals try (exfalso; omega)
     rw [show ((min i m : Nat) : Int) + 1 = ((min (i + 1) m : Nat) : Int) by omega]
     refine K.a_round hKM (i + 1) (by omega) (by repeat (first | exact K.Sub.nil _ | refine K.Sub.cons rfl ?_)) rfl rfl (by omega)
    ·have hlt := fun h => him (hyd.1 h)
     (repeat' first | refine X.rq ?_ | refine X.rc ?_ ?_ <;> intro hc <;> try omega)
     all_goals try (exfalso; omega)
     rw [show ((min i m : Nat) : Int) = ((min (i + 1) m : Nat) : Int) by omega]
     refine K.a_round hKM (i + 1) (by omega) (by repeat (first | exact K.Sub.nil _ | refine K.Sub.cons rfl ?_)) rfl rfl (by omega)
   ·clear hKM
    obtain rfl : i = L.starts.length := by omega
    (repeat' first | refine X.rq ?_ | refine X.rc ?_ ?_ <;> intro hc <;> try omega)
    rw [show ((min L.starts.length m : Nat) : Int) = (m : Int) by omega]
    refine X.draw ([blk s 77 [.int .i64 L.m.n, .int .u64 (L.m.base : Int), .int .u64 (L.m.check : Int), .int .u32 L.m.kept, bufV a1 L.stream.length k1, bufV a2 L.starts.length k2, bufV a3 rs.length k3, .int .u64 (L.durable : Int)]]) [] (.pu 0 (.pu 1 (.pu 2 (.pu 3 (.pu 4 (.pu 5 (.pu 6 (.pu 7 (.pu 8 (.pu 9 (.pu 10 (.pu 11 (.pu 12 (.pu 13 (.pu 14 (.on 15 (.pu 16 (.pu 17 (.pu 18 (.pu 20 (.pu 21 (.pu 22 (.st 23 (.on 19 (.pu 24 (.pu 25 (.pu 26 (.pu 27 (.pu 29 (.pu 30 (.pu 31 (.st 32 (.on 28 (.pu 33 (.pu 34 (.pu 35 (.pu 36 (.pu 38 (.pu 39 (.pu 40 (.st 41 (.on 37 (.pu 42 (.pu 43 (.pu 44 (.pu 45 (.pu 47 (.pu 48 (.pu 49 (.st 50 (.on 46 (.pu 51 (.pu 52 (.pu 53 (.on 54 (.pu 55 (.pu 56 .nil))))))))))))))))))))))))))))))))))))))))))))))))))))))))) ?_ (hQ := by repeat (first | with_reducible refine K.NoPanic.then ?_ | with_reducible refine K.NoPanic.inBlock ?_ | with_reducible exact K.post_noPanic _ _ | exact K.post_noPanic _ _ | exact K.QN_noPanic | exact K.postS_noPanic | exact K.postX_noPanic | exact K.RPX_noPanic))
    refine K.d_pu rfl (fun _ _ => X.mv) rfl ?_
    refine K.d_pu rfl (fun _ _ => X.beql) rfl ?_
    rw [decide_eq_true (show (0 : Int) = 0 from rfl)]
    refine K.d_pu rfl (fun _ _ => X.mv) rfl ?_
    first | refine K.d_skip rfl rfl rfl rfl ?_ | refine K.d_skipU rfl rfl rfl rfl rfl ?_ | refine K.d_puG rfl rfl rfl (fun _ _ => X.mv) rfl ?_
    first | refine K.d_skip rfl rfl rfl rfl ?_ | refine K.d_skipU rfl rfl rfl rfl rfl ?_ | refine K.d_puG rfl rfl rfl (fun _ _ => X.bneq) rfl ?_
    refine K.d_pu rfl (fun _ _ => X.pk) rfl ?_
    refine K.d_pu rfl (fun _ _ => X.mv) rfl ?_
    first | refine K.d_skip rfl rfl rfl rfl ?_ | refine K.d_skipU rfl rfl rfl rfl rfl ?_ | refine K.d_puG rfl rfl rfl (fun _ _ => X.mv) rfl ?_
    first | refine K.d_skip rfl rfl rfl rfl ?_ | refine K.d_skipU rfl rfl rfl rfl rfl ?_ | refine K.d_puG rfl rfl rfl (fun _ _ => X.len) rfl ?_
    first | refine K.d_skip rfl rfl rfl rfl ?_ | refine K.d_skipU rfl rfl rfl rfl rfl ?_ | refine K.d_puG rfl rfl rfl (fun _ _ => X.mv) rfl ?_
    first | refine K.d_skip rfl rfl rfl rfl ?_ | refine K.d_skipU rfl rfl rfl rfl rfl ?_ | refine K.d_puG rfl rfl rfl (fun _ _ => X.beql) rfl ?_
    rw [decide_eq_true (show (m : Int) = m from rfl)]
    refine K.d_pu rfl (fun _ _ => X.pk) rfl ?_
    refine K.d_pu rfl (fun _ _ => X.mv) rfl ?_
    first | refine K.d_skip rfl rfl rfl rfl ?_ | refine K.d_skipU rfl rfl rfl rfl rfl ?_ | refine K.d_puG rfl rfl rfl (fun _ _ => X.mv) rfl ?_
    first | refine K.d_skip rfl rfl rfl rfl ?_ | refine K.d_skipU rfl rfl rfl rfl rfl ?_ | refine K.d_puG rfl rfl rfl (fun _ _ => X.mv) rfl ?_
    refine K.d_on rfl (fun KK hKK => ?_)
    refine K.s_take rfl rfl ?_
    refine K.l_callV (Fx.cal rfl) rfl hFo (K.pp [6, 6, 6, 6] rfl) rfl rfl ?_
    simp only [Go.K.nmz]
    refine K.l_nil ?_
    refine X.onE hKK ?_
    refine K.d_pu rfl (fun _ _ => X.pk) rfl ?_
    refine K.d_pu rfl (fun _ _ => X.mv) rfl ?_
    first | refine K.d_skip rfl rfl rfl rfl ?_ | refine K.d_skipU rfl rfl rfl rfl rfl ?_ | refine K.d_puG rfl rfl rfl (fun _ _ => X.mv) rfl ?_
    first | refine K.d_skip rfl rfl rfl rfl ?_ | refine K.d_skipU rfl rfl rfl rfl rfl ?_ | refine K.d_puG rfl rfl rfl (fun _ _ => X.mv) rfl ?_
    first | refine K.d_skip rfl rfl rfl rfl ?_ | refine K.d_skipU rfl rfl rfl rfl rfl ?_ | refine K.d_puG rfl rfl rfl (fun _ _ => X.nc) rfl ?_
    first | refine K.d_skip rfl rfl rfl rfl ?_ | refine K.d_skipU rfl rfl rfl rfl rfl ?_ | refine K.d_puG rfl rfl rfl (fun _ _ => X.fa) rfl ?_
    first | refine K.d_skipS rfl rfl rfl rfl ?_ | refine K.d_skipUS rfl rfl rfl rfl rfl ?_ | refine K.d_stG rfl rfl rfl X.ld rfl ?_
    refine K.d_on rfl (fun KK hKK => ?_)
    refine K.s_take rfl rfl ?_
    refine K.l_callV (Fx.cal rfl) rfl hB (K.pp [4, 4, 4] rfl) rfl rfl ?_
    simp only [Go.K.nmz]
    refine K.l_nil ?_
    refine X.onE hKK ?_
    first | refine K.d_skip rfl rfl rfl rfl ?_ | refine K.d_skipU rfl rfl rfl rfl rfl ?_ | refine K.d_puG rfl rfl rfl (fun _ _ => X.beql) rfl ?_
    rw [decide_eq_true (show (L.m.base : Int) = L.m.base from rfl)]
    refine K.d_pu rfl (fun _ _ => X.pk) rfl ?_
    refine K.d_pu rfl (fun _ _ => X.mv) rfl ?_
    first | refine K.d_skip rfl rfl rfl rfl ?_ | refine K.d_skipU rfl rfl rfl rfl rfl ?_ | refine K.d_puG rfl rfl rfl (fun _ _ => X.mv) rfl ?_
    first | refine K.d_skip rfl rfl rfl rfl ?_ | refine K.d_skipU rfl rfl rfl rfl rfl ?_ | refine K.d_puG rfl rfl rfl (fun _ _ => X.mv) rfl ?_
    first | refine K.d_skip rfl rfl rfl rfl ?_ | refine K.d_skipU rfl rfl rfl rfl rfl ?_ | refine K.d_puG rfl rfl rfl (fun _ _ => X.nc) rfl ?_
    first | refine K.d_skip rfl rfl rfl rfl ?_ | refine K.d_skipU rfl rfl rfl rfl rfl ?_ | refine K.d_puG rfl rfl rfl (fun _ _ => X.fa) rfl ?_
    first | refine K.d_skipS rfl rfl rfl rfl ?_ | refine K.d_skipUS rfl rfl rfl rfl rfl ?_ | refine K.d_stG rfl rfl rfl X.ld rfl ?_
    refine K.d_on rfl (fun KK hKK => ?_)
    refine K.s_take rfl rfl ?_
    refine K.l_callV (Fx.cal rfl) rfl hE (K.pp [0, 0, 0] rfl) rfl rfl ?_
    simp only [Go.K.nmz]
    refine K.l_nil ?_
    refine X.onE hKK ?_
    first | refine K.d_skip rfl rfl rfl rfl ?_ | refine K.d_skipU rfl rfl rfl rfl rfl ?_ | refine K.d_puG rfl rfl rfl (fun _ _ => X.beql) rfl ?_
    rw [decide_eq_true (show (L.durable : Int) = L.durable from rfl)]
    refine K.d_pu rfl (fun _ _ => X.pk) rfl ?_
    refine K.d_pu rfl (fun _ _ => X.mv) rfl ?_
    first | refine K.d_skip rfl rfl rfl rfl ?_ | refine K.d_skipU rfl rfl rfl rfl rfl ?_ | refine K.d_puG rfl rfl rfl (fun _ _ => X.mv) rfl ?_
    first | refine K.d_skip rfl rfl rfl rfl ?_ | refine K.d_skipU rfl rfl rfl rfl rfl ?_ | refine K.d_puG rfl rfl rfl (fun _ _ => X.mv) rfl ?_
    first | refine K.d_skip rfl rfl rfl rfl ?_ | refine K.d_skipU rfl rfl rfl rfl rfl ?_ | refine K.d_puG rfl rfl rfl (fun _ _ => X.nc) rfl ?_
    first | refine K.d_skip rfl rfl rfl rfl ?_ | refine K.d_skipU rfl rfl rfl rfl rfl ?_ | refine K.d_puG rfl rfl rfl (fun _ _ => X.fa) rfl ?_
    first | refine K.d_skipS rfl rfl rfl rfl ?_ | refine K.d_skipUS rfl rfl rfl rfl rfl ?_ | refine K.d_stG rfl rfl rfl X.ld rfl ?_
    refine K.d_on rfl (fun KK hKK => ?_)
    refine K.s_take rfl rfl ?_
    refine K.l_callV (Fx.cal rfl) rfl hC (K.pp [0, 0, 0] rfl) rfl rfl ?_
    simp only [Go.K.nmz]
    refine K.l_nil ?_
    refine X.onE hKK ?_
    first | refine K.d_skip rfl rfl rfl rfl ?_ | refine K.d_skipU rfl rfl rfl rfl rfl ?_ | refine K.d_puG rfl rfl rfl (fun _ _ => X.beql) rfl ?_
    rw [decide_eq_true (show (L.m.check : Int) = L.m.check from rfl)]
    refine K.d_pu rfl (fun _ _ => X.pk) rfl ?_
    refine K.d_pu rfl (fun _ _ => X.mv) rfl ?_
    first | refine K.d_skip rfl rfl rfl rfl ?_ | refine K.d_skipU rfl rfl rfl rfl rfl ?_ | refine K.d_puG rfl rfl rfl (fun _ _ => X.mv) rfl ?_
    first | refine K.d_skip rfl rfl rfl rfl ?_ | refine K.d_skipU rfl rfl rfl rfl rfl ?_ | refine K.d_puG rfl rfl rfl (fun _ _ => X.mv) rfl ?_
    first | refine K.d_skip rfl rfl rfl rfl ?_ | refine K.d_skipU rfl rfl rfl rfl rfl ?_ | refine K.d_puG rfl rfl rfl (fun _ _ => X.nc) rfl ?_
    first | refine K.d_skip rfl rfl rfl rfl ?_ | refine K.d_skipU rfl rfl rfl rfl rfl ?_ | refine K.d_puG rfl rfl rfl (fun _ _ => X.fa) rfl ?_
    first | refine K.d_skipS rfl rfl rfl rfl ?_ | refine K.d_skipUS rfl rfl rfl rfl rfl ?_ | refine K.d_stG rfl rfl rfl X.ld rfl ?_
    refine K.d_on rfl (fun KK hKK => ?_)
    refine K.s_take rfl rfl ?_
    refine K.l_callV (Fx.cal rfl) rfl hK (K.pp [0, 0, 0] rfl) rfl rfl ?_
    simp only [Go.K.nmz]
    refine K.l_nil ?_
    refine X.onE hKK ?_
    first | refine K.d_skip rfl rfl rfl rfl ?_ | refine K.d_skipU rfl rfl rfl rfl rfl ?_ | refine K.d_puG rfl rfl rfl (fun _ _ => X.beql) rfl ?_
    rw [decide_eq_true (show (L.m.kept : Int) = L.m.kept from rfl)]
    refine K.d_pu rfl (fun _ _ => X.pk) rfl ?_
    refine K.d_pu rfl (fun _ _ => X.mv) rfl ?_
    refine K.d_on rfl (fun KK hKK => ?_)
    refine K.s_take rfl rfl ?_
    refine K.l_call (Fx.cal rfl) rfl (Alive _) (K.pp [] rfl) rfl ?_
    rintro u h9 H' le9 ⟨rfl, rfl⟩
    simp only [List.nil_append]
    refine K.l_nil ?_
    refine X.onE hKK ?_
    refine K.d_pu rfl (fun _ _ => X.pk) rfl ?_
    refine K.d_pu rfl (fun _ _ => X.sg) rfl ?_
    refine K.d_nil ?_
    (repeat' first | refine X.rq ?_ | refine X.rc ?_ ?_ <;> intro hc <;> try omega)
    exact K.doneC (vs := [.bool true]) (by first | exact Or.inl rfl | exact Or.inr rfl) (.tmp rfl .nil) (le23.trans (hle.trans (le6.trans le9))) (D := [_, _, _, _, _, _, _, _, _, _, _, _, _]) (H' := []) rfl ⟨rfl, rfl⟩
end Go.Proofs.YtmcdaegaopfihaaGreat.Wl
