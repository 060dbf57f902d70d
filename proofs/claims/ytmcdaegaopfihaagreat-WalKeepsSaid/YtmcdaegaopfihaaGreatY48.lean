/-
 The law: whatever is done to a log, and at whatever operation the power goes. Conditions: each theorem's own.
-/
import Derived.Test.YtmcdaegaopfihaaGreatY47
namespace Go.Proofs.YtmcdaegaopfihaaGreat.Wl
open Go Go.K Go.Proofs Go.Proofs.YtmcdaegaopfihaaGreat Go.Proofs.YtmcdaegaopfihaaGreat.Pg Go.Proofs.YtmcdaegaopfihaaGreat.Cc Go.Proofs.YtmcdaegaopfihaaGreat.Rc
set_option linter.unusedVariables false
set_option linter.unusedSimpArgs false
set_option maxRecDepth 10000

structure RlS where
 j : Nat
 hb : Base
 p : Nat
 M : FM
 W : LM
 Dm : DM
 D : Dk
 L : Lg
 rs : List Recd
structure OlS where
 i : Nat
 hb : Base
 Dm : DM
 D : Dk
set_option maxHeartbeats 32000000 in
theorem WalKeepsW (h : Base) (sc n : Int) (v : Value) (l : List PRnd) (hsc : in64 sc) (hn : in64 n) (hv : RndsV h v l) (hl : l.length ≤ 9223372036854775807) :
  Tr Tryz.prog 4 [.int .i64 sc, .int .i64 n, v] h [] (fun u h' H' => u = .bool true ∧ H' = []) := by
 obtain ⟨es, hv, hel, hr⟩ := hv
 obtain ⟨ao, ca, rfl⟩ := hv.len
 rw [hel] at hv ⊢
 refine K.enter Tryz.func4 rfl (Nat.le_of_ble_eq_true rfl) (fun F => ?_)
 simp only [List.nil_append]
 by_cases hs0 : 16 ≤ n ∧ n < sc ∧ sc ≤ 256 ∧ l.length ≤ 40
 rotate_left
 ·(repeat' first | refine X.rq ?_ | refine X.rc ?_ ?_ <;> intro hc <;> try omega)
  all_goals try (exfalso; omega)
  all_goals
   refine K.l_call (Fx.cal rfl) rfl (Alive _) (K.pp [] rfl) rfl ?_
   rintro u h9 H' le9 ⟨rfl, rfl⟩
   simp only [List.nil_append]
   (repeat' first | refine X.rq ?_ | refine X.rc ?_ ?_ <;> intro hc <;> try omega)
   exact K.done (vs := [.bool true]) (by first | exact Or.inl rfl | exact Or.inr rfl) rfl le9 (H' := []) rfl ⟨rfl, rfl⟩
 obtain ⟨k, rfl⟩ : ∃ k : Nat, sc = (k : Int) := ⟨sc.toNat, by omega⟩
 obtain ⟨nn, rfl⟩ : ∃ nn : Nat, n = (nn : Int) := ⟨n.toNat, by omega⟩
 have hk1 : 1 ≤ k := by omega
 have hk2 : k ≤ 256 := by omega
 have k0 : DkOk (newDk k) := newOk (by omega) (by omega)
 have kl : (newDk k).kept.length = k := List.length_replicate
 (repeat' first | refine X.rq ?_ | refine X.rc ?_ ?_ <;> intro hc <;> try omega)
 all_goals try (exfalso; omega)
 refine K.l_call (Fx.cal rfl) rfl (New h k (by omega) (by omega)) (K.pp [] rfl) rfl ?_
 rintro u h' H' - ⟨e7, hne⟩
 obtain rfl := e7.symm
 rcases hne with ⟨_, _, d, M1, rfl, rfl⟩ | ⟨hx, _⟩
 rotate_left
 ·exfalso; exact hx ⟨by omega, by omega⟩
 rw [Int.toNat_natCast]
 obtain ⟨g0, g1, g2, g3⟩ := format_run (D := newDk k) (n := nn) k0 rfl ⟨rfl, rfl⟩ (by omega) (by rw [kl]; omega)
 have hF := fun M => Format h d M (newDk k) nn k0 (by show 0 + 10000 ≤ roomMax; decide)
 rw [g0] at hF
 generalize (formatQ (nn : Int) (newDk k)).2 = D1 at g1 g2 g3 hF
 rw [kl] at g2
 unfold dkA at hF
 unfold dkA
 simp only [List.cons_append, List.nil_append]
 (repeat' first | refine X.rq ?_ | refine X.rc ?_ ?_ <;> intro hc <;> try omega)
 all_goals try (exfalso; omega)
 refine K.l_call (Fx.cal rfl) rfl (hF _) (K.pp [0, 0, 0] rfl) rfl ?_
 rintro u h2 H' le2 ⟨rfl, M2, -, rfl⟩
 simp only [Go.K.nmz]
 (repeat' first | refine X.rq ?_ | refine X.rc ?_ ?_ <;> intro hc <;> try omega)
 all_goals try (exfalso; omega)
 refine K.l_box rfl rfl rfl (fun x => ?_)
 refine K.WL.nilBuf 45 15 ?_
 have hno : RowsG (RecC h2) ([] : List (List Value)) ([] : List Recd) := ⟨rfl, fun j c x hc => by simp at hc⟩
 have hop := LOpens h2 x d M2 (.pointer none) ⟨none, 0, [], 0, 0⟩ D1 nn 1 0 [] 0 none ⟨g3.lost, g3.cache, g1, hno, by decide, by decide, fun y hy => by cases hy⟩
 unfold lfA dkA at hop
 (repeat' first | refine X.rq ?_ | refine X.rc ?_ ?_ <;> intro hc <;> try omega)
 refine K.l_call (Fx.cal rfl) rfl hop (K.pp [1, 0, 0, 0, 0] rfl) rfl ?_
 rintro u h3 H' le3 ⟨rfl, p3, M3, W3, Dm3, D3, L3, rs3, hl3, hon3, hk3, hn3, rfl⟩
 clear hop hF
 (repeat' first | refine X.rq ?_ | refine X.rc ?_ ?_ <;> intro hc <;> try omega)
 have le23 := le2.trans le3
 refine K.c_loop (σ := RlS) (fun q => [(2, .slice ao l.length ca), (7, dv d), (9, pv x), (10, .int .i64 q.j)]) (fun q => q.hb) (fun q => liveA x q.p d q.M q.W q.Dm q.D q.L q.rs q.rs.length ++ F)
  (fun q => h3.le q.hb ∧ LiveX q.hb q.M q.W q.D q.L q.rs q.rs.length ∧ NoTrip q.D ∧ q.j ≤ l.length ∧ q.L.m.n = nn ∧ q.D.kept.length = k) (fun q => l.length - q.j)
  ⟨0, h3, p3, M3, W3, Dm3, D3, L3, rs3⟩ ⟨K.Base.le.refl _, hl3, hon3, Nat.zero_le _, hn3, by show D3.kept.length = k; omega⟩ (by repeat (first | exact K.Sub.nil _ | refine K.Sub.cons rfl ?_)) rfl rfl ?_
 rintro ⟨j, hb, p, M, W, Dm, D, L, rs⟩ ⟨hle, hlv, hon, hj, hLn, hDk⟩ KL hKL
 dsimp only at hle hlv hon hj hLn hDk ⊢
 by_cases hjl : j < l.length
 rotate_left
 ·clear hKL
  unfold liveA lfA lgA dkA
  simp only [List.cons_append, List.nil_append]
  (repeat' first | refine X.rq ?_ | refine X.rc ?_ ?_ <;> intro hc <;> try omega)
  refine K.l_call (Fx.cal rfl) rfl (Alive _) (K.pp [] rfl) rfl ?_
  rintro u h9 H' le9 ⟨rfl, rfl⟩
  simp only [List.nil_append]
  (repeat' first | refine X.rq ?_ | refine X.rc ?_ ?_ <;> intro hc <;> try omega)
  exact K.doneC (vs := [.bool true]) (by first | exact Or.inl rfl | exact Or.inr rfl) (.tmp rfl .nil) (le23.trans (hle.trans le9)) (D := [_, _, _, _, _, _, _, _]) (H' := []) rfl ⟨rfl, rfl⟩
 have hc1 : es[j]? = some (es[j]'(by omega)) := List.getElem?_eq_getElem (by omega)
 have hc0 : es[((j : Nat) : Int).toNat]? = some (es[j]'(by omega)) := by rw [Int.toNat_natCast]; exact hc1
 have he1 : l[j]? = some (l[j]'hjl) := List.getElem?_eq_getElem hjl
 generalize es[j]'(by omega) = c at hc0 hc1
 generalize l[j]'hjl = y at he1
 have leb := le23.trans hle
 have hvb := hv.le leb
 obtain ⟨⟨t1, t2⟩, hin, n1, n2, n3, va, vk, vo, rfl, hac, hke, hop⟩ := (hr j c y hc1 he1).le leb
 obtain ⟨acts, trip, keep, opens⟩ := y
 dsimp only at t1 t2 hin n1 n2 n3 hac hke hop hc0
 have hac0 := hac
 obtain ⟨eac, hac1, hac2⟩ := hac0
 obtain ⟨aa, ka, rfl⟩ := hac1.len
 rw [hac2.1] at hac hc0
 obtain ⟨ak, kk, rfl⟩ := hke.len
 obtain ⟨ap, kp, rfl⟩ := hop.len
 simp only [List.length_map] at hke hop hc0
 have hlong := LLong hb _ acts hac n1
 unfold liveA lfA lgA dkA
 simp only [List.cons_append, List.nil_append]
 (repeat' first | refine X.rq ?_ | refine X.rc ?_ ?_ <;> intro hc <;> try omega)
 refine K.s_pureE (K.p_indexL hvb (Fx.und rfl) (Fx.sz rfl) rfl rfl (by omega) hc0) rfl ?_
 rintro v2 ⟨b2, o2, rfl, hcel2⟩
 refine K.s_pure (K.p_loadM (vs := [.slice aa acts.length ka, .int .i64 trip, .slice ak keep.length kk, .slice ap opens.length kp]) (Fx.agg rfl) rfl (Cels.up hcel2) (Fx.sz rfl) rfl) rfl ?_
 clear hcel2
 (repeat' first | refine X.rq ?_ | refine X.rc ?_ ?_ <;> intro hc <;> try omega)
 refine K.l_alloc (Fx.zr rfl) rfl rfl (fun B11 => ?_)
 refine X.stw ?_
 simp only [Go.K.nmz]
 (repeat' first | refine X.rq ?_ | refine X.rc ?_ ?_ <;> intro hc <;> try omega)
 refine K.l_call (Fx.cal rfl) rfl hlong (K.pp [] rfl) rfl ?_
 rintro u h' H' - ⟨e8, rfl, b, rfl, hbf⟩
 obtain rfl := e8.symm
 simp only [List.nil_append]
 have hal : ∀ (h9 : Base), Tr Tryz.prog 7 [] h9 [] (fun u h' H' => u = .bool true ∧ H' = []) := Alive
 by_cases hgo : b = false ∧ opens.length ≤ 20 ∧ keep.length ≤ 4096
 rotate_left
 ·clear hKL
  cases b with
  | true =>
   (repeat' first | refine X.rq ?_ | refine X.rc ?_ ?_ <;> intro hc <;> try omega)
   refine K.l_call (Fx.cal rfl) rfl (hal _) (K.pp [] rfl) rfl ?_
   rintro u h9 H' le9 ⟨rfl, rfl⟩
   simp only [List.nil_append]
   (repeat' first | refine X.rq ?_ | refine X.rc ?_ ?_ <;> intro hc <;> try omega)
   exact K.doneC (vs := [.bool true]) (by first | exact Or.inl rfl | exact Or.inr rfl) (.tmp rfl .nil) (leb.trans le9) (D := [_, _, _, _, _, _, _, _, _]) (H' := []) rfl ⟨rfl, rfl⟩
  | false =>
   (repeat' first | refine X.rq ?_ | refine X.rc ?_ ?_ <;> intro hc <;> try omega)
   all_goals try (exfalso; exact hgo ⟨rfl, by omega, by omega⟩)
   all_goals
    refine K.l_call (Fx.cal rfl) rfl (hal _) (K.pp [] rfl) rfl ?_
    rintro u h9 H' le9 ⟨rfl, rfl⟩
    simp only [List.nil_append]
    (repeat' first | refine X.rq ?_ | refine X.rc ?_ ?_ <;> intro hc <;> try omega)
    exact K.doneC (vs := [.bool true]) (by first | exact Or.inl rfl | exact Or.inr rfl) (.tmp rfl .nil) (leb.trans le9) (D := [_, _, _, _, _, _, _, _, _]) (H' := []) rfl ⟨rfl, rfl⟩
 obtain ⟨rfl, ho20, hk4⟩ := hgo
 obtain ⟨-, hfew⟩ := hbf rfl
 have hTr := Trip hb d Dm D trip hlv.run.ok
 unfold dkA at hTr
 (repeat' first | refine X.rq ?_ | refine X.rc ?_ ?_ <;> intro hc <;> try omega)
 all_goals try (exfalso; omega)
 refine K.l_call (Fx.cal rfl) rfl hTr (K.pp [6, 6, 6] rfl) rfl ?_
 rintro u h4 H' - ⟨e4, rfl, rfl⟩
 obtain rfl := e4.symm
 simp only [Go.K.nmz]
 obtain ⟨tk1, tk2, tk3⟩ := trip_ok hlv.run.ok (n := trip) t2
 have hrunT := hlv.run.trip (t := trip) t2
 unfold tripQ at tk1 tk2 hrunT
 generalize (if D.dark = true then D else { D with trip := max trip (-1) }) = Dt at tk1 tk2 hrunT ⊢
 have hA := LActs hb x p d M W Dm Dt L rs rs.length _ acts ⟨hrunT, hlv.es, hlv.str, hlv.thn, hlv.nxt⟩ hac n1 hfew
 unfold liveA lfA lgA dkA at hA
 (repeat' first | refine X.rq ?_ | refine X.rc ?_ ?_ <;> intro hc <;> try omega)
 refine K.l_call (Fx.cal rfl) rfl hA (K.pp [4, 4, 4, 4, 4, 0, 0, 0] rfl) rfl ?_
 rintro u h5 H' le5 ⟨rfl, lv, M5, Dm5, D5, base5, kept5, rs5, m5, brk5, hlo5, hes5, hth5, hnx5, hbk5, hdk5, rfl⟩
 clear hA
 unfold lfA dkA
 simp only [Go.K.nmz]
 have hCu := Cut h5 d Dm5 D5 _ keep hlo5.ok (hke.le le5) n2
 unfold dkA at hCu
 obtain ⟨c1, c2, c3, c4⟩ := cut_ok hlo5.ok keep
 have hlo6 := hlo5.cut keep
 have hk6 : (cutQ D5 keep).kept.length = k := by rw [c4, hdk5, tk2, hDk]
 (repeat' first | refine X.rq ?_ | refine X.rc ?_ ?_ <;> intro hc <;> try omega)
 refine K.l_call (Fx.cal rfl) rfl hCu (K.pp [2, 2, 2] rfl) rfl ?_
 rintro u h6 H' - ⟨e6, rfl, rfl⟩
 obtain rfl := e6.symm
 simp only [Go.K.nmz]
 generalize cutQ D5 keep = D6 at c1 c2 c3 c4 hlo6 hk6 ⊢
 (repeat' first | refine X.rq ?_ | refine X.rc ?_ ?_ <;> intro hc <;> try omega)
 refine K.c_loop (σ := OlS) (fun q => [(2, .slice ao l.length ca), (7, dv d), (9, pv x), (10, .int .i64 j), (11, pv B11), (12, .int .i64 q.i)]) (fun q => q.hb)
  (fun q => dkA d q.Dm q.D ++ (blk x 64 (lfV d lv (bufV M5.a rs5.length M5.k) m5 base5 kept5 brk5.isSome M5.thn M5.nxt) :: bufA 45 15 M5.a rs5.length M5.k M5.es.flatten :: blk B11 68 [.slice aa acts.length ka, .int .i64 trip, .slice ak keep.length kk, .slice ap opens.length kp] :: F))
  (fun q => h5.le q.hb ∧ Lost q.D L.m.n base5 kept5 rs5 m5 brk5 ∧ q.D.cache = [] ∧ NoTrip q.D ∧ q.i ≤ opens.length ∧ q.D.kept.length = k) (fun q => opens.length - q.i)
  ⟨0, h5, Dm5, D6⟩ ⟨K.Base.le.refl _, hlo6, c3, c2, Nat.zero_le _, hk6⟩ (by repeat (first | exact K.Sub.nil _ | refine K.Sub.cons rfl ?_)) rfl rfl ?_
 rintro ⟨i, h7, Dm7, D7⟩ ⟨le7, hlo7, hca7, hon7, hi, hk7⟩ KM hKM
 dsimp only at le7 hlo7 hca7 hon7 hi hk7 ⊢
 unfold dkA
 simp only [List.cons_append, List.nil_append]
 by_cases hil : i < opens.length
 ·obtain ⟨o, ho1⟩ : ∃ o, opens[i]? = some o := ⟨_, List.getElem?_eq_getElem hil⟩
  obtain ⟨o1, o2⟩ := hin o (List.mem_of_getElem? ho1)
  have hvo := hop.le (le5.trans le7)
  have hvo0 : (opens.map fun n => [Value.int .i64 n])[((i : Nat) : Int).toNat]? = some [.int .i64 o] := by rw [Int.toNat_natCast, List.getElem?_map, ho1]; rfl
  obtain ⟨tt1, tt2, tt3⟩ := trip_ok hlo7.ok (n := max o 0) (by omega)
  have hlo8 := hlo7.trip (t := max o 0) (by omega)
  have hTr7 := Trip h7 d Dm7 D7 (max o 0) hlo7.ok
  unfold tripQ at tt1 tt2 tt3 hlo8
  generalize (if D7.dark = true then D7 else { D7 with trip := max (max o 0) (-1) }) = D8 at tt1 tt2 tt3 hlo8 hTr7
  have hca8 : D8.cache = [] := by rw [tt3, hca7]
  have hO8 := Open h7 d Dm7 D8 tt1 (by rw [hca8]; decide)
  unfold dkA at hTr7 hO8
  (repeat' first | refine X.rq ?_ | refine X.rc ?_ ?_ <;> intro hc <;> try omega)
  refine K.s_pureE (K.p_indexL hvo (Fx.und rfl) (Fx.sz rfl) rfl rfl (by omega) hvo0) rfl ?_
  rintro v8 ⟨b8, o8, rfl, hcel8⟩
  refine K.s_pure (K.p_load (v := .int .i64 o) (Fx.agg rfl) rfl (Cels.up hcel8).1) rfl ?_
  (repeat' first | refine X.rq ?_ | refine X.rc ?_ ?_ <;> intro hc <;> try omega)
  refine K.l_call (Fx.cal rfl) rfl hTr7 (K.pp [0, 0, 0] rfl) rfl ?_
  rintro u h8 H' - ⟨e8, rfl, rfl⟩
  obtain rfl := e8.symm
  simp only [Go.K.nmz]
  (repeat' first | refine X.rq ?_ | refine X.rc ?_ ?_ <;> intro hc <;> try omega)
  refine K.l_call (Fx.cal rfl) rfl hO8 (K.pp [0, 0, 0] rfl) rfl ?_
  rintro u h9 H' le9 ⟨r, D9, M9, H9, hop9, rfl, hV⟩
  obtain ⟨hlo9, hk9, hon9, hcase⟩ := hlo8.open hca8 hop9
  have hke9 := hke.le (le5.trans (le7.trans le9))
  have hCu9 := fun M => Cut h9 d M D9 _ keep hlo9.ok hke9 n2
  obtain ⟨d1, d2, d3, d4⟩ := cut_ok hlo9.ok keep
  have hlo10 := hlo9.cut keep
  have hk10 : (cutQ D9 keep).kept.length = k := by rw [d4, hk9, tt2, hk7]
  generalize cutQ D9 keep = D10 at d1 d2 d3 d4 hlo10 hk10 hCu9
  unfold dkA at hCu9
  obtain ⟨LL, rfl⟩ | rfl : (∃ LL, r = .ok LL) ∨ r = .error 8 := by
   rcases hcase with ⟨_, L9, _, _, e, _⟩ | ⟨_, L9, _, e, _⟩ | ⟨e, _⟩
   ·exact .inl ⟨_, e⟩
   ·exact .inl ⟨_, e⟩
   ·exact .inr e
  ·obtain ⟨L9, fs9⟩ := LL
   obtain ⟨p9, W9, sv9, rfl, _, _, rfl⟩ := hV
   unfold lgA
   simp only [Go.K.nmz]
   refine K.WL.drop (K.WL.drop (K.WL.drop ?_))
   (repeat' first | refine X.rq ?_ | refine X.rc ?_ ?_ <;> intro hc <;> try omega)
   all_goals try (exfalso; omega)
   refine K.l_call (Fx.cal rfl) rfl (hCu9 _) (K.pp [0, 0, 0] rfl) rfl ?_
   rintro u h11 H' - ⟨e11, rfl, rfl⟩
   obtain rfl := e11.symm
   simp only [Go.K.nmz]
   (repeat' first | refine X.rq ?_ | refine X.rc ?_ ?_ <;> intro hc <;> try omega)
   refine K.a_round hKM ⟨i + 1, h9, M9, D10⟩ ⟨le7.trans le9, hlo10, d3, d2, by dsimp only; omega, hk10⟩ (by repeat (first | exact K.Sub.nil _ | refine K.Sub.cons rfl ?_)) rfl rfl (by dsimp only; omega)
  ·obtain ⟨rfl, rfl⟩ := hV
   simp only [Go.K.nmz]
   (repeat' first | refine X.rq ?_ | refine X.rc ?_ ?_ <;> intro hc <;> try omega)
   all_goals try (exfalso; omega)
   refine K.l_call (Fx.cal rfl) rfl (hCu9 _) (K.pp [0, 0, 0] rfl) rfl ?_
   rintro u h11 H' - ⟨e11, rfl, rfl⟩
   obtain rfl := e11.symm
   simp only [Go.K.nmz]
   (repeat' first | refine X.rq ?_ | refine X.rc ?_ ?_ <;> intro hc <;> try omega)
   refine K.a_round hKM ⟨i + 1, h9, M9, D10⟩ ⟨le7.trans le9, hlo10, d3, d2, by dsimp only; omega, hk10⟩ (by repeat (first | exact K.Sub.nil _ | refine K.Sub.cons rfl ?_)) rfl rfl (by dsimp only; omega)
 ·clear hKM
  have hop7 := LOpens h7 x d Dm7 lv M5 D7 L.m.n base5 kept5 rs5 m5 brk5 ⟨hlo7, hca7, hon7, rows_le2 hes5 le7, hth5, hnx5, hbk5⟩
  unfold lfA dkA at hop7
  (repeat' first | refine X.rq ?_ | refine X.rc ?_ ?_ <;> intro hc <;> try omega)
  refine K.l_call (Fx.cal rfl) rfl hop7 (K.pp [3, 3, 0, 0, 0] rfl) rfl ?_
  rintro u h8 H' le8 ⟨rfl, p8, M8, W8, Dm8, D8, L8, rs8, hl8, hon8, hk8, hn8, rfl⟩
  unfold liveA lfA lgA dkA
  simp only [Go.K.nmz]
  (repeat' first | refine X.rq ?_ | refine X.rc ?_ ?_ <;> intro hc <;> try omega)
  refine K.AT.sel [8] rfl ?_
  refine K.a_round hKL ⟨j + 1, h8, p8, M8, W8, Dm8, D8, L8, rs8⟩ ⟨hle.trans (le5.trans (le7.trans le8)), hl8, hon8, by dsimp only; omega, hn8.trans hLn, by dsimp only; omega⟩ (by repeat (first | exact K.Sub.nil _ | refine K.Sub.cons rfl ?_)) rfl rfl (by dsimp only; omega)
end Go.Proofs.YtmcdaegaopfihaaGreat.Wl
