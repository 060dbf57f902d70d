/-
 A log's life: acts. Conditions: each theorem's own.
-/
import Derived.Test.YtmcdaegaopfihaaGreatY46
namespace Go.Proofs.YtmcdaegaopfihaaGreat.Wl
open Go Go.K Go.Proofs Go.Proofs.YtmcdaegaopfihaaGreat Go.Proofs.YtmcdaegaopfihaaGreat.Pg Go.Proofs.YtmcdaegaopfihaaGreat.Cc Go.Proofs.YtmcdaegaopfihaaGreat.Rc
set_option linter.unusedVariables false
set_option linter.unusedSimpArgs false
set_option maxRecDepth 10000

theorem few_short {r : Recd} (h : FewR r) (hr : ReachR r) : shortX r := ⟨h.img, hr.cells, h.liv, h.dir, h.dat⟩
theorem rows_snoc2 {h : Base} {es : List (List Value)} {rs : List Recd} {c : List Value} {r : Recd} (hr : RowsG (RecC h) es rs) (hc : RecC h c r) : RowsG (RecC h) (es ++ [c]) (rs ++ [r]) := by
 refine ⟨by rw [List.length_append, List.length_append, hr.1]; rfl, fun j d x hd hx => ?_⟩
 by_cases hj : j < es.length
 ·rw [List.getElem?_append_left hj] at hd
  rw [List.getElem?_append_left (by rw [← hr.1]; exact hj)] at hx
  exact hr.2 j d x hd hx
 ·rw [List.getElem?_append_right (by omega)] at hd
  rw [List.getElem?_append_right (by rw [← hr.1]; omega), ← hr.1] at hx
  have h0 : j - es.length = 0 := by
   have := (List.getElem?_eq_some_iff.1 hd).1
   simp at this; omega
  rw [h0] at hd hx
  cases hd; cases hx
  exact hc
theorem app_way (L : Lg) (r : Recd) : (∃ e : Int, e ≠ 0 ∧ appQ L r = ((0, e), L)) ∨
  (mayR r = true ∧ encR r = (encN r, 0) ∧ (encN r).length ≤ roomQ L ∧ appQ L r = ((endQ L, 0), { L with stream := L.stream ++ encN r, starts := L.starts ++ [endQ L] })) := by
 cases hm : mayR r with
 | false =>
  have e := encR_no hm
  exact .inl ⟨5, by decide, by unfold appQ; rw [e]; rfl⟩
 | true =>
  have e := encR_yes hm
  by_cases hr : roomQ L < (encN r).length
  ·exact .inl ⟨4, by decide, by unfold appQ; rw [e, if_neg (fun h => h rfl), if_pos hr]⟩
  ·exact .inr ⟨rfl, e, by omega, by unfold appQ; rw [e, if_neg (fun h => h rfl), if_neg hr]⟩
structure FlS where
 j : Nat
 hb : Base
 M : FM
 W : LM
 Dm : DM
 D : Dk
 L : Lg
 rs : List Recd
 m : Nat
def ActsR (x d : Nat) (D : Dk) (n : Nat) (u : Value) (h' : Base) (H' : List Asrt) : Prop := u = .bool true ∧ ∃ lv M Dm D' base kept rs m brk, Lost D' n base kept rs m brk ∧ RowsG (RecC h') M.es (foundQ base rs) ∧ M.thn < 18446744073709551616 ∧ M.nxt < 4294967296 ∧
 (∀ y, brk = some y → M.thn = base + lenQ rs ∧ M.nxt = y) ∧ D'.kept.length = D.kept.length ∧ H' = lfA x d lv M rs.length m base kept brk.isSome ++ dkA d Dm D'
set_option maxHeartbeats 32000000 in
theorem LActs (h : Base) (x p d : Nat) (M0 : FM) (W0 : LM) (Dm0 : DM) (D0 : Dk) (L0 : Lg) (rs0 : List Recd) (m0 : Nat) (v : Value) (l : List PAct) (hp : LiveX h M0 W0 D0 L0 rs0 m0) (hv : ActsV h v l) (hl : l.length ≤ 9223372036854775807) (hfew : ∀ y ∈ l, FewR y.r) :
  Tr Tryz.prog 24 [pv x, v] h (liveA x p d M0 W0 Dm0 D0 L0 rs0 m0) (ActsR x d D0 L0.m.n) := by
 obtain ⟨es, hv, hel, hr⟩ := hv
 obtain ⟨ao, ca, rfl⟩ := hv.len
 rw [hel] at hv ⊢
 refine K.enter Tryz.func24 rfl (Nat.le_of_ble_eq_true rfl) (fun F => ?_)
 unfold liveA lfA lgA dkA
 simp only [List.cons_append, List.nil_append]
 (repeat' first | refine X.rq ?_ | refine X.rc ?_ ?_ <;> intro hc <;> try omega)
 refine K.c_loop (σ := FlS) (fun q => [(0, pv x), (1, .slice ao l.length ca), (5, .int .i64 q.j)]) (fun q => q.hb) (fun q => liveA x p d q.M q.W q.Dm q.D q.L q.rs q.m ++ F)
  (fun q => h.le q.hb ∧ LiveX q.hb q.M q.W q.D q.L q.rs q.m ∧ q.j ≤ l.length ∧ q.L.m.n = L0.m.n ∧ q.D.kept.length = D0.kept.length) (fun q => l.length - q.j)
  ⟨0, h, M0, W0, Dm0, D0, L0, rs0, m0⟩ ⟨K.Base.le.refl _, hp, Nat.zero_le _, rfl, rfl⟩ (by repeat (first | exact K.Sub.nil _ | refine K.Sub.cons rfl ?_)) rfl rfl ?_
 rintro ⟨j, hb, M, W, Dm, D, L, rs, m⟩ ⟨hle, hp, hj, hLn, hDk⟩ KL hKL
 dsimp only at hle hp hj hLn hDk ⊢
 obtain ⟨hrun, hes, hst, hth, hnx⟩ := hp
 obtain ⟨a, k, ess, thn, nxt⟩ := M
 dsimp only at hes hth hnx
 have ho := hrun.lgOk
 have ho3 := ho.str
 have ho4 := ho.sts
 have ho5 := ho.mas.n
 have hrl : rs.length ≤ 1000000000 := by have := hrun.sts; have h2 := starts_len L.m.base rs; rw [← this] at h2; omega
 unfold liveA lfA lfV lgA dkA
 simp only [List.cons_append, List.nil_append]
 by_cases hjl : j < l.length
 rotate_left
 ·clear hKL
  (repeat' first | refine X.rq ?_ | refine X.rc ?_ ?_ <;> intro hc <;> try omega)
  refine K.AT.perm (K.pp [2, 2, 2] rfl) ?_
  exact K.doneC (vs := [.bool true]) (by first | exact Or.inl rfl | exact Or.inr rfl) (.tmp rfl .nil) hle (D := [_, _, _]) (H' := [_, _, _, _, _]) rfl ⟨rfl, pv p, ⟨a, k, ess, thn, nxt⟩, Dm, D, L.m.base, L.m.kept, rs, m, none, hLn ▸ hrun.lost, hes, hth, hnx, (fun y hy => by cases hy), hDk, rfl⟩
 have hc1 : es[j]? = some (es[j]'(by omega)) := List.getElem?_eq_getElem (by omega)
 have hc0 : es[((j : Nat) : Int).toNat]? = some (es[j]'(by omega)) := by rw [Int.toNat_natCast]; exact hc1
 have he1 : l[j]? = some (l[j]'hjl) := List.getElem?_eq_getElem hjl
 have hfy := hfew (l[j]'hjl) (List.getElem_mem hjl)
 generalize es[j]'(by omega) = c at hc0 hc1
 generalize l[j]'hjl = y at he1 hfy
 obtain ⟨hyw, hyn, hyr, cs, rfl, hx⟩ := hr j c y hc1 he1
 have hvb := hv.le hle
 have hxb := hx.le hle
 obtain ⟨what, r, n⟩ := y
 dsimp only at hyw hyn hyr hx hxb hfy hc0
 obtain ⟨ad, ai, al, ay, cd, ci, cl, cy, rfl⟩ : ∃ ad ai al ay cd ci cl cy, cs = cR r (.slice ad r.op.data.length cd) (.slice ai r.images.length ci) (.slice al r.lives.length cl) (.slice ay r.dirty.length cy) := by
  obtain ⟨_, ad, ai, al, ay, cd, ci, cl, cy, e, _⟩ := hx.cells
  exact ⟨ad, ai, al, ay, cd, ci, cl, cy, e⟩
 have hsm := hfy.small
 have hsh := few_short hfy hyr
 clear hr
 (repeat' first | refine X.rq ?_ | refine X.rc ?_ ?_ <;> intro hc <;> try omega)
 refine K.s_pureE (K.p_indexL hvb (Fx.und rfl) (Fx.sz rfl) rfl rfl (by omega) hc0) rfl ?_
 rintro v2 ⟨b2, o2, rfl, hcel2⟩
 (repeat' first | refine X.rq ?_ | refine X.rc ?_ ?_ <;> intro hc <;> try omega)
 refine K.s_pure (K.p_load (v := .int .i64 what) (Fx.agg rfl) rfl (Cels.up hcel2).1) rfl ?_
 clear hcel2
 by_cases w1 : what = 1
 ·subst w1
  obtain ⟨f1, f2, f3, f4⟩ := flush_run hrun
  have hfl := Flush hb p d W L Dm D ho hst hrun.ok (by rw [hrun.cache]; decide)
  unfold lgA dkA at hfl
  have hpe := f1.err
  dsimp only at hpe
  rcases f4 with ⟨f5, f7, f8⟩ | ⟨f5, f7⟩
  ·rw [f5, f7] at hfl
   generalize (flushQ L D).2.2 = D2 at f2 f3 f8 hfl
   (repeat' first | refine X.rq ?_ | refine X.rc ?_ ?_ <;> intro hc <;> try omega)
   refine K.l_call (Fx.cal rfl) rfl hfl (K.pp [2, 2, 2, 2, 2, 2] rfl) rfl ?_
   rintro u h2 H' le2 ⟨rfl, M2, rfl⟩
   simp only [Go.K.nmz]
   (repeat' first | refine X.rq ?_ | refine X.rc ?_ ?_ <;> intro hc <;> try omega)
   all_goals try (exfalso; omega)
   refine X.sto ?_
   simp only [Go.K.nmz]
   (repeat' first | refine X.rq ?_ | refine X.rc ?_ ?_ <;> intro hc <;> try omega)
   all_goals try (exfalso; omega)
   refine K.AT.perm (K.pp [6, 6] rfl) ?_
   refine K.a_round hKL ⟨j + 1, h2, ⟨a, k, ess, thn, nxt⟩, W, M2, D2, { L with durable := endQ L }, rs, rs.length⟩ ⟨hle.trans le2, ⟨f8, rows_le2 hes le2, hst.le le2, hth, hnx⟩, by dsimp only; omega, hLn, f2.trans hDk⟩ (by repeat (first | exact K.Sub.nil _ | refine K.Sub.cons rfl ?_)) rfl rfl (by dsimp only; omega)
  ·rw [f5] at hfl hpe
   have hdk : (flushQ L D).2.2.dark = true := by
    rcases hpe with h9 | ⟨_, h9⟩
    ·cases h9
    ·exact h9
   have hlo := hrun.lostA (brk := none) (fun y hy => by cases hy) f3 f2 (.inl f7)
   generalize (flushQ L D).2.2 = D2 at f2 f3 f7 hfl hdk hlo
   generalize (flushQ L D).2.1 = L2 at hfl
   have hDa := fun h M => Dark h d M D2
   unfold dkA at hDa
   rw [hdk] at hDa
   (repeat' first | refine X.rq ?_ | refine X.rc ?_ ?_ <;> intro hc <;> try omega)
   refine K.l_call (Fx.cal rfl) rfl hfl (K.pp [2, 2, 2, 2, 2, 2] rfl) rfl ?_
   rintro u h2 H' le2 ⟨rfl, M2, rfl⟩
   simp only [Go.K.nmz]
   (repeat' first | refine X.rq ?_ | refine X.rc ?_ ?_ <;> intro hc <;> try omega)
   all_goals try (exfalso; omega)
   refine K.l_callV (Fx.cal rfl) rfl (hDa _ _) (K.pp [3, 3, 3] rfl) rfl rfl ?_
   simp only [Go.K.nmz]
   (repeat' first | refine X.rq ?_ | refine X.rc ?_ ?_ <;> intro hc <;> try omega)
   refine K.AT.perm (K.pp [3, 3, 3, 3, 3] rfl) ?_
   exact K.doneC (vs := [.bool true]) (by first | exact Or.inl rfl | exact Or.inr rfl) (.tmp rfl .nil) (hle.trans le2) (D := [_, _, _]) (H' := [_, _, _, _, _]) rfl ⟨rfl, pv p, ⟨a, k, ess, thn, nxt⟩, M2, D2, L.m.base, L.m.kept, rs, m, none, hLn ▸ hlo, rows_le2 hes le2, hth, hnx, (fun y hy => by cases hy), f2.trans hDk, rfl⟩
 by_cases w2 : what = 2
 ·subst w2
  have hes15 := rows_15 hes
  have hesl : ess.length = rs.length := by rw [hes.1, found_len]
  have hfewm := hrun.few
  (repeat' first | refine X.rs ?_ | refine X.rd ?_ ?_ <;> intro hc <;> try omega)
  iterate 9
   refine X.w ?_
   (repeat' first | refine X.rs ?_ | refine X.rd ?_ ?_ <;> intro hc <;> try omega)
  apply K.c_seq
  refine K.c_join (β := Nat) (fun c => [(0, pv x), (1, .slice ao l.length ca), (5, .int .i64 j), (9, .int .u64 c)]) (fun _ => hb) (fun _ => blk x 64 [dv d, pv p, bufV a rs.length k, .int .i64 m, n64 L.m.base, .int .u32 L.m.kept, .bool false, n64 thn, .int .u32 nxt] :: bufA 45 15 a rs.length k ess.flatten :: blk p 34 (lgV d W L) :: W.sA :: startsA W L :: blk d 109 (dkV Dm D) :: keptA Dm D :: cacheA Dm D :: F)
   (fun c => c < 18446744073709551616 ∧ ¬ (c ≠ 0 ∧ (c ∉ L.starts ∨ L.durable ≤ c))) (fun KJ hJ => ?_) ?_
  ·apply K.c_seq
   by_cases hn0 : 0 ≤ n
   ·obtain ⟨i, rfl⟩ : ∃ i : Nat, n = (i : Int) := ⟨n.toNat, by omega⟩
    refine X.draw ([blk x 64 [dv d, pv p, bufV a rs.length k, .int .i64 m, n64 L.m.base, .int .u32 L.m.kept, .bool false, n64 thn, .int .u32 nxt]]) [] (.pu 0 (.pu 1 (.st 2 (.pu 3 (.st 4 (.pu 5 (.pu 6 (.pu 7 (.pu 8 (.pu 12 (.pu 13 (.pu 14 (.st 9 (.pu 10 (.st 11 (.st 15 (.pu 16 (.pu 17 .nil)))))))))))))))))) ?_ (hQ := by repeat (first | with_reducible refine K.NoPanic.then ?_ | with_reducible refine K.NoPanic.inBlock ?_ | with_reducible exact K.post_noPanic _ _ | exact K.post_noPanic _ _ | exact K.QN_noPanic | exact K.postS_noPanic | exact K.postX_noPanic | exact K.RPX_noPanic))
    refine K.d_pu rfl (fun _ _ => X.mv) rfl ?_
    refine K.d_pu rfl (fun _ _ => X.mv) rfl ?_
    refine K.d_stE rfl (K.p_indexL hvb (Fx.und rfl) (Fx.sz rfl) rfl rfl (by omega) hc0) rfl ?_
    rintro v3 ⟨b3, o3, rfl, hcel3⟩
    have hn3 : Cel hb [] b3 (o3 + 16) (.int .i64 i) := Cels.get hcel3 16 _ rfl
    refine K.d_pu rfl (fun _ _ => X.fa) rfl ?_
    refine K.d_st rfl (K.p_load (v := .int .i64 i) (Fx.agg rfl) rfl (K.Cel.up hn3)) rfl ?_
    refine K.d_pu rfl (fun _ _ => X.bgeq) rfl ?_
    rw [decide_eq_true hn0]
    refine K.d_pu rfl (fun _ _ => X.mv) rfl ?_
    first | refine K.d_skip rfl rfl rfl rfl ?_ | refine K.d_skipU rfl rfl rfl rfl rfl ?_ | refine K.d_puG rfl rfl rfl (fun _ _ => X.mv) rfl ?_
    first | refine K.d_skip rfl rfl rfl rfl ?_ | refine K.d_skipU rfl rfl rfl rfl rfl ?_ | refine K.d_puG rfl rfl rfl (fun _ _ => X.mv) rfl ?_
    first | refine K.d_skip rfl rfl rfl rfl ?_ | refine K.d_skipU rfl rfl rfl rfl rfl ?_ | refine K.d_puG rfl rfl rfl (fun _ _ => X.mv) rfl ?_
    first | refine K.d_skip rfl rfl rfl rfl ?_ | refine K.d_skipU rfl rfl rfl rfl rfl ?_ | refine K.d_puG rfl rfl rfl (fun _ _ => X.nc) rfl ?_
    first | refine K.d_skip rfl rfl rfl rfl ?_ | refine K.d_skipU rfl rfl rfl rfl rfl ?_ | refine K.d_puG rfl rfl rfl (fun _ _ => X.fa) rfl ?_
    refine K.d_stGE rfl rfl rfl (K.p_indexL hvb (Fx.und rfl) (Fx.sz rfl) rfl rfl (by omega) hc0) rfl ?_
    rintro v4 ⟨b4, o4, rfl, hcel4⟩
    have hn4 : Cel hb [] b4 (o4 + 16) (.int .i64 i) := Cels.get hcel4 16 _ rfl
    first | refine K.d_skip rfl rfl rfl rfl ?_ | refine K.d_skipU rfl rfl rfl rfl rfl ?_ | refine K.d_puG rfl rfl rfl (fun _ _ => X.fa) rfl ?_
    refine K.d_stG rfl rfl rfl (K.p_load (v := .int .i64 i) (Fx.agg rfl) rfl (K.Cel.up hn4)) rfl ?_
    first | refine K.d_skipS rfl rfl rfl rfl ?_ | refine K.d_skipUS rfl rfl rfl rfl rfl ?_ | refine K.d_stG rfl rfl rfl X.ld rfl ?_
    first | refine K.d_skip rfl rfl rfl rfl ?_ | refine K.d_skipU rfl rfl rfl rfl rfl ?_ | refine K.d_puG rfl rfl rfl (fun _ _ => X.blss) rfl ?_
    refine K.d_pu rfl (fun _ _ => X.pk) rfl ?_
    refine K.d_nil ?_
    by_cases him : i < m
    ·have hy1 : (foundQ L.m.base rs)[i]? = some ((foundQ L.m.base rs)[i]'(by rw [found_len]; omega)) := List.getElem?_eq_getElem (by rw [found_len]; omega)
     generalize (foundQ L.m.base rs)[i]'(by rw [found_len]; omega) = y at hy1
     have hd1 : ess[i]? = some (ess[i]'(by omega)) := List.getElem?_eq_getElem (by omega)
     generalize ess[i]'(by omega) = e at hd1
     have hxe := hes.2 i e y hd1 hy1
     have hlse : e[1]? = some (.int .u64 y.lsn) := by
      obtain ⟨_, _, _, _, _, _, _, _, _, ec, _⟩ := hxe.cells
      rw [ec]; rfl
     obtain ⟨r9, hr9, _, hs9⟩ := found_get hy1
     have hin : y.lsn ∈ L.starts := by rw [hrun.sts]; exact List.mem_of_getElem? hs9
     have hlt : y.lsn < L.durable := by
      rw [hrun.dur]
      exact (starts_below _ rs m i hrun.right hrun.few (List.getElem?_eq_some_iff.1 hr9).1 _ hs9).2 him
     have hyb : y.lsn < 18446744073709551616 := by
      have h2 := (starts_rise _ _ hrun.right).2.1 _ (List.mem_of_getElem? hs9)
      have h3 := hrun.fin'
      unfold lastLSN at h3
      omega
     (repeat' first | refine X.rq ?_ | refine X.rc ?_ ?_ <;> intro hc <;> try omega)
     all_goals try (exfalso; omega)
     refine K.WC.someBuf 1 rfl (by omega) (fun b hb9 => ?_)
     subst hb9
     refine X.draw ([blk x 64 [dv d, pv p, bufV (some b) rs.length k, .int .i64 m, n64 L.m.base, .int .u32 L.m.kept, .bool false, n64 thn, .int .u32 nxt], bufA 45 15 (some b) rs.length k ess.flatten]) [] (.pu 0 (.pu 1 (.pu 2 (.pu 4 (.pu 5 (.st 3 (.st 6 (.pu 7 (.st 8 (.pu 9 (.pu 10 (.st 11 (.pu 12 .nil))))))))))))) ?_ (hQ := by repeat (first | with_reducible refine K.NoPanic.then ?_ | with_reducible refine K.NoPanic.inBlock ?_ | with_reducible exact K.post_noPanic _ _ | exact K.post_noPanic _ _ | exact K.QN_noPanic | exact K.postS_noPanic | exact K.postX_noPanic | exact K.RPX_noPanic))
     refine K.d_pu rfl (fun _ _ => X.mv) rfl ?_
     refine K.d_pu rfl (fun _ _ => X.nc) rfl ?_
     refine K.d_pu rfl (fun _ _ => X.fa) rfl ?_
     refine K.d_pu rfl (fun _ _ => X.mv) rfl ?_
     refine K.d_pu rfl (fun _ _ => X.mv) rfl ?_
     refine K.d_st rfl X.ld rfl ?_
     refine K.d_stE rfl (K.p_indexL hvb (Fx.und rfl) (Fx.sz rfl) rfl rfl (by omega) hc0) rfl ?_
     rintro v5 ⟨b5, o5, rfl, hcel5⟩
     have hn5 : Cel hb [] b5 (o5 + 16) (.int .i64 i) := Cels.get hcel5 16 _ rfl
     refine K.d_pu rfl (fun _ _ => X.fa) rfl ?_
     refine K.d_st rfl (K.p_load (v := .int .i64 i) (Fx.agg rfl) rfl (K.Cel.up hn5)) rfl ?_
     refine K.d_pu rfl (fun _ _ => X.ia) rfl ?_
     refine K.d_pu rfl (fun _ _ => X.fa) rfl ?_
     refine K.d_st rfl (K.p_load (v := .int .u64 y.lsn) (Fx.agg rfl) rfl (by rw [Int.toNat_natCast, Nat.zero_add]; exact K.cel_rowZ 1 rfl hes15 hd1 hlse)) rfl ?_
     refine K.d_pu rfl (fun _ _ => X.sg) rfl ?_
     refine K.d_nil ?_
     (repeat' first | refine X.rq ?_ | refine X.rc ?_ ?_ <;> intro hc <;> try omega)
     refine K.a_join hJ y.lsn ⟨hyb, fun h9 => by rcases h9.2 with h8 | h8; exact h8 hin; omega⟩ (by repeat (first | exact K.Sub.nil _ | refine K.Sub.cons rfl ?_)) rfl rfl
    ·(repeat' first | refine X.rq ?_ | refine X.rc ?_ ?_ <;> intro hc <;> try omega)
     all_goals try (exfalso; omega)
     refine K.a_join hJ 0 ⟨by decide, fun h9 => h9.1 rfl⟩ (by repeat (first | exact K.Sub.nil _ | refine K.Sub.cons rfl ?_)) rfl rfl
   ·refine X.draw ([blk x 64 [dv d, pv p, bufV a rs.length k, .int .i64 m, n64 L.m.base, .int .u32 L.m.kept, .bool false, n64 thn, .int .u32 nxt]]) [] (.pu 0 (.pu 1 (.st 2 (.pu 3 (.st 4 (.pu 5 (.pu 6 (.pu 7 (.pu 8 (.pu 12 (.pu 13 (.pu 14 (.st 9 (.pu 10 (.st 11 (.st 15 (.pu 16 (.pu 17 .nil)))))))))))))))))) ?_ (hQ := by repeat (first | with_reducible refine K.NoPanic.then ?_ | with_reducible refine K.NoPanic.inBlock ?_ | with_reducible exact K.post_noPanic _ _ | exact K.post_noPanic _ _ | exact K.QN_noPanic | exact K.postS_noPanic | exact K.postX_noPanic | exact K.RPX_noPanic))
    refine K.d_pu rfl (fun _ _ => X.mv) rfl ?_
    refine K.d_pu rfl (fun _ _ => X.mv) rfl ?_
    refine K.d_stE rfl (K.p_indexL hvb (Fx.und rfl) (Fx.sz rfl) rfl rfl (by omega) hc0) rfl ?_
    rintro v3 ⟨b3, o3, rfl, hcel3⟩
    have hn3 : Cel hb [] b3 (o3 + 16) (.int .i64 n) := Cels.get hcel3 16 _ rfl
    refine K.d_pu rfl (fun _ _ => X.fa) rfl ?_
    refine K.d_st rfl (K.p_load (v := .int .i64 n) (Fx.agg rfl) rfl (K.Cel.up hn3)) rfl ?_
    refine K.d_pu rfl (fun _ _ => X.bgeq) rfl ?_
    rw [decide_eq_false hn0]
    refine K.d_pu rfl (fun _ _ => X.mv) rfl ?_
    first | refine K.d_skip rfl rfl rfl rfl ?_ | refine K.d_skipU rfl rfl rfl rfl rfl ?_ | refine K.d_puG rfl rfl rfl (fun _ _ => X.mv) rfl ?_
    first | refine K.d_skip rfl rfl rfl rfl ?_ | refine K.d_skipU rfl rfl rfl rfl rfl ?_ | refine K.d_puG rfl rfl rfl (fun _ _ => X.mv) rfl ?_
    first | refine K.d_skip rfl rfl rfl rfl ?_ | refine K.d_skipU rfl rfl rfl rfl rfl ?_ | refine K.d_puG rfl rfl rfl (fun _ _ => X.mv) rfl ?_
    first | refine K.d_skip rfl rfl rfl rfl ?_ | refine K.d_skipU rfl rfl rfl rfl rfl ?_ | refine K.d_puG rfl rfl rfl (fun _ _ => X.nc) rfl ?_
    first | refine K.d_skip rfl rfl rfl rfl ?_ | refine K.d_skipU rfl rfl rfl rfl rfl ?_ | refine K.d_puG rfl rfl rfl (fun _ _ => X.fa) rfl ?_
    first | refine K.d_skipS rfl rfl rfl rfl ?_ | refine K.d_skipUS rfl rfl rfl rfl rfl ?_ | refine K.d_stG rfl rfl rfl X.ia rfl ?_
    first | refine K.d_skip rfl rfl rfl rfl ?_ | refine K.d_skipU rfl rfl rfl rfl rfl ?_ | refine K.d_puG rfl rfl rfl (fun _ _ => X.fa) rfl ?_
    first | refine K.d_skipS rfl rfl rfl rfl ?_ | refine K.d_skipUS rfl rfl rfl rfl rfl ?_ | refine K.d_stG rfl rfl rfl X.ld rfl ?_
    first | refine K.d_skipS rfl rfl rfl rfl ?_ | refine K.d_skipUS rfl rfl rfl rfl rfl ?_ | refine K.d_stG rfl rfl rfl X.ld rfl ?_
    first | refine K.d_skip rfl rfl rfl rfl ?_ | refine K.d_skipU rfl rfl rfl rfl rfl ?_ | refine K.d_puG rfl rfl rfl (fun _ _ => X.blss) rfl ?_
    refine K.d_pu rfl (fun _ _ => X.pk) rfl ?_
    refine K.d_nil ?_
    (repeat' first | refine X.rq ?_ | refine X.rc ?_ ?_ <;> intro hc <;> try omega)
    all_goals try (exfalso; omega)
    refine K.a_join hJ 0 ⟨by decide, fun h9 => h9.1 rfl⟩ (by repeat (first | exact K.Sub.nil _ | refine K.Sub.cons rfl ?_)) rfl rfl
  ·rintro c ⟨hcb, hq⟩
   obtain ⟨f1, f2, f3, f4⟩ := mark_run (c := c) hrun hq
   have hmk := Mark hb p d W L c Dm D ho hrun.sts_sorted hcb hrun.ok (by rw [hrun.cache]; decide)
   unfold lgA dkA at hmk
   have hpe := f1.err
   dsimp only at hpe
   rcases f4 with ⟨f5, f7, f8⟩ | ⟨f5, f7⟩
   ·rw [f5, f7] at hmk
    generalize (markQ L c D).2.2 = D2 at f2 f3 f8 hmk
    (repeat' first | refine X.rq ?_ | refine X.rc ?_ ?_ <;> intro hc <;> try omega)
    refine K.l_call (Fx.cal rfl) rfl hmk (K.pp [2, 2, 2, 2, 2, 2] rfl) rfl ?_
    rintro u h2 H' le2 ⟨rfl, M2, rfl⟩
    simp only [Go.K.nmz]
    (repeat' first | refine X.rq ?_ | refine X.rc ?_ ?_ <;> intro hc <;> try omega)
    all_goals try (exfalso; omega)
    refine K.AT.perm (K.pp [6, 6] rfl) ?_
    refine K.a_round hKL ⟨j + 1, h2, ⟨a, k, ess, thn, nxt⟩, W, M2, D2, { L with m := { L.m with check := c } }, rs, m⟩ ⟨hle.trans le2, ⟨f8, rows_le2 hes le2, hst.le le2, hth, hnx⟩, by dsimp only; omega, hLn, f2.trans hDk⟩ (by repeat (first | exact K.Sub.nil _ | refine K.Sub.cons rfl ?_)) rfl rfl (by dsimp only; omega)
   ·rw [f5] at hmk hpe
    have hdk : (markQ L c D).2.2.dark = true := by
     rcases hpe with h9 | ⟨_, h9⟩
     ·cases h9
     ·exact h9
    have hlo := hrun.lostA (brk := none) (fun y hy => by cases hy) f3 f2 (.inl f7)
    generalize (markQ L c D).2.2 = D2 at f2 f3 f7 hmk hdk hlo
    generalize (markQ L c D).2.1 = L2 at hmk
    have hDa := fun h M => Dark h d M D2
    unfold dkA at hDa
    rw [hdk] at hDa
    (repeat' first | refine X.rq ?_ | refine X.rc ?_ ?_ <;> intro hc <;> try omega)
    refine K.l_call (Fx.cal rfl) rfl hmk (K.pp [2, 2, 2, 2, 2, 2] rfl) rfl ?_
    rintro u h2 H' le2 ⟨rfl, M2, rfl⟩
    simp only [Go.K.nmz]
    (repeat' first | refine X.rq ?_ | refine X.rc ?_ ?_ <;> intro hc <;> try omega)
    all_goals try (exfalso; omega)
    refine K.l_callV (Fx.cal rfl) rfl (hDa _ _) (K.pp [3, 3, 3] rfl) rfl rfl ?_
    simp only [Go.K.nmz]
    (repeat' first | refine X.rq ?_ | refine X.rc ?_ ?_ <;> intro hc <;> try omega)
    refine K.AT.perm (K.pp [3, 3, 3, 3, 3] rfl) ?_
    exact K.doneC (vs := [.bool true]) (by first | exact Or.inl rfl | exact Or.inr rfl) (.tmp rfl .nil) (hle.trans le2) (D := [_, _, _]) (H' := [_, _, _, _, _]) rfl ⟨rfl, pv p, ⟨a, k, ess, thn, nxt⟩, M2, D2, L.m.base, L.m.kept, rs, m, none, hLn ▸ hlo, rows_le2 hes le2, hth, hnx, (fun y hy => by cases hy), f2.trans hDk, rfl⟩
 by_cases w3 : what = 3
 ·subst w3
  obtain ⟨kp, hkp, hkl⟩ : ∃ kp : Nat, IntKind.u32.wrap n = (kp : Int) ∧ kp < 4294967296 := by
   refine ⟨(IntKind.u32.wrap n).toNat, ?_, ?_⟩ <;> (unfold IntKind.wrap; simp [IntKind.bits, IntKind.signed]; omega)
  obtain ⟨f1, f2, f3, f4⟩ := reset_run hrun hkl
  have hre := Reset hb p d W L kp Dm D ho hst hkl hrun.ok (by rw [hrun.cache]; decide)
  have hen := LEnd hb p d W L ho hst
  have hef := hrun.fin'
  have hee : endQ L = L.m.base + lenQ rs := by unfold endQ; rw [hrun.str]; rfl
  unfold lastLSN at hef
  unfold lgA dkA at hre
  unfold lgA at hen
  have hpe := f1.err
  dsimp only at hpe
  (repeat' first | refine X.rq ?_ | refine X.rc ?_ ?_ <;> intro hc <;> try omega)
  refine X.draw ([blk p 34 (lgV d W L)]) [] (.pu 0 (.pu 1 (.pu 2 (.pu 3 (.pu 4 (.pu 7 (.pu 8 (.st 9 (.pu 10 (.st 11 (.pu 12 (.on 5 (.on 6 (.pu 13 (.pu 14 (.on 15 (.pu 16 (.pu 17 (.on 18 .nil))))))))))))))))))) ?_ (hQ := by repeat (first | with_reducible refine K.NoPanic.then ?_ | with_reducible refine K.NoPanic.inBlock ?_ | with_reducible exact K.post_noPanic _ _ | exact K.post_noPanic _ _ | exact K.QN_noPanic | exact K.postS_noPanic | exact K.postX_noPanic | exact K.RPX_noPanic))
  refine K.d_pu rfl (fun _ _ => X.mv) rfl ?_
  refine K.d_pu rfl (fun _ _ => X.mv) rfl ?_
  refine K.d_pu rfl (fun _ _ => X.mv) rfl ?_
  refine K.d_pu rfl (fun _ _ => X.nc) rfl ?_
  refine K.d_pu rfl (fun _ _ => X.fa) rfl ?_
  refine K.d_pu rfl (fun _ _ => X.mv) rfl ?_
  refine K.d_pu rfl (fun _ _ => X.mv) rfl ?_
  refine K.d_stE rfl (K.p_indexL hvb (Fx.und rfl) (Fx.sz rfl) rfl rfl (by omega) hc0) rfl ?_
  rintro v3 ⟨b3, o3, rfl, hcel3⟩
  have hn3 : Cel hb [] b3 (o3 + 16) (.int .i64 n) := Cels.get hcel3 16 _ rfl
  refine K.d_pu rfl (fun _ _ => X.fa) rfl ?_
  refine K.d_st rfl (K.p_load (v := .int .i64 n) (Fx.agg rfl) rfl (K.Cel.up hn3)) rfl ?_
  refine K.d_pu rfl (fun _ _ => X.cv) rfl ?_
  rw [hkp]
  refine K.d_on rfl (fun KK hKK => ?_)
  refine K.s_pure X.ld rfl ?_
  refine K.l_nil ?_
  refine X.onE hKK ?_
  refine K.d_on rfl (fun KK hKK => ?_)
  refine K.l_callV (Fx.cal rfl) rfl hen (K.pp [2, 2, 2] rfl) rfl rfl ?_
  simp only [Go.K.nmz]
  refine K.l_nil ?_
  refine X.onE hKK ?_
  refine K.d_pu rfl (fun _ _ => X.nc) rfl ?_
  refine K.d_pu rfl (fun _ _ => X.fa) rfl ?_
  refine K.d_on rfl (fun KK hKK => ?_)
  refine X.sto ?_
  simp only [Go.K.nmz]
  refine K.l_nil ?_
  refine X.onE hKK ?_
  refine K.d_pu rfl (fun _ _ => X.nc) rfl ?_
  refine K.d_pu rfl (fun _ _ => X.fa) rfl ?_
  refine K.d_on rfl (fun KK hKK => ?_)
  refine X.sto ?_
  simp only [Go.K.nmz]
  refine K.l_nil ?_
  refine X.onE hKK ?_
  refine K.d_nil ?_
  (repeat' first | refine X.rq ?_ | refine X.rc ?_ ?_ <;> intro hc <;> try omega)
  rcases f4 with ⟨f5, f7, f8⟩ | ⟨f5, f7⟩
  ·rw [f5, f7] at hre
   generalize (resetQ L kp D).2.2 = D2 at f2 f3 f8 hre
   refine X.draw ([blk x 64 [dv d, pv p, bufV a rs.length k, .int .i64 m, n64 L.m.base, .int .u32 L.m.kept, .bool false, n64 (endQ L), .int .u32 kp]]) [] (.pu 0 (.pu 1 (.pu 2 (.pu 4 (.pu 5 (.pu 6 (.st 3 (.st 7 (.on 8 (.pu 9 .nil)))))))))) ?_ (hQ := by repeat (first | with_reducible refine K.NoPanic.then ?_ | with_reducible refine K.NoPanic.inBlock ?_ | with_reducible exact K.post_noPanic _ _ | exact K.post_noPanic _ _ | exact K.QN_noPanic | exact K.postS_noPanic | exact K.postX_noPanic | exact K.RPX_noPanic))
   refine K.d_pu rfl (fun _ _ => X.mv) rfl ?_
   refine K.d_pu rfl (fun _ _ => X.nc) rfl ?_
   refine K.d_pu rfl (fun _ _ => X.fa) rfl ?_
   refine K.d_pu rfl (fun _ _ => X.mv) rfl ?_
   refine K.d_pu rfl (fun _ _ => X.nc) rfl ?_
   refine K.d_pu rfl (fun _ _ => X.fa) rfl ?_
   refine K.d_st rfl X.ld rfl ?_
   refine K.d_st rfl X.ld rfl ?_
   refine K.d_on rfl (fun KK hKK => ?_)
   refine K.l_call (Fx.cal rfl) rfl hre (K.pp [0, 0, 0, 2, 2, 2] rfl) rfl ?_
   rintro u h2 H' le2 ⟨rfl, M2, W2, hst2, rfl⟩
   simp only [Go.K.nmz]
   refine K.l_nil ?_
   refine X.onE hKK ?_
   refine K.d_pu rfl (fun _ _ => X.sg) rfl ?_
   refine K.d_nil ?_
   (repeat' first | refine X.rq ?_ | refine X.rc ?_ ?_ <;> intro hc <;> try omega)
   refine X.sto ?_
   simp only [Go.K.nmz]
   (repeat' first | refine X.rq ?_ | refine X.rc ?_ ?_ <;> intro hc <;> try omega)
   all_goals try (exfalso; omega)
   refine X.drawJ ([blk p 34 (lgV d W2 ⟨resetM L kp false, [], [], endQ L⟩)]) [] (.pu 0 (.pu 1 (.pu 2 (.pu 3 (.pu 4 (.pu 5 (.pu 6 (.pu 8 (.pu 9 (.pu 10 (.alt 7 (.on 11 (.pu 12 (.pu 13 (.on 14 (.pu 15 (.pu 16 (.on 17 (.pu 18 (.pu 19 (.on 20 (.pu 21 (.pu 22 (.on 23 .nil))))))))))))) (.on 11 (.on 7 (.pu 12 (.pu 13 (.on 14 (.pu 15 (.pu 16 (.on 17 (.pu 18 (.pu 19 (.on 20 (.pu 21 (.pu 22 (.on 23 .nil))))))))))))))))))))))))) (fun _ : Unit => [(0, pv x), (1, .slice ao l.length ca), (5, .int .i64 j), (6, .int .i64 0)]) (fun _ => h2) (fun _ => blk p 34 (lgV d W2 ⟨resetM L kp false, [], [], endQ L⟩) :: W2.sA :: startsA W2 ⟨resetM L kp false, [], [], endQ L⟩ :: blk d 109 (dkV M2 D2) :: keptA M2 D2 :: cacheA M2 D2 :: blk x 64 [dv d, pv p, .slice none 0 0, .int .i64 0, n64 (endQ L), .int .u32 kp, .bool (decide ((0 : Int) ≠ 0)), n64 (endQ L), .int .u32 kp] :: bufA 45 15 a rs.length k ess.flatten :: F) ?_ ?_
   ·refine K.d_pu rfl (fun _ _ => X.mv) rfl ?_
    refine K.d_pu rfl (fun _ _ => X.mv) rfl ?_
    refine K.d_pu rfl (fun _ _ => X.mv) rfl ?_
    refine K.d_pu rfl (fun _ _ => X.mv) rfl ?_
    refine K.d_pu rfl (fun _ _ => X.mv) rfl ?_
    refine K.d_pu rfl (fun _ _ => X.nc) rfl ?_
    refine K.d_pu rfl (fun _ _ => X.fa) rfl ?_
    refine K.d_pu rfl (fun _ _ => X.mv) rfl ?_
    refine K.d_pu rfl (fun _ _ => X.nc) rfl ?_
    refine K.d_pu rfl (fun _ _ => X.fa) rfl ?_
    refine K.d_alt ?_ ?_
    ·refine K.d_on rfl (fun KK hKK => ?_)
     refine K.s_pure (K.p_load (v := n64 (endQ L)) (Fx.agg rfl) rfl (K.cel_own 6 rfl rfl)) rfl ?_
     refine K.l_nil ?_
     refine X.onE hKK ?_
     refine K.d_on rfl (fun KK hKK => ?_)
     refine K.s_pure (K.p_load (v := .int .u32 kp) (Fx.agg rfl) rfl (K.cel_own 6 rfl rfl)) rfl ?_
     refine K.l_nil ?_
     refine X.onE hKK ?_
     refine K.d_pu rfl (fun _ _ => X.nc) rfl ?_
     refine K.d_pu rfl (fun _ _ => X.fa) rfl ?_
     refine K.d_on rfl (fun KK hKK => ?_)
     refine X.sto ?_
     simp only [Go.K.nmz]
     refine K.l_nil ?_
     refine X.onE hKK ?_
     refine K.d_pu rfl (fun _ _ => X.nc) rfl ?_
     refine K.d_pu rfl (fun _ _ => X.fa) rfl ?_
     refine K.d_on rfl (fun KK hKK => ?_)
     refine X.sto ?_
     simp only [Go.K.nmz]
     refine K.l_nil ?_
     refine X.onE hKK ?_
     refine K.d_pu rfl (fun _ _ => X.nc) rfl ?_
     refine K.d_pu rfl (fun _ _ => X.fa) rfl ?_
     refine K.d_on rfl (fun KK hKK => ?_)
     refine X.sto ?_
     simp only [Go.K.nmz]
     refine K.l_nil ?_
     refine X.onE hKK ?_
     refine K.d_pu rfl (fun _ _ => X.nc) rfl ?_
     refine K.d_pu rfl (fun _ _ => X.fa) rfl ?_
     refine K.d_on rfl (fun KK hKK => ?_)
     refine X.sto ?_
     simp only [Go.K.nmz]
     refine K.l_nil ?_
     refine X.onE hKK ?_
     refine K.d_nil ?_
     exact K.joined (()) (by repeat (first | exact K.Sub.nil _ | refine K.Sub.cons rfl ?_)) rfl rfl
    refine K.d_on rfl (fun KK hKK => ?_)
    refine K.s_pure (K.p_load (v := .int .u32 kp) (Fx.agg rfl) rfl (K.cel_own 6 rfl rfl)) rfl ?_
    refine K.l_nil ?_
    refine X.onE hKK ?_
    refine K.d_on rfl (fun KK hKK => ?_)
    refine K.s_pure (K.p_load (v := n64 (endQ L)) (Fx.agg rfl) rfl (K.cel_own 6 rfl rfl)) rfl ?_
    refine K.l_nil ?_
    refine X.onE hKK ?_
    refine K.d_pu rfl (fun _ _ => X.nc) rfl ?_
    refine K.d_pu rfl (fun _ _ => X.fa) rfl ?_
    refine K.d_on rfl (fun KK hKK => ?_)
    refine X.sto ?_
    simp only [Go.K.nmz]
    refine K.l_nil ?_
    refine X.onE hKK ?_
    refine K.d_pu rfl (fun _ _ => X.nc) rfl ?_
    refine K.d_pu rfl (fun _ _ => X.fa) rfl ?_
    refine K.d_on rfl (fun KK hKK => ?_)
    refine X.sto ?_
    simp only [Go.K.nmz]
    refine K.l_nil ?_
    refine X.onE hKK ?_
    refine K.d_pu rfl (fun _ _ => X.nc) rfl ?_
    refine K.d_pu rfl (fun _ _ => X.fa) rfl ?_
    refine K.d_on rfl (fun KK hKK => ?_)
    refine X.sto ?_
    simp only [Go.K.nmz]
    refine K.l_nil ?_
    refine X.onE hKK ?_
    refine K.d_pu rfl (fun _ _ => X.nc) rfl ?_
    refine K.d_pu rfl (fun _ _ => X.fa) rfl ?_
    refine K.d_on rfl (fun KK hKK => ?_)
    refine X.sto ?_
    simp only [Go.K.nmz]
    refine K.l_nil ?_
    refine X.onE hKK ?_
    refine K.d_nil ?_
    exact K.joined (()) (by repeat (first | exact K.Sub.nil _ | refine K.Sub.cons rfl ?_)) rfl rfl
   refine fun _ => ?_
   (repeat' first | refine X.rq ?_ | refine X.rc ?_ ?_ <;> intro hc <;> try omega)
   all_goals try (exfalso; omega)
   refine K.AT.nilBuf 45 15 ?_
   refine K.AT.sel [8] rfl ?_
   refine K.AT.perm (K.pp [7, 0] rfl) ?_
   refine K.a_round hKL ⟨j + 1, h2, ⟨none, 0, [], endQ L, kp⟩, W2, M2, D2, _, [], 0⟩ ⟨hle.trans le2, ⟨f8, ⟨rfl, fun j c x hc => by simp at hc⟩, hst2, by dsimp only; omega, hkl⟩, by dsimp only; omega, hLn, f2.trans hDk⟩ (by repeat (first | exact K.Sub.nil _ | refine K.Sub.cons rfl ?_)) rfl rfl (by dsimp only; omega)
  ·have hlo := hrun.lostA (brk := some kp) (fun y hy => by cases hy; exact hkl) f3 f2 f7
   rw [f5] at hre hpe
   have hdk : (resetQ L kp D).2.2.dark = true := by
    rcases hpe with h9 | ⟨_, h9⟩
    ·cases h9
    ·exact h9
   generalize (resetQ L kp D).2.2 = D2 at f2 f3 f7 hre hdk hlo
   generalize (resetQ L kp D).2.1 = L2 at hre
   have hDa := fun h M => Dark h d M D2
   unfold dkA at hDa
   rw [hdk] at hDa
   refine X.draw ([blk x 64 [dv d, pv p, bufV a rs.length k, .int .i64 m, n64 L.m.base, .int .u32 L.m.kept, .bool false, n64 (endQ L), .int .u32 kp]]) [] (.pu 0 (.pu 1 (.pu 2 (.pu 4 (.pu 5 (.pu 6 (.st 3 (.st 7 (.on 8 (.pu 9 .nil)))))))))) ?_ (hQ := by repeat (first | with_reducible refine K.NoPanic.then ?_ | with_reducible refine K.NoPanic.inBlock ?_ | with_reducible exact K.post_noPanic _ _ | exact K.post_noPanic _ _ | exact K.QN_noPanic | exact K.postS_noPanic | exact K.postX_noPanic | exact K.RPX_noPanic))
   refine K.d_pu rfl (fun _ _ => X.mv) rfl ?_
   refine K.d_pu rfl (fun _ _ => X.nc) rfl ?_
   refine K.d_pu rfl (fun _ _ => X.fa) rfl ?_
   refine K.d_pu rfl (fun _ _ => X.mv) rfl ?_
   refine K.d_pu rfl (fun _ _ => X.nc) rfl ?_
   refine K.d_pu rfl (fun _ _ => X.fa) rfl ?_
   refine K.d_st rfl X.ld rfl ?_
   refine K.d_st rfl X.ld rfl ?_
   refine K.d_on rfl (fun KK hKK => ?_)
   refine K.l_call (Fx.cal rfl) rfl hre (K.pp [0, 0, 0, 2, 2, 2] rfl) rfl ?_
   rintro u h2 H' le2 ⟨rfl, M2, W2, hst2, rfl⟩
   simp only [Go.K.nmz]
   refine K.l_nil ?_
   refine X.onE hKK ?_
   refine K.d_pu rfl (fun _ _ => X.sg) rfl ?_
   refine K.d_nil ?_
   (repeat' first | refine X.rq ?_ | refine X.rc ?_ ?_ <;> intro hc <;> try omega)
   refine X.sto ?_
   simp only [Go.K.nmz]
   (repeat' first | refine X.rq ?_ | refine X.rc ?_ ?_ <;> intro hc <;> try omega)
   all_goals try (exfalso; omega)
   refine K.l_callV (Fx.cal rfl) rfl (hDa _ _) (K.pp [3, 3, 3] rfl) rfl rfl ?_
   simp only [Go.K.nmz]
   (repeat' first | refine X.rq ?_ | refine X.rc ?_ ?_ <;> intro hc <;> try omega)
   refine K.AT.perm (K.pp [3, 3, 3, 3, 3] rfl) ?_
   exact K.doneC (vs := [.bool true]) (by first | exact Or.inl rfl | exact Or.inr rfl) (.tmp rfl .nil) (hle.trans le2) (D := [_, _, _]) (H' := [_, _, _, _, _]) rfl ⟨rfl, pv p, ⟨a, k, ess, endQ L, kp⟩, M2, D2, L.m.base, L.m.kept, rs, m, some kp, hLn ▸ hlo, rows_le2 hes le2, by dsimp only; omega, hkl, (fun y hy => by cases hy; exact ⟨hee, rfl⟩), f2.trans hDk, rfl⟩
 by_cases w0 : what = 0
 ·subst w0
  have hcop := RecCopy hb _ r hxb hsh
  have hen := fun h hst => LEnd h p d W L ho hst
  have hef := hrun.fin'
  have hee : endQ L = L.m.base + lenQ rs := by unfold endQ; rw [hrun.str]; rfl
  unfold lastLSN at hef
  unfold lgA at hen
  (repeat' first | refine X.rq ?_ | refine X.rc ?_ ?_ <;> intro hc <;> try omega)
  refine K.s_pureE (K.p_indexL hvb (Fx.und rfl) (Fx.sz rfl) rfl rfl (by omega) hc0) rfl ?_
  rintro v3 ⟨b3, o3, rfl, hcel3⟩
  have hcr : Cels hb [] b3 (o3 + 1) (cR r (.slice ad r.op.data.length cd) (.slice ai r.images.length ci) (.slice al r.lives.length cl) (.slice ay r.dirty.length cy)) := Cels.take 15 (Cels.drop 1 (by simp [cR]) hcel3)
  (repeat' first | refine X.rq ?_ | refine X.rc ?_ ?_ <;> intro hc <;> try omega)
  refine K.s_pure (K.p_loadM (vs := cR r (.slice ad r.op.data.length cd) (.slice ai r.images.length ci) (.slice al r.lives.length cl) (.slice ay r.dirty.length cy)) (Fx.agg rfl) rfl (Cels.up hcr) (Fx.sz rfl) rfl) rfl ?_
  clear hcr hcel3
  refine K.l_call (Fx.cal rfl) rfl hcop (K.pp [] rfl) rfl ?_
  rintro u h1 H' le1 ⟨rfl, c1, rfl, hx1⟩
  obtain ⟨ad1, ai1, al1, ay1, cd1, ci1, cl1, cy1, rfl⟩ : ∃ ad1 ai1 al1 ay1 cd1 ci1 cl1 cy1, c1 = cR r (.slice ad1 r.op.data.length cd1) (.slice ai1 r.images.length ci1) (.slice al1 r.lives.length cl1) (.slice ay1 r.dirty.length cy1) := by
   obtain ⟨_, ad, ai, al, ay, cd, ci, cl, cy, e, _⟩ := hx1.cells
   exact ⟨ad, ai, al, ay, cd, ci, cl, cy, e⟩
  have hst1 := hst.le le1
  have happ := Append h1 p d W L ho hst1 _ r hx1 hsm
  unfold lgA at happ
  simp only [List.nil_append]
  (repeat' first | refine X.rq ?_ | refine X.rc ?_ ?_ <;> intro hc <;> try omega)
  refine K.l_alloc (Fx.zr rfl) rfl rfl (fun B7 => ?_)
  refine X.stw ?_
  simp only [Go.K.nmz]
  (repeat' first | refine X.rq ?_ | refine X.rc ?_ ?_ <;> intro hc <;> try omega)
  refine K.l_callV (Fx.cal rfl) rfl (hen h1 hst1) (K.pp [3, 3, 3] rfl) rfl rfl ?_
  simp only [Go.K.nmz]
  (repeat' first | refine X.rq ?_ | refine X.rc ?_ ?_ <;> intro hc <;> try omega)
  rcases app_way L r with ⟨e, he0, ha⟩ | ⟨hm, hen2, hroom, ha⟩
  ·rw [ha] at happ
   dsimp only at happ
   refine X.draw ([blk x 64 [dv d, pv p, bufV a rs.length k, .int .i64 m, n64 L.m.base, .int .u32 L.m.kept, .bool false, n64 thn, .int .u32 nxt], blk B7 45 (cR r (.slice ad1 r.op.data.length cd1) (.slice ai1 r.images.length ci1) (.slice al1 r.lives.length cl1) (.slice ay1 r.dirty.length cy1))]) [10] (.pu 0 (.pu 1 (.pu 2 (.st 3 (.st 4 (.on 5 (.pu 6 (.pu 7 (.pu 8 (.pu 9 (.cl 10 (.pu 11 .nil)))))))))))) ?_ (hQ := by repeat (first | with_reducible refine K.NoPanic.then ?_ | with_reducible refine K.NoPanic.inBlock ?_ | with_reducible exact K.post_noPanic _ _ | exact K.post_noPanic _ _ | exact K.QN_noPanic | exact K.postS_noPanic | exact K.postX_noPanic | exact K.RPX_noPanic))
   refine K.d_pu rfl (fun _ _ => X.mv) rfl ?_
   refine K.d_pu rfl (fun _ _ => X.nc) rfl ?_
   refine K.d_pu rfl (fun _ _ => X.fa) rfl ?_
   refine K.d_st rfl X.ld rfl ?_
   refine K.d_st rfl (K.p_loadM (vs := cR r (.slice ad1 r.op.data.length cd1) (.slice ai1 r.images.length ci1) (.slice al1 r.lives.length cl1) (.slice ay1 r.dirty.length cy1)) (Fx.agg rfl) rfl (K.cels_own (pre := []) (cs := cR r (.slice ad1 r.op.data.length cd1) (.slice ai1 r.images.length ci1) (.slice al1 r.lives.length cl1) (.slice ay1 r.dirty.length cy1)) (post := []) 1 rfl rfl) (Fx.sz rfl) rfl) rfl ?_
   refine K.d_on rfl (fun KK hKK => ?_)
   refine K.l_call (Fx.cal rfl) rfl happ (K.pp [0, 0, 0] rfl) rfl ?_
   rintro u h2 H' - ⟨e7, rfl, W2, hst2, rfl⟩
   obtain rfl := e7.symm
   simp only [Go.K.nmz]
   refine K.l_nil ?_
   refine X.onE hKK ?_
   refine K.d_pu rfl (fun _ _ => X.mv) rfl ?_
   refine K.d_pu rfl (fun _ _ => X.ex) rfl ?_
   refine K.d_pu rfl (fun _ _ => X.ex) rfl ?_
   refine K.d_pu rfl (fun _ _ => X.fa) rfl ?_
   refine K.d_cl rfl (fun KK hKK => ?_)
   refine X.sto ?_
   refine K.l_nil ?_
   refine K.d_clE hKK ?_
   refine K.d_pu rfl (fun _ _ => X.sg) rfl ?_
   refine K.d_nil ?_
   simp only [Go.K.nmz]
   (repeat' first | refine X.rq ?_ | refine X.rc ?_ ?_ <;> intro hc <;> try omega)
   all_goals try (exfalso; omega)
   refine K.AT.sel [3] rfl ?_
   refine K.AT.perm (K.pp [3, 3] rfl) ?_
   refine K.a_round hKL ⟨j + 1, h1, ⟨a, k, ess, thn, nxt⟩, W2, Dm, D, L, rs, m⟩ ⟨hle.trans le1, ⟨hrun, rows_le2 hes le1, hst2, hth, hnx⟩, by dsimp only; omega, hLn, hDk⟩ (by repeat (first | exact K.Sub.nil _ | refine K.Sub.cons rfl ?_)) rfl rfl (by dsimp only; omega)
  ·rw [ha] at happ
   dsimp only at happ
   have henl := encN_len hm
   have hrun2 := append_run hrun (r := r) hxb.wfX (by rw [hen2]) (by rw [hen2]; exact hroom)
   rw [ha] at hrun2
   have hen3 := fun h W hst => LEnd h p d W _ hrun2.lgOk hst
   have hee2 : endQ { L with stream := L.stream ++ encN r, starts := L.starts ++ [endQ L] } = endQ L + (encN r).length := by show L.m.base + (L.stream ++ encN r).length = L.m.base + L.stream.length + _; rw [List.length_append]; omega
   rw [hee2] at hen3
   unfold lgA at hen3
   have hfin2 := hrun2.fin
   rw [hee2] at hfin2
   unfold lastLSN at hfin2
   have hrc2 := rec_lsn (x := endQ L) hx1 (by omega)
   have hr2 := rec_len hrc2
   refine X.draw ([blk x 64 [dv d, pv p, bufV a rs.length k, .int .i64 m, n64 L.m.base, .int .u32 L.m.kept, .bool false, n64 thn, .int .u32 nxt], blk B7 45 (cR r (.slice ad1 r.op.data.length cd1) (.slice ai1 r.images.length ci1) (.slice al1 r.lives.length cl1) (.slice ay1 r.dirty.length cy1))]) [10] (.pu 0 (.pu 1 (.pu 2 (.st 3 (.st 4 (.on 5 (.pu 6 (.pu 7 (.pu 8 (.pu 9 (.cl 10 (.pu 11 .nil)))))))))))) ?_ (hQ := by repeat (first | with_reducible refine K.NoPanic.then ?_ | with_reducible refine K.NoPanic.inBlock ?_ | with_reducible exact K.post_noPanic _ _ | exact K.post_noPanic _ _ | exact K.QN_noPanic | exact K.postS_noPanic | exact K.postX_noPanic | exact K.RPX_noPanic))
   refine K.d_pu rfl (fun _ _ => X.mv) rfl ?_
   refine K.d_pu rfl (fun _ _ => X.nc) rfl ?_
   refine K.d_pu rfl (fun _ _ => X.fa) rfl ?_
   refine K.d_st rfl X.ld rfl ?_
   refine K.d_st rfl (K.p_loadM (vs := cR r (.slice ad1 r.op.data.length cd1) (.slice ai1 r.images.length ci1) (.slice al1 r.lives.length cl1) (.slice ay1 r.dirty.length cy1)) (Fx.agg rfl) rfl (K.cels_own (pre := []) (cs := cR r (.slice ad1 r.op.data.length cd1) (.slice ai1 r.images.length ci1) (.slice al1 r.lives.length cl1) (.slice ay1 r.dirty.length cy1)) (post := []) 1 rfl rfl) (Fx.sz rfl) rfl) rfl ?_
   refine K.d_on rfl (fun KK hKK => ?_)
   refine K.l_call (Fx.cal rfl) rfl happ (K.pp [0, 0, 0] rfl) rfl ?_
   rintro u h2 H' - ⟨e7, rfl, W2, hst2, rfl⟩
   obtain rfl := e7.symm
   simp only [Go.K.nmz]
   refine K.l_nil ?_
   refine X.onE hKK ?_
   refine K.d_pu rfl (fun _ _ => X.mv) rfl ?_
   refine K.d_pu rfl (fun _ _ => X.ex) rfl ?_
   refine K.d_pu rfl (fun _ _ => X.ex) rfl ?_
   refine K.d_pu rfl (fun _ _ => X.fa) rfl ?_
   refine K.d_cl rfl (fun KK hKK => ?_)
   refine X.sto ?_
   refine K.l_nil ?_
   refine K.d_clE hKK ?_
   refine K.d_pu rfl (fun _ _ => X.sg) rfl ?_
   refine K.d_nil ?_
   simp only [Go.K.nmz]
   obtain ⟨c2, hc2⟩ : ∃ c2, c2 = (cR r (.slice ad1 r.op.data.length cd1) (.slice ai1 r.images.length ci1) (.slice al1 r.lives.length cl1) (.slice ay1 r.dirty.length cy1)).set 1 (n64 (endQ L)) := ⟨_, rfl⟩
   rw [← hc2] at hrc2 hr2 ⊢
   have hc9 : c2[1]? = some (n64 (endQ L)) := by rw [hc2]; rfl
   have ho2 := rec_ones hrc2
   (repeat' first | refine X.rq ?_ | refine X.rc ?_ ?_ <;> intro hc <;> try omega)
   refine K.s_pure (K.p_load (v := n64 (endQ L)) (Fx.agg rfl) rfl (K.cel_own 3 rfl hc9)) rfl ?_
   unfold n64 at hen3
   (repeat' first | refine X.rq ?_ | refine X.rc ?_ ?_ <;> intro hc <;> try omega)
   all_goals try (exfalso; omega)
   refine K.l_callV (Fx.cal rfl) rfl (hen3 h1 W2 hst2) (K.pp [0, 0, 0] rfl) rfl rfl ?_
   simp only [Go.K.nmz]
   (repeat' first | refine X.rq ?_ | refine X.rc ?_ ?_ <;> intro hc <;> try omega)
   all_goals try (exfalso; omega)
   refine X.draw ([blk x 64 [dv d, pv p, bufV a rs.length k, .int .i64 m, n64 L.m.base, .int .u32 L.m.kept, .bool false, n64 thn, .int .u32 nxt], blk B7 45 c2]) [10] (.pu 0 (.pu 1 (.pu 2 (.pu 3 (.st 4 (.st 5 (.on 6 (.on 7 (.pu 8 (.pu 9 (.cl 10 .nil))))))))))) ?_ (hQ := by repeat (first | with_reducible refine K.NoPanic.then ?_ | with_reducible refine K.NoPanic.inBlock ?_ | with_reducible exact K.post_noPanic _ _ | exact K.post_noPanic _ _ | exact K.QN_noPanic | exact K.postS_noPanic | exact K.postX_noPanic | exact K.RPX_noPanic))
   refine K.d_pu rfl (fun _ _ => X.mv) rfl ?_
   refine K.d_pu rfl (fun _ _ => X.mv) rfl ?_
   refine K.d_pu rfl (fun _ _ => X.nc) rfl ?_
   refine K.d_pu rfl (fun _ _ => X.fa) rfl ?_
   refine K.d_st rfl X.ld rfl ?_
   refine K.d_st rfl (K.p_loadM (vs := c2) (Fx.agg rfl) rfl (K.cels_own (pre := []) (cs := c2) (post := []) 1 (by rw [List.nil_append, List.append_nil]; rfl) rfl) (Fx.sz rfl) hr2) rfl ?_
   refine K.d_on rfl (fun KK hKK => ?_)
   refine K.l_buildSlice (cs := c2) (Fx.und rfl) (Fx.sz rfl) rfl (Fx.zr rfl) rfl rfl (by simp [seqOk, Value.cells, hr2]) (by simp [cellsL, Value.cells]) rfl (fun B31 => ?_)
   refine K.l_nil ?_
   refine X.onE hKK ?_
   refine K.d_on rfl (fun KK hKK => ?_)
   refine K.l_append_at 6 rfl (Fx.und rfl) (Fx.und rfl) rfl (Fx.sz rfl) (Fx.zr rfl) rfl (Fx.byt rfl) rfl rfl (K.src_cells (m := 1) (K.cels_own (pre := []) (cs := c2) (post := []) 0 (by rw [List.nil_append, List.append_nil]; rfl) rfl) (by rw [hr2]) (List.all_eq_true.1 ho2)) (by omega) (by omega) rfl (fun a6 k6 => ?_)
   simp only [Go.K.nmz]
   refine K.l_nil ?_
   refine X.onE hKK ?_
   refine K.d_pu rfl (fun _ _ => X.nc) rfl ?_
   refine K.d_pu rfl (fun _ _ => X.fa) rfl ?_
   refine K.d_cl rfl (fun KK hKK => ?_)
   refine X.sto ?_
   refine K.l_nil ?_
   refine K.d_clE hKK ?_
   refine K.d_nil ?_
   simp only [Go.K.nmz]
   (repeat' first | refine X.rq ?_ | refine X.rc ?_ ?_ <;> intro hc <;> try omega)
   all_goals try (exfalso; omega)
   have e1 : rs.length + 1 = (rs ++ [r]).length := by simp
   have e2 : ess.flatten ++ c2 = (ess ++ [c2]).flatten := by simp
   rw [e1, e2]
   refine K.AT.sel [0, 3] rfl ?_
   refine K.AT.perm (K.pp [3, 3] rfl) ?_
   have hes9 := rows_snoc2 (rows_le2 hes le1) hrc2
   rw [hee, ← found_snoc] at hes9
   refine K.a_round hKL ⟨j + 1, h1, ⟨a6, k6, ess ++ [c2], thn, nxt⟩, W2, Dm, D, _, rs ++ [r], m⟩ ⟨hle.trans le1, ⟨hrun2, hes9, hst2, hth, hnx⟩, by dsimp only; omega, hLn, hDk⟩ (by repeat (first | exact K.Sub.nil _ | refine K.Sub.cons rfl ?_)) rfl rfl (by dsimp only; omega)
 ·(repeat' first | refine X.rq ?_ | refine X.rc ?_ ?_ <;> intro hc <;> try omega)
  all_goals try (exfalso; omega)
  refine K.a_round hKL ⟨j + 1, hb, ⟨a, k, ess, thn, nxt⟩, W, Dm, D, L, rs, m⟩ ⟨hle, ⟨hrun, hes, hst, hth, hnx⟩, by dsimp only; omega, hLn, hDk⟩ (by repeat (first | exact K.Sub.nil _ | refine K.Sub.cons rfl ?_)) rfl rfl (by dsimp only; omega)
end Go.Proofs.YtmcdaegaopfihaaGreat.Wl
