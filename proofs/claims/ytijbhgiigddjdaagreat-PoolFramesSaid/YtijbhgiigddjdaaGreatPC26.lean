/-
  Texts joined: Od Ra Rba Gd. Conditions: each theorem's own.
-/
import Derived.Test.YtijbhgiigddjdaaGreatPC25
import Derived.Test.YtijbhgiigddjdaaGreatPC0
import Derived.Test.YtijbhgiigddjdaaGreatPC15
import Derived.Test.YtijbhgiigddjdaaGreatPC3
import Derived.Test.YtijbhgiigddjdaaGreatPC17
import Derived.Test.YtijbhgiigddjdaaGreatPC8
set_option linter.unusedVariables false
set_option linter.unusedSimpArgs false
set_option maxRecDepth 10000
set_option maxHeartbeats 16000000
section
namespace Go.Proofs.YtijbhgiigddjdaaGreat.Pl
open Go.K Pg Wl

theorem cel_val {h : Base} {K : List Asrt} {T b m cap i : Nat} {cs : List Value} {u : Value} (j : Nat) (hj : K[j]? = some (bufA T 1 (some b) m cap cs)) (hi : cs[i]? = some u) : Cel h K b i u := ⟨fun w hs => by
 obtain ⟨sp, fz, g1, _⟩ := hs.own _ (List.mem_of_getElem? hj)
 have hlt : i < cs.length := (List.getElem?_eq_some_iff.1 hi).1
 have : (cs ++ sp)[i]? = some u := by rw [List.getElem?_append_left hlt]; exact hi
 simp [World.cell?, g1, this]⟩
def emptyF (b n : Nat) : Fr := ⟨b, n, ⟨0, 0, 0, []⟩, none, 0, [], false, false⟩
def clr (x : Fr) : Fr := { x with used := false }
def addP (P : Po) (b n : Nat) : Po := { P with frs := P.frs ++ [emptyF b n], wl := putM P.wl P.wc n (pv b), wc := putC P.wl P.wc n }
def swapP (P : Po) (frs : List Fr) (hd : Nat) (x : Fr) (n : Nat) : Po := { P with frs := frs.set hd (emptyF x.b n), hand := (hd + 1) % P.most, wl := putM (delM P.wl x.n) P.wc n (pv x.b), wc := putC (delM P.wl x.n) P.wc n }
def failP (P : Po) (frs : List Fr) (hd : Nat) : Po := { P with frs := frs, hand := hd }
def RoomPost (q d l : Nat) (W : LM) (L : Lg) (MD : DM) (D : Dk) (M : PM) (P : Po) (n : Nat) (u : Value) (H' : List Asrt) : Prop :=
  (P.frs.length < P.most ∧ ∃ b fa fk, u = .tuple #[pv b, .int .i64 0] ∧ H' = poA q d l W L MD D ⟨fa, fk, M.wm, M.dm⟩ (addP P b n)) ∨
  (P.frs.length = P.most ∧ ∃ frs hd x MD', frs.map clr = P.frs.map clr ∧ frs[hd]? = some x ∧
    (((wrQ x L D).e = 0 ∧ u = .tuple #[pv x.b, .int .i64 0] ∧ H' = poA q d l W (wrQ x L D).L MD' (wrQ x L D).D M (swapP P frs hd x n)) ∨
     ((wrQ x L D).e ≠ 0 ∧ u = .tuple #[.pointer none, .int .i64 (wrQ x L D).e] ∧ H' = poA q d l W (wrQ x L D).L MD' (wrQ x L D).D M (failP P frs hd))))
theorem clr_ok {frs frs' : List Fr} (h : frs'.map clr = frs.map clr) (hx : ∀ x ∈ frs, FrOk x) : ∀ x ∈ frs', FrOk x := fun x hm => by
 have : clr x ∈ frs.map clr := by rw [← h]; exact List.mem_map_of_mem hm
 obtain ⟨y, hy, e⟩ := List.mem_map.1 this
 have := hx y hy
 obtain ⟨a1, a2, a3, a4, a5⟩ := this
 obtain ⟨b, n, pg, cb, cap, l, fr, us⟩ := x
 obtain ⟨b', n', pg', cb', cap', l', fr', us'⟩ := y
 unfold clr at e
 cases e
 exact ⟨a1, a2, a3, a4, a5⟩
theorem clr_len {frs frs' : List Fr} (h : frs'.map clr = frs.map clr) : frs'.length = frs.length := by
 have := congrArg List.length h
 simpa using this
theorem clr_set {frs : List Fr} {i : Nat} {x : Fr} (hx : frs[i]? = some x) : (frs.set i (clr x)).map clr = frs.map clr := by
 rw [List.map_set]
 refine List.ext_getElem? fun j => ?_
 rw [List.getElem?_set]
 split
 ·rename_i hij
  subst hij
  rw [List.getElem?_map, hx, List.length_map, if_pos (List.getElem?_eq_some_iff.1 hx).1]
  rfl
 ·rfl
theorem clr_P {frs frs' : List Fr} (h : frs'.map clr = frs.map clr) : frs'.map frP = frs.map frP := by
 have h1 : ∀ l : List Fr, l.map frP = (l.map clr).map frP := fun l => by rw [List.map_map]; rfl
 rw [h1 frs', h1 frs, h]
def usedN (l : List Fr) : Nat := (l.filter fun x => x.used).length
theorem used_set : ∀ {l : List Fr} {i : Nat} {x : Fr}, l[i]? = some x → x.used = true → usedN (l.set i (clr x)) < usedN l
 | [], _, _, h, _ => by simp at h
 | y :: l, 0, x, h, hu => by
  simp only [List.getElem?_cons_zero, Option.some.injEq] at h
  subst h
  unfold usedN
  rw [List.set_cons_zero, List.filter_cons, List.filter_cons]
  simp [clr, hu]
 | y :: l, i + 1, x, h, hu => by
  have := used_set (l := l) (i := i) (x := x) (by simpa using h) hu
  unfold usedN at this ⊢
  rw [List.set_cons_succ, List.filter_cons, List.filter_cons]
  split <;> (try simp only [List.length_cons]) <;> omega
theorem wr_x (x : Fr) (L : Lg) (D : Dk) : ((wrQ x L D).e ≠ 0 → (wrQ x L D).x = x) ∧ ∃ fr, (wrQ x L D).x = { x with fresh := fr } := by
 unfold wrQ
 split
 ·exact ⟨fun _ => rfl, _, rfl⟩
 ·split
  ·exact ⟨fun _ => rfl, _, rfl⟩
  ·split
   ·exact ⟨fun _ => rfl, _, rfl⟩
   ·exact ⟨fun h => absurd rfl h, _, rfl⟩
theorem QRoom (h : Base) (q d l : Nat) (W : LM) (L : Lg) (MD : DM) (D : Dk) (M : PM) (P : Po) (n : Nat) (ho : LgOk L) (hs : StrOk h W L.stream) (hk : DkOk D) (hr : D.cache.length + 30000 ≤ roomMax) (hP : PoOk P) (hn : n < 4294967296) :
  Tr Tryz.prog 40 [pv q, .int .u32 n] h (poA q d l W L MD D M P) (fun u h' H' => h' = h ∧ RoomPost q d l W L MD D M P n u H') := by
 obtain ⟨hm1, hm2⟩ := hP.most
 have hlen := hP.len
 have hhd := hP.hand
 have hwr := fun hd x hx => QWrite h q d l W L MD D M { P with hand := hd } x ho hs hk hr hx
 refine K.en Tryz.func40 fun F => ?_
 unfold poA poB poV poR lgA dkA
 simp only [Go.K.cna]
 (repeat' first | refine X.rq ?_ | refine X.rc ?_ ?_ <;> intro hc <;> try omega)
 refine X.drawN ([blk q 55 [dv d, pv l, .int .i64 P.most, bufV M.fa P.frs.length M.fk, .map (some M.wm), .map (some M.dm), .int .i64 P.hand]]) [] (.pu 0 (.pu 1 (.pu 2 (.pu 5 (.pu 6 (.pu 7 (.st 3 (.pu 4 (.st 8 (.pu 9 .nil)))))))))) ?_
 refine X.u_mv ?_
 refine X.u_nc ?_
 refine X.u_fa ?_
 refine X.u_mv ?_
 refine X.u_nc ?_
 refine X.u_fa ?_
 refine X.s_ld ?_
 refine X.u_len ?_
 refine X.s_ld ?_
 refine X.u_blss ?_
 refine K.d_nil ?_
 by_cases hlt : P.frs.length < P.most
 ·(repeat' first | refine X.rq ?_ | refine X.rc ?_ ?_ <;> intro hc <;> try omega)
  all_goals try (exfalso; omega)
  refine K.l_box rfl rfl rfl (fun b => ?_)
  (repeat' first | refine X.rq ?_ | refine X.rc ?_ ?_ <;> intro hc <;> try omega)
  refine K.l_buildSlice (cs := [pv b]) (Fx.und rfl) (Fx.sz rfl) rfl (Fx.zr rfl) rfl rfl rfl rfl rfl (fun B34 => ?_)
  refine K.l_append_at 9 rfl (Fx.und rfl) (Fx.und rfl) rfl (Fx.sz rfl) (Fx.zr rfl) rfl (Fx.byt rfl) rfl rfl (K.src_cells (m := 1) (K.cels_own (pre := []) (cs := [pv b]) (post := []) 0 rfl rfl) rfl (fun u hu => by rw [List.mem_singleton.1 hu]; rfl)) (by omega) (by omega) rfl (fun fa' fk' => ?_)
  simp only [Go.K.nmz]
  (repeat' first | refine X.rq ?_ | refine X.rc ?_ ?_ <;> intro hc <;> try omega)
  refine X.sto ?_
  simp only [Go.K.nmz]
  (repeat' first | refine X.rq ?_ | refine X.rc ?_ ?_ <;> intro hc <;> try omega)
  refine K.l_update_at 10 rfl rfl rfl hP.wk rfl rfl rfl ?_
  simp only [Go.K.nmz]
  (repeat' first | refine X.rq ?_ | refine X.rc ?_ ?_ <;> intro hc <;> try omega)
  refine K.AT.nilBuf 120 3 ?_
  refine Pg.AT.allNil ?_
  refine K.AT.sel [2] rfl ?_
  simp only [Go.K.nmz]
  refine K.AT.perm (K.pp [2, 1, 0, 10] rfl) ?_
  simp only [Go.K.nmz]
  refine K.AT.close (frL (emptyF b n)) ?_
  refine Pg.AT.allPush ?_
  refine K.AT.perm (K.pp [1, 1, 1, 1, 1, 1, 1, 1, 1, 1, 0] rfl) ?_
  have e1 : (addP P b n).frs.length = P.frs.length + 1 := by simp [addP]
  have e2 : (addP P b n).frs.map frP = P.frs.map frP ++ [pv b] := by simp [addP]; rfl
  have e3 : (addP P b n).frs.map frA = P.frs.map frA ++ [frA (emptyF b n)] := by simp [addP]
  exact K.dn (vs := [pv b, .int .i64 0]) rfl (K.Base.le.refl _) (H' := [_, _, _, _, _, _, _, _, _, _, _]) rfl ⟨rfl, .inl ⟨hlt, b, fa', fk', rfl, by unfold poA poR poB poV; rw [e1, e2, e3]; rfl⟩⟩
 ·have hfull : P.frs.length = P.most := by omega
  (repeat' first | refine X.rq ?_ | refine X.rc ?_ ?_ <;> intro hc <;> try omega)
  all_goals try (exfalso; omega)
  refine K.WC.someBuf 7 rfl (by omega) (fun fb hfb => ?_)
  rw [hfb]
  refine K.c_loop (σ := List Fr × Nat) (fun s => [(0, pv q), (1, .int .u32 n)]) (fun _ => h)
   (fun s => blk q 55 [dv d, pv l, .int .i64 P.most, bufV (some fb) P.frs.length M.fk, .map (some M.wm), .map (some M.dm), .int .i64 s.2] :: blk l 138 (lgV d W L) :: W.sA :: startsA W L :: blk d 98 (dkV MD D) :: keptA MD D :: cacheA MD D :: bufA 103 1 (some fb) P.frs.length M.fk (P.frs.map frP) :: mapA M.wm .u32 P.wl P.wc :: mapA M.dm .u32 P.dl P.dc :: all (s.1.map frA) :: F)
   (fun s => s.1.map clr = P.frs.map clr ∧ s.2 < P.most) (fun s => usedN s.1) (P.frs, P.hand) ⟨rfl, hhd⟩ (by repeat (first | exact K.Sub.nil _ | refine K.Sub.cons rfl ?_)) rfl rfl ?_
  rintro ⟨frs, hd⟩ ⟨hcl, hh⟩ KL hKL
  dsimp only at hcl hh ⊢
  have hfl := clr_len hcl
  have hfP := clr_P hcl
  have hfo := clr_ok hcl hP.fr
  obtain ⟨x, hx⟩ : ∃ x, frs[hd]? = some x := ⟨_, List.getElem?_eq_getElem (by omega)⟩
  have hxo := hfo x (List.mem_of_getElem? hx)
  have hpx : (P.frs.map frP)[((hd : Nat) : Int).toNat]? = some (pv x.b) := by rw [← hfP, Int.toNat_natCast, List.getElem?_map, hx]; rfl
  have hAx : (frs.map frA)[hd]? = some (frA x) := by rw [List.getElem?_map, hx]; rfl
  refine K.WC.perm (K.pp [10] rfl) ?_
  simp only [Go.K.nmz]
  refine WC.allGet hAx ?_
  refine K.WC.open ?_
  unfold frL frV
  simp only [Go.K.cna]
  (repeat' first | refine X.rq ?_ | refine X.rc ?_ ?_ <;> intro hc <;> try omega)
  refine X.drawN ([blk x.b 105 [.int .u32 x.n, .int .i64 x.pg.kind, .int .u64 x.pg.lsn, .int .u32 x.pg.next, bufV x.cb x.l.length x.cap, .bool x.fresh, .bool x.used],blk q 55 [dv d, pv l, .int .i64 P.most, bufV (some fb) P.frs.length M.fk, .map (some M.wm), .map (some M.dm), .int .i64 hd],bufA 103 1 (some fb) P.frs.length M.fk (P.frs.map frP)]) [] (.pu 0 (.pu 1 (.pu 2 (.pu 4 (.pu 5 (.pu 6 (.st 3 (.st 7 (.pu 8 (.st 9 (.pu 10 (.pu 11 (.st 12 .nil))))))))))))) ?_
  refine X.u_mv ?_
  refine X.u_nc ?_
  refine X.u_fa ?_
  refine X.u_mv ?_
  refine X.u_nc ?_
  refine X.u_fa ?_
  refine X.s_ld ?_
  refine X.s_ld ?_
  refine X.u_ia ?_
  refine K.d_st rfl (K.p_load (v := pv x.b) (Fx.agg rfl) rfl (cel_val 2 rfl (by simpa using hpx))) rfl ?_
  refine X.u_nc ?_
  refine X.u_fa ?_
  refine X.s_ld ?_
  refine K.d_nil ?_
  cases hu : x.used with
  | true =>
   (repeat' first | refine X.rq ?_ | refine X.rc ?_ ?_ <;> intro hc <;> try omega)
   all_goals try (exfalso; simp_all; done)
   refine X.drawN ([blk q 55 [dv d, pv l, .int .i64 P.most, bufV (some fb) P.frs.length M.fk, .map (some M.wm), .map (some M.dm), .int .i64 hd],bufA 103 1 (some fb) P.frs.length M.fk (P.frs.map frP)]) [] (.pu 0 (.pu 1 (.pu 2 (.pu 4 (.pu 5 (.pu 6 (.st 3 (.st 7 (.pu 8 (.st 9 (.pu 10 (.pu 11 (.on 12 .nil))))))))))))) ?_
   refine X.u_mv ?_
   refine X.u_nc ?_
   refine X.u_fa ?_
   refine X.u_mv ?_
   refine X.u_nc ?_
   refine X.u_fa ?_
   refine X.s_ld ?_
   refine X.s_ld ?_
   refine X.u_ia ?_
   refine K.d_st rfl (K.p_load (v := pv x.b) (Fx.agg rfl) rfl (cel_val 1 rfl (by simpa using hpx))) rfl ?_
   refine X.u_nc ?_
   refine X.u_fa ?_
   refine K.d_on rfl (fun KK hKK => ?_)
   refine X.sto ?_
   simp only [Go.K.nmz]
   refine K.l_nil ?_
   refine X.onE hKK ?_
   refine K.d_nil ?_
   (repeat' first | refine X.rq ?_ | refine X.rc ?_ ?_ <;> intro hc <;> try omega)
   refine X.drawN ([blk q 55 [dv d, pv l, .int .i64 P.most, bufV (some fb) P.frs.length M.fk, .map (some M.wm), .map (some M.dm), .int .i64 hd]]) [13] (.pu 0 (.pu 1 (.pu 2 (.pu 3 (.pu 6 (.pu 7 (.pu 8 (.st 4 (.pu 5 (.st 9 (.pu 10 (.pu 11 (.pu 12 (.cl 13 .nil)))))))))))))) ?_
   refine X.u_mv ?_
   refine X.u_mv ?_
   refine X.u_nc ?_
   refine X.u_fa ?_
   refine X.u_mv ?_
   refine X.u_nc ?_
   refine X.u_fa ?_
   refine X.s_ld ?_
   refine X.u_badd ?_
   refine X.s_ld ?_
   refine X.u_brem ?_
   refine X.u_nc ?_
   refine X.u_fa ?_
   refine K.d_cl rfl (fun KK hKK => ?_)
   refine X.sto ?_
   simp only [Go.K.nmz]
   refine K.l_nil ?_
   refine K.d_clE hKK ?_
   refine K.d_nil ?_
   (repeat' first | refine X.rq ?_ | refine X.rc ?_ ?_ <;> intro hc <;> try omega)
   have e5 : ((hd : Int) + 1) % (P.most : Int) = (((hd + 1) % P.most : Nat) : Int) := by rw [Int.natCast_emod, Int.natCast_add]; rfl
   rw [e5]
   refine K.AT.close (frL (clr x)) ?_
   refine AT.allRet (by rw [List.length_map]; omega) ?_
   rw [show (frs.map frA).set hd (all (frL (clr x))) = (frs.set hd (clr x)).map frA by rw [List.map_set]; rfl]
   refine K.AT.perm (K.pp [1, 1, 1, 1, 1, 1, 1, 1, 1, 1, 0] rfl) ?_
   refine K.a_round hKL (frs.set hd (clr x), (hd + 1) % P.most) ⟨(clr_set hx).trans hcl, Nat.mod_lt _ (by omega)⟩ (by repeat (first | exact K.Sub.nil _ | refine K.Sub.cons rfl ?_)) rfl rfl (used_set hx hu)
  | false =>
   (repeat' first | refine X.rq ?_ | refine X.rc ?_ ?_ <;> intro hc <;> try omega)
   all_goals try (exfalso; simp_all; done)
   refine X.drawN ([blk q 55 [dv d, pv l, .int .i64 P.most, bufV (some fb) P.frs.length M.fk, .map (some M.wm), .map (some M.dm), .int .i64 hd],bufA 103 1 (some fb) P.frs.length M.fk (P.frs.map frP)]) [] (.pu 0 (.pu 1 (.pu 2 (.pu 4 (.pu 5 (.pu 6 (.st 3 (.st 7 (.pu 8 (.st 9 (.pu 10 .nil))))))))))) ?_
   refine X.u_mv ?_
   refine X.u_nc ?_
   refine X.u_fa ?_
   refine X.u_mv ?_
   refine X.u_nc ?_
   refine X.u_fa ?_
   refine X.s_ld ?_
   refine X.s_ld ?_
   refine X.u_ia ?_
   refine K.d_st rfl (K.p_load (v := pv x.b) (Fx.agg rfl) rfl (cel_val 1 rfl (by simpa using hpx))) rfl ?_
   refine X.u_sg ?_
   refine K.d_nil ?_
   have hwx := hwr hd x hxo
   unfold wrA frL frV poB poV lgA dkA at hwx
   rw [hu, hfb] at hwx
   simp only [Go.K.cna] at hwx
   (repeat' first | refine X.rq ?_ | refine X.rc ?_ ?_ <;> intro hc <;> try omega)
   refine K.l_call (Fx.cal rfl) rfl hwx (K.pp [4, 0, 0, 0, 1, 1, 1, 1, 1, 1] rfl) rfl ?_
   rintro u h' H' - ⟨e, rfl, MD', -, rfl⟩
   obtain rfl := e.symm
   obtain ⟨r, hre⟩ : ∃ r, r = wrQ x L D := ⟨_, rfl⟩
   obtain ⟨w1, fr, w2⟩ := wr_x x L D
   rw [← hre] at w1 w2 ⊢
   unfold wrA
   by_cases he : r.e = 0
   ·rw [w2, he]
    unfold poB poV frL frV lgA dkA
    rw [hfb]
    simp only [Go.K.cna]
    simp only [Go.K.nmz]
    (repeat' first | refine X.rq ?_ | refine X.rc ?_ ?_ <;> intro hc <;> try omega)
    all_goals try (exfalso; omega)
    refine X.drawN ([blk q 55 [dv d, pv l, .int .i64 P.most, bufV (some fb) P.frs.length M.fk, .map (some M.wm), .map (some M.dm), .int .i64 hd]]) [13] (.pu 0 (.pu 1 (.pu 2 (.pu 3 (.pu 6 (.pu 7 (.pu 8 (.st 4 (.pu 5 (.st 9 (.pu 10 (.pu 11 (.pu 12 (.cl 13 .nil)))))))))))))) ?_
    refine X.u_mv ?_
    refine X.u_mv ?_
    refine X.u_nc ?_
    refine X.u_fa ?_
    refine X.u_mv ?_
    refine X.u_nc ?_
    refine X.u_fa ?_
    refine X.s_ld ?_
    refine X.u_badd ?_
    refine X.s_ld ?_
    refine X.u_brem ?_
    refine X.u_nc ?_
    refine X.u_fa ?_
    refine K.d_cl rfl (fun KK hKK => ?_)
    refine X.sto ?_
    simp only [Go.K.nmz]
    refine K.l_nil ?_
    refine K.d_clE hKK ?_
    refine K.d_nil ?_
    have e5 : ((hd : Int) + 1) % (P.most : Int) = (((hd + 1) % P.most : Nat) : Int) := by rw [Int.natCast_emod, Int.natCast_add]; rfl
    rw [e5]
    (repeat' first | refine X.rq ?_ | refine X.rc ?_ ?_ <;> intro hc <;> try omega)
    refine X.drawN ([blk q 55 [dv d, pv l, .int .i64 P.most, bufV (some fb) P.frs.length M.fk, .map (some M.wm), .map (some M.dm), .int .i64 (((hd + 1) % P.most : Nat) : Int)],blk x.b 105 [.int .u32 x.n, .int .i64 x.pg.kind, .int .u64 x.pg.lsn, .int .u32 x.pg.next, bufV x.cb x.l.length x.cap, .bool fr, .bool x.used]]) [] (.pu 0 (.pu 1 (.pu 2 (.pu 4 (.pu 5 (.pu 6 (.st 3 (.st 7 (.on 8 .nil))))))))) ?_
    refine X.u_mv ?_
    refine X.u_nc ?_
    refine X.u_fa ?_
    refine X.u_mv ?_
    refine X.u_nc ?_
    refine X.u_fa ?_
    refine X.s_ld ?_
    refine X.s_ld ?_
    refine K.d_on rfl (fun KK hKK => ?_)
    refine K.l_delete_at 12 rfl rfl rfl rfl hP.wk rfl rfl ?_
    simp only [Go.K.nmz]
    refine K.l_nil ?_
    refine X.onE hKK ?_
    refine K.d_nil ?_
    (repeat' first | refine X.rq ?_ | refine X.rc ?_ ?_ <;> intro hc <;> try omega)
    refine K.l_storeW_at (us := frV (emptyF x.b n)) 1 rfl (Fx.sz rfl) rfl rfl rfl rfl rfl ?_
    simp only [Go.K.nmz]
    (repeat' first | refine X.rq ?_ | refine X.rc ?_ ?_ <;> intro hc <;> try omega)
    refine K.l_update_at 12 rfl rfl rfl (hP.wk.del _) rfl rfl rfl ?_
    simp only [Go.K.nmz]
    (repeat' first | refine X.rq ?_ | refine X.rc ?_ ?_ <;> intro hc <;> try omega)
    refine K.AT.sel [2, 2] rfl ?_
    simp only [Go.K.nmz]
    refine K.AT.nilBuf 120 3 ?_
    refine Pg.AT.allNil ?_
    refine K.AT.perm (K.pp [3, 1, 0, 7] rfl) ?_
    simp only [Go.K.nmz]
    refine K.AT.close (frL (emptyF x.b n)) ?_
    refine AT.allRet (by rw [List.length_map]; omega) ?_
    rw [show (frs.map frA).set hd (all (frL (emptyF x.b n))) = (frs.set hd (emptyF x.b n)).map frA by rw [List.map_set]; rfl]
    refine K.AT.perm (K.pp [1, 1, 1, 1, 1, 1, 1, 1, 1, 1, 0] rfl) ?_
    have e6 : (swapP P frs hd x n).frs.length = P.frs.length := by simp [swapP, hfl]
    have e7 : (swapP P frs hd x n).frs.map frP = P.frs.map frP := by
     rw [← hfP]
     show (frs.set hd (emptyF x.b n)).map frP = _
     rw [List.map_set]
     exact List.ext_getElem? fun j => by
      rw [List.getElem?_set]
      split
      ·rename_i hij
       subst hij
       rw [List.getElem?_map, hx, List.length_map, if_pos (List.getElem?_eq_some_iff.1 hx).1]
       rfl
      ·rfl
    exact K.dn (vs := [pv x.b, .int .i64 0]) rfl (K.Base.le.refl _) (H' := [_, _, _, _, _, _, _, _, _, _, _]) rfl ⟨rfl, .inr ⟨hfull, frs, hd, x, MD', hcl, hx, .inl ⟨hre ▸ he, rfl, by rw [← hre]; unfold poA poR poB poV; rw [e6, e7, hfb]; rfl⟩⟩⟩
   ·rw [w1 he]
    unfold poB poV lgA dkA
    rw [hfb]
    simp only [Go.K.cna]
    simp only [Go.K.nmz]
    (repeat' first | refine X.rq ?_ | refine X.rc ?_ ?_ <;> intro hc <;> try omega)
    all_goals try (exfalso; omega)
    unfold frL
    simp only [Go.K.cna]
    refine K.AT.perm (K.pp [1, 1, 1, 7] rfl) ?_
    simp only [Go.K.nmz]
    refine K.AT.close (frL x) ?_
    refine AT.allRet (by rw [List.length_map]; omega) ?_
    rw [show (frs.map frA).set hd (all (frL x)) = frs.map frA by
     refine List.ext_getElem? fun j => ?_
     rw [List.getElem?_set]
     split
     ·rename_i hij
      subst hij
      rw [List.getElem?_map, hx, List.length_map, if_pos (List.getElem?_eq_some_iff.1 hx).1]
      rfl
     ·rfl]
    refine K.AT.perm (K.pp [1, 1, 1, 1, 1, 1, 1, 1, 1, 1, 0] rfl) ?_
    exact K.dn (vs := [.pointer none, .int .i64 r.e]) rfl (K.Base.le.refl _) (H' := [_, _, _, _, _, _, _, _, _, _, _]) rfl ⟨rfl, .inr ⟨hfull, frs, hd, x, MD', hcl, hx, .inr ⟨hre ▸ he, by rw [← hre]; rfl, by rw [← hre]; unfold poA poR poB poV failP; rw [hfl, hfP, hfb]; rfl⟩⟩⟩
end Go.Proofs.YtijbhgiigddjdaaGreat.Pl
end

section
namespace Go.Proofs.YtijbhgiigddjdaaGreat.Ra
open Go.K

end Go.Proofs.YtijbhgiigddjdaaGreat.Ra
end

section
namespace Go.Proofs.YtijbhgiigddjdaaGreat.Rb
open Go.K Cc

def tk (ok : Bool) (rem : List UInt8) (m : Int) : List UInt8 := if ok = true ∧ 0 ≤ m ∧ m ≤ rem.length then rem.take m.toNat else []
def tkOk (ok : Bool) (rem : List UInt8) (m : Int) : Bool := ok && decide (0 ≤ m ∧ m ≤ rem.length)
def tkRem (ok : Bool) (rem : List UInt8) (m : Int) : List UInt8 := if ok = true ∧ 0 ≤ m ∧ m ≤ rem.length then rem.drop m.toNat else rem

theorem R_Raw' (h : Base) (s : Option RS) (ok : Bool) (rem : List UInt8) (m : Int) (hr : Rd h s ok rem) (hl : rem.length ≤ big) (hm1 : -9223372036854775808 ≤ m) (hm2 : m ≤ 9223372036854775807) :
  Tr Tryz.prog 77 [rv s, .int .i64 m] h [rA s] (fun v h' H' => h = h' ∧ ∃ a cap s', v = bufV a (tk ok rem m).length cap ∧ same s s' ∧ Rd h s' (tkOk ok rem m) (tkRem ok rem m) ∧
   H' = [bufA 5 1 a (tk ok rem m).length cap ((tk ok rem m).map u8), rA s']) := R_Raw h s ok rem m hr hl hm1 hm2
end Go.Proofs.YtijbhgiigddjdaaGreat.Rb
end

section
namespace Go.Proofs.YtijbhgiigddjdaaGreat.Pg
open Go.K Cc Rb

def zPd : Pag := ⟨0, 0, 0, []⟩
abbrev Rt := Bool × List UInt8
def num (m : Nat) (r : Rt) : Nat := getN r.1 m r.2
def nxt (m : Nat) (r : Rt) : Rt := (getOk r.1 m r.2, getRem r.1 m r.2)
def cellQ (r : Rt) : PCell × Rt := if num 2 r = 0 then (⟨false, 0, []⟩, nxt 2 r) else
 (⟨true, num 4 (nxt 2 r), tk (nxt 4 (nxt 2 r)).1 (nxt 4 (nxt 2 r)).2 (num 2 r : Nat)⟩, (tkOk (nxt 4 (nxt 2 r)).1 (nxt 4 (nxt 2 r)).2 (num 2 r : Nat), tkRem (nxt 4 (nxt 2 r)).1 (nxt 4 (nxt 2 r)).2 (num 2 r : Nat)))
def cellsR : Nat → Rt → List PCell × Rt
 | 0, r => ([], r)
 | n + 1, r => if r.1 = true then ((cellQ r).1 :: (cellsR n (cellQ r).2).1, (cellsR n (cellQ r).2).2) else ([], r)
def readQ (r : Rt) : Pag × Rt :=
 (⟨(num 1 r : Nat), num 8 (nxt 1 (nxt 1 r)), num 4 (nxt 8 (nxt 1 (nxt 1 r))), (cellsR (num 1 (nxt 1 r)) (nxt 4 (nxt 8 (nxt 1 (nxt 1 r))))).1⟩, (cellsR (num 1 (nxt 1 r)) (nxt 4 (nxt 8 (nxt 1 (nxt 1 r))))).2)

theorem num_lt (m : Nat) (r : Rt) : num m r < 256 ^ m := by
 unfold num getN
 split
 ·rename_i h
  have := leNum_lt (r.2.take m)
  rwa [show (r.2.take m).length = m by simp; omega] at this
 ·exact Nat.pow_pos (by decide)
theorem nxt_ok {m : Nat} {r : Rt} (h : (nxt m r).1 = true) : r.1 = true ∧ r.2 = lebs (num m r) m ++ (nxt m r).2 := by
 obtain ⟨ok, rem⟩ := r
 simp only [nxt, getOk, Bool.and_eq_true, decide_eq_true_eq] at h
 obtain ⟨rfl, hm⟩ := h
 refine ⟨rfl, ?_⟩
 simp only [num, nxt, getN, getRem, true_and, if_pos hm]
 have := lebs_leNum (rem.take m)
 rw [show (rem.take m).length = m by simp; omega] at this
 rw [this, List.take_append_drop]
theorem nxt_app {m x : Nat} {rest : List UInt8} (h : x < 256 ^ m) : num m (true, lebs x m ++ rest) = x ∧ nxt m (true, lebs x m ++ rest) = (true, rest) := by
 have hl := lebs_length m x
 have h1 : (lebs x m ++ rest).take m = lebs x m := by rw [List.take_append_of_le_length (by omega), List.take_of_length_le (by omega)]
 have h2 : (lebs x m ++ rest).drop m = rest := by rw [List.drop_append_of_le_length (by omega), List.drop_of_length_le (by omega), List.nil_append]
 have h3 : m ≤ (lebs x m ++ rest).length := by rw [List.length_append]; omega
 refine ⟨?_, ?_⟩
 ·simp only [num, getN, true_and, if_pos h3, h1]
  exact leNum_lebs m x h
 ·simp only [nxt, getOk, getRem, true_and, if_pos h3, h2, Bool.true_and, decide_eq_true h3]
theorem cellQ_ok {r : Rt} (h : (cellQ r).2.1 = true) : r.1 = true ∧ r.2 = byC (cellQ r).1 ++ (cellQ r).2.2 := by
 unfold cellQ at h ⊢
 split at h
 ·rename_i h0
  obtain ⟨a, b⟩ := nxt_ok h
  rw [if_pos h0]
  refine ⟨a, ?_⟩
  rw [h0] at b
  simpa [byC] using b
 ·rename_i h0
  rw [if_neg h0]
  simp only [tkOk, Bool.and_eq_true, decide_eq_true_eq] at h
  obtain ⟨h1, h2, h3⟩ := h
  obtain ⟨a1, b1⟩ := nxt_ok h1
  obtain ⟨a2, b2⟩ := nxt_ok a1
  refine ⟨a2, ?_⟩
  have hc : (nxt 4 (nxt 2 r)).1 = true ∧ (0 : Int) ≤ (num 2 r : Nat) ∧ ((num 2 r : Nat) : Int) ≤ (nxt 4 (nxt 2 r)).2.length := ⟨h1, h2, h3⟩
  simp only [tk, tkRem, if_pos hc, Int.toNat_natCast, byC]
  have hl : ((nxt 4 (nxt 2 r)).2.take (num 2 r)).length = num 2 r := by simp; omega
  simp only [hl, if_true]
  rw [List.append_assoc, List.append_assoc, List.take_append_drop, ← b1, ← b2]
theorem cellsR_ok : ∀ (n : Nat) (r : Rt), (cellsR n r).2.1 = true → r.1 = true ∧ r.2 = cellsB (cellsR n r).1 ++ (cellsR n r).2.2 ∧ (cellsR n r).1.length = n
 | 0, r, h => ⟨h, rfl, rfl⟩
 | n + 1, r, h => by
  unfold cellsR at h ⊢
  split at h
  ·rename_i h0
   rw [if_pos h0]
   obtain ⟨a, b, c⟩ := cellsR_ok n _ h
   obtain ⟨_, e⟩ := cellQ_ok a
   refine ⟨h0, ?_, by rw [List.length_cons, c]⟩
   show r.2 = cellsB ((cellQ r).1 :: _) ++ _
   unfold cellsB at b ⊢
   rw [List.flatMap_cons, List.append_assoc, ← b, ← e]
  ·rename_i h0
   exact absurd h h0
theorem cellsR_small : ∀ (n : Nat) (r : Rt), (cellsR n r).1.length ≤ n ∧ ∀ x ∈ (cellsR n r).1, x.killer < 4294967296 ∧ x.data.length ≤ 65535
 | 0, r => ⟨Nat.le_refl _, fun x hx => by cases hx⟩
 | n + 1, r => by
  unfold cellsR
  split
  ·obtain ⟨a, b⟩ := cellsR_small n (cellQ r).2
   refine ⟨by rw [List.length_cons]; omega, fun x hx => ?_⟩
   rcases List.mem_cons.1 hx with rfl | hx
   ·unfold cellQ
    split
    ·exact ⟨show (0 : Nat) < 4294967296 by decide, Nat.zero_le _⟩
    ·refine ⟨num_lt 4 _, ?_⟩
     have := num_lt 2 r
     show (tk _ _ _).length ≤ _
     unfold tk
     split
     ·rw [List.length_take, Int.toNat_natCast]; omega
     ·exact Nat.zero_le _
   ·exact b x hx
  ·exact ⟨Nat.zero_le _, fun x hx => by cases hx⟩
theorem readQ_ok {r : Rt} (h : (readQ r).2.1 = true) : r.2 = bodyB (readQ r).1 ++ (readQ r).2.2 := by
 unfold readQ at h ⊢
 dsimp only at h ⊢
 obtain ⟨a, b, c⟩ := cellsR_ok _ _ h
 obtain ⟨a1, b1⟩ := nxt_ok a
 obtain ⟨a2, b2⟩ := nxt_ok a1
 obtain ⟨a3, b3⟩ := nxt_ok a2
 obtain ⟨a4, b4⟩ := nxt_ok a3
 unfold bodyB
 dsimp only
 rw [c, Int.toNat_natCast]
 simp only [List.append_assoc]
 rw [← b, ← b1, ← b2, ← b3, ← b4]
theorem readQ_wf (r : Rt) : wfP (readQ r).1 := by
 have h1 := num_lt 1 r
 have h2 := (cellsR_small (num 1 (nxt 1 r)) (nxt 4 (nxt 8 (nxt 1 (nxt 1 r))))).1
 have h3 := num_lt 1 (nxt 1 r)
 refine ⟨?_, num_lt 8 _, num_lt 4 _, ?_⟩
 ·show in64 ((num 1 r : Nat) : Int)
  unfold in64; omega
 ·show (cellsR _ _).1.length ≤ _
  omega
def decP (b : List UInt8) : Prop := b.length = 512 ∧ (readQ (nxt 4 (true, b))).2.1 = true ∧ num 4 (true, b) = sumQ 0 (b.drop 4) ∧ mayQ (readQ (nxt 4 (true, b))).1 = true ∧ ∀ c ∈ (readQ (nxt 4 (true, b))).2.2, c = 0
instance (b : List UInt8) : Decidable (decP b) := by unfold decP; infer_instance
def decQ (b : List UInt8) : Pag × Int := if decP b then ((readQ (nxt 4 (true, b))).1, 0) else (zPd, 5)
def rdecP (b : List UInt8) : Prop := b.length = 512 ∧ (readQ (true, b.drop 4)).2.1 = true ∧ (encQ (readQ (true, b.drop 4)).1).1 = b
instance (b : List UInt8) : Decidable (rdecP b) := by unfold rdecP; infer_instance
theorem nxt4 {b : List UInt8} (h : b.length = 512) : nxt 4 (true, b) = (true, b.drop 4) ∧ num 4 (true, b) = leNum (b.take 4) := by
 have h4 : 4 ≤ b.length := by omega
 simp only [nxt, num, getN, getOk, getRem, true_and, if_pos h4, Bool.true_and, decide_eq_true h4]
theorem zeros {l : List UInt8} (h : ∀ c ∈ l, c = 0) : l = List.replicate l.length 0 := List.eq_replicate_iff.2 ⟨rfl, h⟩
theorem dec_iff {b : List UInt8} : decP b ↔ rdecP b := by
 unfold decP rdecP
 constructor
 ·rintro ⟨h1, h2, h3, h4, h5⟩
  obtain ⟨e1, e2⟩ := nxt4 h1
  rw [e1] at h2 h4 h5
  rw [e2] at h3
  refine ⟨h1, h2, ?_⟩
  have hb := readQ_ok h2
  dsimp only at hb
  generalize readQ (true, b.drop 4) = r at h2 h4 h5 hb ⊢
  unfold encQ
  rw [if_pos h4]
  have hl : (b.drop 4).length = 508 := by rw [List.length_drop, h1]
  have hp : padB r.1 = b.drop 4 := by
   unfold padB
   rw [hb, zeros h5] at hl ⊢
   rw [List.length_append, List.length_replicate] at hl
   rw [show 508 - (bodyB r.1).length = r.2.2.length by omega]
  show encB r.1 = b
  unfold encB
  rw [hp, ← h3]
  have := lebs_leNum (b.take 4)
  rw [show (b.take 4).length = 4 by simp; omega] at this
  rw [this, List.take_append_drop]
 ·rintro ⟨h1, h2, h3⟩
  obtain ⟨e1, e2⟩ := nxt4 h1
  rw [e1, e2]
  have hb := readQ_ok h2
  dsimp only at hb
  generalize readQ (true, b.drop 4) = r at h2 h3 hb ⊢
  unfold encQ at h3
  by_cases hm : mayQ r.1 = true
  ·rw [if_pos hm] at h3
   have h3 : encB r.1 = b := h3
   unfold encB at h3
   have hl := lebs_length 4 (sumQ 0 (padB r.1))
   have t4 : b.take 4 = lebs (sumQ 0 (padB r.1)) 4 := by rw [← h3, List.take_append_of_le_length (by omega), List.take_of_length_le (by omega)]
   have d4 : b.drop 4 = padB r.1 := by rw [← h3, List.drop_append_of_le_length (by omega), List.drop_of_length_le (by omega), List.nil_append]
   refine ⟨h1, h2, ?_, hm, ?_⟩
   ·rw [t4, d4]
    exact leNum_lebs 4 _ (sumQ_lt (by decide) _)
   ·rw [d4] at hb
    unfold padB at hb
    rw [← List.append_cancel_left hb]
    intro c hc
    exact (List.mem_replicate.1 hc).2
  ·rw [if_neg hm] at h3
   have h3 : [] = b := h3
   rw [← h3] at h1; cases h1
theorem dec_cases (b : List UInt8) : (decP b ∧ (decQ b).2 = 0 ∧ mayQ (decQ b).1 = true ∧ encB (decQ b).1 = b) ∨ (¬ decP b ∧ decQ b = (zPd, 5)) := by
 by_cases h : decP b
 ·refine .inl ⟨h, ?_⟩
  obtain ⟨_, _, h3⟩ := dec_iff.1 h
  unfold decQ
  rw [if_pos h]
  refine ⟨rfl, h.2.2.2.1, ?_⟩
  have hm := h.2.2.2.1
  rw [(nxt4 h.1).1] at hm ⊢
  unfold encQ at h3
  rw [if_pos hm] at h3
  exact h3
 ·exact .inr ⟨h, by unfold decQ; rw [if_neg h]⟩
end Go.Proofs.YtijbhgiigddjdaaGreat.Pg
end
