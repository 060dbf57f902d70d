/-
 A frame is found for a page. Conditions: each theorem's own.
-/
import Derived.Test.YtijbhgiigddjdaaGreatPB24
set_option linter.unusedVariables false
set_option linter.unusedSimpArgs false
namespace Go.Proofs.YtijbhgiigddjdaaGreat.Pl
open Go Go.K Go.Proofs Go.Proofs.YtijbhgiigddjdaaGreat Go.Proofs.YtijbhgiigddjdaaGreat.Pg Go.Proofs.YtijbhgiigddjdaaGreat.Wl
set_option maxRecDepth 10000

theorem cel_val {h : Base} {K : List Asrt} {T b m cap i : Nat} {cs : List Value} {u : Value} (j : Nat) (hj : K[j]? = some (bufA T 1 (some b) m cap cs)) (hi : cs[i]? = some u) : Cel h K b i u := ⟨fun w hs => by
 obtain ⟨sp, fz, g1, _⟩ := hs.own _ (List.mem_of_getElem? hj)
 have hlt : i < cs.length := (List.getElem?_eq_some_iff.1 hi).1
 have : (cs ++ sp)[i]? = some u := by rw [List.getElem?_append_left hlt]; exact hi
 simp [World.cell?, g1, this]⟩
def emptyF (b n : Nat) : Fr := ⟨b, n, ⟨0, 0, 0, []⟩, none, 0, [], false, false⟩
def clr (x : Fr) : Fr := { x with used := false }
def addP (P : Po) (b n : Nat) : Po := { P with frs := P.frs ++ [emptyF b n], wl := putM P.wl P.wc n (pv b), wc := putC P.wl P.wc n }
def swapP (P : Po) (frs : List Fr) (hd : Nat) (x : Fr) (n : Nat) : Po := { P with frs := frs.set hd (emptyF x.b n), hand := (hd + 1) % P.most, wl := putM (delM P.wl x.n) P.wc n (pv x.b), wc := putC (delM P.wl x.n) P.wc n }
def failP (P : Po) (frs : List Fr) (hd : Nat) : Po := { P with frs := frs, hand := hd }
def RoomPost (q d l : Nat) (W : LM) (L : Lg) (MD : DM) (D : Dk) (M : PM) (P : Po) (n : Nat) (u : Value) (H' : List Asrt) : Prop :=
  (P.frs.length < P.most ∧ ∃ b fa fk, u = .tuple #[pv b, .int .i64 0] ∧ H' = poA q d l W L MD D ⟨fa, fk, M.wm, M.dm⟩ (addP P b n)) ∨
  (P.frs.length = P.most ∧ ∃ frs hd x MD', frs.map clr = P.frs.map clr ∧ frs[hd]? = some x ∧
    (((wrQ x L D).e = 0 ∧ u = .tuple #[pv x.b, .int .i64 0] ∧ H' = poA q d l W (wrQ x L D).L MD' (wrQ x L D).D M (swapP P frs hd x n)) ∨
     ((wrQ x L D).e ≠ 0 ∧ u = .tuple #[.pointer none, .int .i64 (wrQ x L D).e] ∧ H' = poA q d l W (wrQ x L D).L MD' (wrQ x L D).D M (failP P frs hd))))
theorem clr_ok {frs frs' : List Fr} (h : frs'.map clr = frs.map clr) (hx : ∀ x ∈ frs, FrOk x) : ∀ x ∈ frs', FrOk x := fun x hm => by
 have : clr x ∈ frs.map clr := by rw [← h]; exact List.mem_map_of_mem hm
 obtain ⟨y, hy, e⟩ := List.mem_map.1 this
 have := hx y hy
 obtain ⟨a1, a2, a3, a4, a5⟩ := this
 obtain ⟨b, n, pg, cb, cap, l, fr, us⟩ := x
 obtain ⟨b', n', pg', cb', cap', l', fr', us'⟩ := y
 unfold clr at e
 cases e
 exact ⟨a1, a2, a3, a4, a5⟩
theorem clr_len {frs frs' : List Fr} (h : frs'.map clr = frs.map clr) : frs'.length = frs.length := by
 have := congrArg List.length h
 simpa using this
theorem clr_set {frs : List Fr} {i : Nat} {x : Fr} (hx : frs[i]? = some x) : (frs.set i (clr x)).map clr = frs.map clr := by
 rw [List.map_set]
 refine List.ext_getElem? fun j => ?_
 rw [List.getElem?_set]
 split
 ·rename_i hij
  subst hij
  rw [List.getElem?_map, hx, List.length_map, if_pos (List.getElem?_eq_some_iff.1 hx).1]
  rfl
 ·rfl
theorem clr_P {frs frs' : List Fr} (h : frs'.map clr = frs.map clr) : frs'.map frP = frs.map frP := by
 have h1 : ∀ l : List Fr, l.map frP = (l.map clr).map frP := fun l => by rw [List.map_map]; rfl
 rw [h1 frs', h1 frs, h]
def usedN (l : List Fr) : Nat := (l.filter fun x => x.used).length
theorem used_set : ∀ {l : List Fr} {i : Nat} {x : Fr}, l[i]? = some x → x.used = true → usedN (l.set i (clr x)) < usedN l
 | [], _, _, h, _ => by simp at h
 | y :: l, 0, x, h, hu => by
  simp only [List.getElem?_cons_zero, Option.some.injEq] at h
  subst h
  unfold usedN
  rw [List.set_cons_zero, List.filter_cons, List.filter_cons]
  simp [clr, hu]
 | y :: l, i + 1, x, h, hu => by
  have := used_set (l := l) (i := i) (x := x) (by simpa using h) hu
  unfold usedN at this ⊢
  rw [List.set_cons_succ, List.filter_cons, List.filter_cons]
  split <;> (try simp only [List.length_cons]) <;> omega
theorem wr_x (x : Fr) (L : Lg) (D : Dk) : ((wrQ x L D).e ≠ 0 → (wrQ x L D).x = x) ∧ ∃ fr, (wrQ x L D).x = { x with fresh := fr } := by
 unfold wrQ
 split
 ·exact ⟨fun _ => rfl, _, rfl⟩
 ·split
  ·exact ⟨fun _ => rfl, _, rfl⟩
  ·split
   ·exact ⟨fun _ => rfl, _, rfl⟩
   ·exact ⟨fun h => absurd rfl h, _, rfl⟩
set_option maxHeartbeats 8000000 in
theorem QRoom (h : Base) (q d l : Nat) (W : LM) (L : Lg) (MD : DM) (D : Dk) (M : PM) (P : Po) (n : Nat) (ho : LgOk L) (hs : StrOk h W L.stream) (hk : DkOk D) (hr : D.cache.length + 30000 ≤ roomMax) (hP : PoOk P) (hn : n < 4294967296) :
  Tr Tryz.prog 40 [pv q, .int .u32 n] h (poA q d l W L MD D M P) (fun u h' H' => h' = h ∧ RoomPost q d l W L MD D M P n u H') := by
 obtain ⟨hm1, hm2⟩ := hP.most
 have hlen := hP.len
 have hhd := hP.hand
 have hwr := fun hd x hx => QWrite h q d l W L MD D M { P with hand := hd } x ho hs hk hr hx
 refine K.enter Tryz.func40 rfl (Nat.le_of_ble_eq_true rfl) (fun F => ?_)
 unfold poA poB poV poR lgA dkA
 simp only [List.cons_append, List.nil_append]
 (repeat' first | refine X.rq ?_ | refine X.rc ?_ ?_ <;> intro hc <;> try omega)
 refine X.draw ([blk q 55 [dv d, pv l, .int .i64 P.most, bufV M.fa P.frs.length M.fk, .map (some M.wm), .map (some M.dm), .int .i64 P.hand]]) [] (.pu 0 (.pu 1 (.pu 2 (.pu 5 (.pu 6 (.pu 7 (.st 3 (.pu 4 (.st 8 (.pu 9 .nil)))))))))) ?_ (hQ := by repeat (first | with_reducible refine K.NoPanic.then ?_ | with_reducible refine K.NoPanic.inBlock ?_ | with_reducible exact K.post_noPanic _ _ | exact K.post_noPanic _ _ | exact K.QN_noPanic | exact K.postS_noPanic | exact K.postX_noPanic | exact K.RPX_noPanic))
 refine K.d_pu rfl (fun _ _ => X.mv) rfl ?_
 refine K.d_pu rfl (fun _ _ => X.nc) rfl ?_
 refine K.d_pu rfl (fun _ _ => X.fa) rfl ?_
 refine K.d_pu rfl (fun _ _ => X.mv) rfl ?_
 refine K.d_pu rfl (fun _ _ => X.nc) rfl ?_
 refine K.d_pu rfl (fun _ _ => X.fa) rfl ?_
 refine K.d_st rfl X.ld rfl ?_
 refine K.d_pu rfl (fun _ _ => X.len) rfl ?_
 refine K.d_st rfl X.ld rfl ?_
 refine K.d_pu rfl (fun _ _ => X.blss) rfl ?_
 refine K.d_nil ?_
 by_cases hlt : P.frs.length < P.most
 ·(repeat' first | refine X.rq ?_ | refine X.rc ?_ ?_ <;> intro hc <;> try omega)
  all_goals try (exfalso; omega)
  refine K.l_box rfl rfl rfl (fun b => ?_)
  (repeat' first | refine X.rq ?_ | refine X.rc ?_ ?_ <;> intro hc <;> try omega)
  refine K.l_buildSlice (cs := [pv b]) (Fx.und rfl) (Fx.sz rfl) rfl (Fx.zr rfl) rfl rfl rfl rfl rfl (fun B34 => ?_)
  refine K.l_append_at 9 rfl (Fx.und rfl) (Fx.und rfl) rfl (Fx.sz rfl) (Fx.zr rfl) rfl (Fx.byt rfl) rfl rfl (K.src_cells (m := 1) (K.cels_own (pre := []) (cs := [pv b]) (post := []) 0 rfl rfl) rfl (fun u hu => by rw [List.mem_singleton.1 hu]; rfl)) (by omega) (by omega) rfl (fun fa' fk' => ?_)
  simp only [Go.K.nmz]
  (repeat' first | refine X.rq ?_ | refine X.rc ?_ ?_ <;> intro hc <;> try omega)
  refine X.sto ?_
  simp only [Go.K.nmz]
  (repeat' first | refine X.rq ?_ | refine X.rc ?_ ?_ <;> intro hc <;> try omega)
  refine K.l_update_at 10 rfl rfl rfl hP.wk rfl rfl rfl ?_
  simp only [Go.K.nmz]
  (repeat' first | refine X.rq ?_ | refine X.rc ?_ ?_ <;> intro hc <;> try omega)
  refine K.AT.nilBuf 120 3 ?_
  refine Pg.AT.allNil ?_
  refine K.AT.sel [2] rfl ?_
  simp only [Go.K.nmz]
  refine K.AT.perm (K.pp [2, 1, 0, 10] rfl) ?_
  simp only [Go.K.nmz]
  refine K.AT.close (frL (emptyF b n)) ?_
  refine Pg.AT.allPush ?_
  refine K.AT.perm (K.pp [1, 1, 1, 1, 1, 1, 1, 1, 1, 1, 0] rfl) ?_
  have e1 : (addP P b n).frs.length = P.frs.length + 1 := by simp [addP]
  have e2 : (addP P b n).frs.map frP = P.frs.map frP ++ [pv b] := by simp [addP]; rfl
  have e3 : (addP P b n).frs.map frA = P.frs.map frA ++ [frA (emptyF b n)] := by simp [addP]
  exact K.dn (vs := [pv b, .int .i64 0]) rfl (K.Base.le.refl _) (H' := [_, _, _, _, _, _, _, _, _, _, _]) rfl ⟨rfl, .inl ⟨hlt, b, fa', fk', rfl, by unfold poA poR poB poV; rw [e1, e2, e3]; rfl⟩⟩
 ·have hfull : P.frs.length = P.most := by omega
  (repeat' first | refine X.rq ?_ | refine X.rc ?_ ?_ <;> intro hc <;> try omega)
  all_goals try (exfalso; omega)
  refine K.WC.someBuf 7 rfl (by omega) (fun fb hfb => ?_)
  rw [hfb]
  refine K.c_loop (σ := List Fr × Nat) (fun s => [(0, pv q), (1, .int .u32 n)]) (fun _ => h)
   (fun s => blk q 55 [dv d, pv l, .int .i64 P.most, bufV (some fb) P.frs.length M.fk, .map (some M.wm), .map (some M.dm), .int .i64 s.2] :: blk l 138 (lgV d W L) :: W.sA :: startsA W L :: blk d 98 (dkV MD D) :: keptA MD D :: cacheA MD D :: bufA 103 1 (some fb) P.frs.length M.fk (P.frs.map frP) :: mapA M.wm .u32 P.wl P.wc :: mapA M.dm .u32 P.dl P.dc :: all (s.1.map frA) :: F)
   (fun s => s.1.map clr = P.frs.map clr ∧ s.2 < P.most) (fun s => usedN s.1) (P.frs, P.hand) ⟨rfl, hhd⟩ (by repeat (first | exact K.Sub.nil _ | refine K.Sub.cons rfl ?_)) rfl rfl ?_
  rintro ⟨frs, hd⟩ ⟨hcl, hh⟩ KL hKL
  dsimp only at hcl hh ⊢
  have hfl := clr_len hcl
  have hfP := clr_P hcl
  have hfo := clr_ok hcl hP.fr
  obtain ⟨x, hx⟩ : ∃ x, frs[hd]? = some x := ⟨_, List.getElem?_eq_getElem (by omega)⟩
  have hxo := hfo x (List.mem_of_getElem? hx)
  have hpx : (P.frs.map frP)[((hd : Nat) : Int).toNat]? = some (pv x.b) := by rw [← hfP, Int.toNat_natCast, List.getElem?_map, hx]; rfl
  have hAx : (frs.map frA)[hd]? = some (frA x) := by rw [List.getElem?_map, hx]; rfl
  refine K.WC.perm (K.pp [10] rfl) ?_
  simp only [Go.K.nmz]
  refine WC.allGet hAx ?_
  refine K.WC.open ?_
  unfold frL frV
  simp only [List.cons_append, List.nil_append]
  (repeat' first | refine X.rq ?_ | refine X.rc ?_ ?_ <;> intro hc <;> try omega)
  refine X.draw ([blk x.b 105 [.int .u32 x.n, .int .i64 x.pg.kind, .int .u64 x.pg.lsn, .int .u32 x.pg.next, bufV x.cb x.l.length x.cap, .bool x.fresh, .bool x.used],blk q 55 [dv d, pv l, .int .i64 P.most, bufV (some fb) P.frs.length M.fk, .map (some M.wm), .map (some M.dm), .int .i64 hd],bufA 103 1 (some fb) P.frs.length M.fk (P.frs.map frP)]) [] (.pu 0 (.pu 1 (.pu 2 (.pu 4 (.pu 5 (.pu 6 (.st 3 (.st 7 (.pu 8 (.st 9 (.pu 10 (.pu 11 (.st 12 .nil))))))))))))) ?_ (hQ := by repeat (first | with_reducible refine K.NoPanic.then ?_ | with_reducible refine K.NoPanic.inBlock ?_ | with_reducible exact K.post_noPanic _ _ | exact K.post_noPanic _ _ | exact K.QN_noPanic | exact K.postS_noPanic | exact K.postX_noPanic | exact K.RPX_noPanic))
  refine K.d_pu rfl (fun _ _ => X.mv) rfl ?_
  refine K.d_pu rfl (fun _ _ => X.nc) rfl ?_
  refine K.d_pu rfl (fun _ _ => X.fa) rfl ?_
  refine K.d_pu rfl (fun _ _ => X.mv) rfl ?_
  refine K.d_pu rfl (fun _ _ => X.nc) rfl ?_
  refine K.d_pu rfl (fun _ _ => X.fa) rfl ?_
  refine K.d_st rfl X.ld rfl ?_
  refine K.d_st rfl X.ld rfl ?_
  refine K.d_pu rfl (fun _ _ => X.ia) rfl ?_
  refine K.d_st rfl (K.p_load (v := pv x.b) (Fx.agg rfl) rfl (cel_val 2 rfl (by simpa using hpx))) rfl ?_
  refine K.d_pu rfl (fun _ _ => X.nc) rfl ?_
  refine K.d_pu rfl (fun _ _ => X.fa) rfl ?_
  refine K.d_st rfl X.ld rfl ?_
  refine K.d_nil ?_
  cases hu : x.used with
  | true =>
   (repeat' first | refine X.rq ?_ | refine X.rc ?_ ?_ <;> intro hc <;> try omega)
   all_goals try (exfalso; simp_all; done)
   refine X.draw ([blk q 55 [dv d, pv l, .int .i64 P.most, bufV (some fb) P.frs.length M.fk, .map (some M.wm), .map (some M.dm), .int .i64 hd],bufA 103 1 (some fb) P.frs.length M.fk (P.frs.map frP)]) [] (.pu 0 (.pu 1 (.pu 2 (.pu 4 (.pu 5 (.pu 6 (.st 3 (.st 7 (.pu 8 (.st 9 (.pu 10 (.pu 11 (.on 12 .nil))))))))))))) ?_ (hQ := by repeat (first | with_reducible refine K.NoPanic.then ?_ | with_reducible refine K.NoPanic.inBlock ?_ | with_reducible exact K.post_noPanic _ _ | exact K.post_noPanic _ _ | exact K.QN_noPanic | exact K.postS_noPanic | exact K.postX_noPanic | exact K.RPX_noPanic))
   refine K.d_pu rfl (fun _ _ => X.mv) rfl ?_
   refine K.d_pu rfl (fun _ _ => X.nc) rfl ?_
   refine K.d_pu rfl (fun _ _ => X.fa) rfl ?_
   refine K.d_pu rfl (fun _ _ => X.mv) rfl ?_
   refine K.d_pu rfl (fun _ _ => X.nc) rfl ?_
   refine K.d_pu rfl (fun _ _ => X.fa) rfl ?_
   refine K.d_st rfl X.ld rfl ?_
   refine K.d_st rfl X.ld rfl ?_
   refine K.d_pu rfl (fun _ _ => X.ia) rfl ?_
   refine K.d_st rfl (K.p_load (v := pv x.b) (Fx.agg rfl) rfl (cel_val 1 rfl (by simpa using hpx))) rfl ?_
   refine K.d_pu rfl (fun _ _ => X.nc) rfl ?_
   refine K.d_pu rfl (fun _ _ => X.fa) rfl ?_
   refine K.d_on rfl (fun KK hKK => ?_)
   refine X.sto ?_
   simp only [Go.K.nmz]
   refine K.l_nil ?_
   refine X.onE hKK ?_
   refine K.d_nil ?_
   (repeat' first | refine X.rq ?_ | refine X.rc ?_ ?_ <;> intro hc <;> try omega)
   refine X.draw ([blk q 55 [dv d, pv l, .int .i64 P.most, bufV (some fb) P.frs.length M.fk, .map (some M.wm), .map (some M.dm), .int .i64 hd]]) [13] (.pu 0 (.pu 1 (.pu 2 (.pu 3 (.pu 6 (.pu 7 (.pu 8 (.st 4 (.pu 5 (.st 9 (.pu 10 (.pu 11 (.pu 12 (.cl 13 .nil)))))))))))))) ?_ (hQ := by repeat (first | with_reducible refine K.NoPanic.then ?_ | with_reducible refine K.NoPanic.inBlock ?_ | with_reducible exact K.post_noPanic _ _ | exact K.post_noPanic _ _ | exact K.QN_noPanic | exact K.postS_noPanic | exact K.postX_noPanic | exact K.RPX_noPanic))
   refine K.d_pu rfl (fun _ _ => X.mv) rfl ?_
   refine K.d_pu rfl (fun _ _ => X.mv) rfl ?_
   refine K.d_pu rfl (fun _ _ => X.nc) rfl ?_
   refine K.d_pu rfl (fun _ _ => X.fa) rfl ?_
   refine K.d_pu rfl (fun _ _ => X.mv) rfl ?_
   refine K.d_pu rfl (fun _ _ => X.nc) rfl ?_
   refine K.d_pu rfl (fun _ _ => X.fa) rfl ?_
   refine K.d_st rfl X.ld rfl ?_
   refine K.d_pu rfl (fun _ _ => X.badd) rfl ?_
   refine K.d_st rfl X.ld rfl ?_
   refine K.d_pu rfl (fun _ _ => X.brem) rfl ?_
   refine K.d_pu rfl (fun _ _ => X.nc) rfl ?_
   refine K.d_pu rfl (fun _ _ => X.fa) rfl ?_
   refine K.d_cl rfl (fun KK hKK => ?_)
   refine X.sto ?_
   simp only [Go.K.nmz]
   refine K.l_nil ?_
   refine K.d_clE hKK ?_
   refine K.d_nil ?_
   (repeat' first | refine X.rq ?_ | refine X.rc ?_ ?_ <;> intro hc <;> try omega)
   have e5 : ((hd : Int) + 1) % (P.most : Int) = (((hd + 1) % P.most : Nat) : Int) := by rw [Int.natCast_emod, Int.natCast_add]; rfl
   rw [e5]
   refine K.AT.close (frL (clr x)) ?_
   refine AT.allRet (by rw [List.length_map]; omega) ?_
   rw [show (frs.map frA).set hd (all (frL (clr x))) = (frs.set hd (clr x)).map frA by rw [List.map_set]; rfl]
   refine K.AT.perm (K.pp [1, 1, 1, 1, 1, 1, 1, 1, 1, 1, 0] rfl) ?_
   refine K.a_round hKL (frs.set hd (clr x), (hd + 1) % P.most) ⟨(clr_set hx).trans hcl, Nat.mod_lt _ (by omega)⟩ (by repeat (first | exact K.Sub.nil _ | refine K.Sub.cons rfl ?_)) rfl rfl (used_set hx hu)
  | false =>
   (repeat' first | refine X.rq ?_ | refine X.rc ?_ ?_ <;> intro hc <;> try omega)
   all_goals try (exfalso; simp_all; done)
   refine X.draw ([blk q 55 [dv d, pv l, .int .i64 P.most, bufV (some fb) P.frs.length M.fk, .map (some M.wm), .map (some M.dm), .int .i64 hd],bufA 103 1 (some fb) P.frs.length M.fk (P.frs.map frP)]) [] (.pu 0 (.pu 1 (.pu 2 (.pu 4 (.pu 5 (.pu 6 (.st 3 (.st 7 (.pu 8 (.st 9 (.pu 10 .nil))))))))))) ?_ (hQ := by repeat (first | with_reducible refine K.NoPanic.then ?_ | with_reducible refine K.NoPanic.inBlock ?_ | with_reducible exact K.post_noPanic _ _ | exact K.post_noPanic _ _ | exact K.QN_noPanic | exact K.postS_noPanic | exact K.postX_noPanic | exact K.RPX_noPanic))
   refine K.d_pu rfl (fun _ _ => X.mv) rfl ?_
   refine K.d_pu rfl (fun _ _ => X.nc) rfl ?_
   refine K.d_pu rfl (fun _ _ => X.fa) rfl ?_
   refine K.d_pu rfl (fun _ _ => X.mv) rfl ?_
   refine K.d_pu rfl (fun _ _ => X.nc) rfl ?_
   refine K.d_pu rfl (fun _ _ => X.fa) rfl ?_
   refine K.d_st rfl X.ld rfl ?_
   refine K.d_st rfl X.ld rfl ?_
   refine K.d_pu rfl (fun _ _ => X.ia) rfl ?_
   refine K.d_st rfl (K.p_load (v := pv x.b) (Fx.agg rfl) rfl (cel_val 1 rfl (by simpa using hpx))) rfl ?_
   refine K.d_pu rfl (fun _ _ => X.sg) rfl ?_
   refine K.d_nil ?_
   have hwx := hwr hd x hxo
   unfold wrA frL frV poB poV lgA dkA at hwx
   rw [hu, hfb] at hwx
   simp only [List.cons_append, List.nil_append] at hwx
   (repeat' first | refine X.rq ?_ | refine X.rc ?_ ?_ <;> intro hc <;> try omega)
   refine K.l_call (Fx.cal rfl) rfl hwx (K.pp [4, 0, 0, 0, 1, 1, 1, 1, 1, 1] rfl) rfl ?_
   rintro u h' H' - ⟨e, rfl, MD', -, rfl⟩
   obtain rfl := e.symm
   obtain ⟨r, hre⟩ : ∃ r, r = wrQ x L D := ⟨_, rfl⟩
   obtain ⟨w1, fr, w2⟩ := wr_x x L D
   rw [← hre] at w1 w2 ⊢
   unfold wrA
   by_cases he : r.e = 0
   ·rw [w2, he]
    unfold poB poV frL frV lgA dkA
    rw [hfb]
    simp only [List.cons_append, List.nil_append]
    simp only [Go.K.nmz]
    (repeat' first | refine X.rq ?_ | refine X.rc ?_ ?_ <;> intro hc <;> try omega)
    all_goals try (exfalso; omega)
    refine X.draw ([blk q 55 [dv d, pv l, .int .i64 P.most, bufV (some fb) P.frs.length M.fk, .map (some M.wm), .map (some M.dm), .int .i64 hd]]) [13] (.pu 0 (.pu 1 (.pu 2 (.pu 3 (.pu 6 (.pu 7 (.pu 8 (.st 4 (.pu 5 (.st 9 (.pu 10 (.pu 11 (.pu 12 (.cl 13 .nil)))))))))))))) ?_ (hQ := by repeat (first | with_reducible refine K.NoPanic.then ?_ | with_reducible refine K.NoPanic.inBlock ?_ | with_reducible exact K.post_noPanic _ _ | exact K.post_noPanic _ _ | exact K.QN_noPanic | exact K.postS_noPanic | exact K.postX_noPanic | exact K.RPX_noPanic))
    refine K.d_pu rfl (fun _ _ => X.mv) rfl ?_
    refine K.d_pu rfl (fun _ _ => X.mv) rfl ?_
    refine K.d_pu rfl (fun _ _ => X.nc) rfl ?_
    refine K.d_pu rfl (fun _ _ => X.fa) rfl ?_
    refine K.d_pu rfl (fun _ _ => X.mv) rfl ?_
    refine K.d_pu rfl (fun _ _ => X.nc) rfl ?_
    refine K.d_pu rfl (fun _ _ => X.fa) rfl ?_
    refine K.d_st rfl X.ld rfl ?_
    refine K.d_pu rfl (fun _ _ => X.badd) rfl ?_
    refine K.d_st rfl X.ld rfl ?_
    refine K.d_pu rfl (fun _ _ => X.brem) rfl ?_
    refine K.d_pu rfl (fun _ _ => X.nc) rfl ?_
    refine K.d_pu rfl (fun _ _ => X.fa) rfl ?_
    refine K.d_cl rfl (fun KK hKK => ?_)
    refine X.sto ?_
    simp only [Go.K.nmz]
    refine K.l_nil ?_
    refine K.d_clE hKK ?_
    refine K.d_nil ?_
    have e5 : ((hd : Int) + 1) % (P.most : Int) = (((hd + 1) % P.most : Nat) : Int) := by rw [Int.natCast_emod, Int.natCast_add]; rfl
    rw [e5]
    (repeat' first | refine X.rq ?_ | refine X.rc ?_ ?_ <;> intro hc <;> try omega)
    refine X.draw ([blk q 55 [dv d, pv l, .int .i64 P.most, bufV (some fb) P.frs.length M.fk, .map (some M.wm), .map (some M.dm), .int .i64 (((hd + 1) % P.most : Nat) : Int)],blk x.b 105 [.int .u32 x.n, .int .i64 x.pg.kind, .int .u64 x.pg.lsn, .int .u32 x.pg.next, bufV x.cb x.l.length x.cap, .bool fr, .bool x.used]]) [] (.pu 0 (.pu 1 (.pu 2 (.pu 4 (.pu 5 (.pu 6 (.st 3 (.st 7 (.on 8 .nil))))))))) ?_ (hQ := by repeat (first | with_reducible refine K.NoPanic.then ?_ | with_reducible refine K.NoPanic.inBlock ?_ | with_reducible exact K.post_noPanic _ _ | exact K.post_noPanic _ _ | exact K.QN_noPanic | exact K.postS_noPanic | exact K.postX_noPanic | exact K.RPX_noPanic))
    refine K.d_pu rfl (fun _ _ => X.mv) rfl ?_
    refine K.d_pu rfl (fun _ _ => X.nc) rfl ?_
    refine K.d_pu rfl (fun _ _ => X.fa) rfl ?_
    refine K.d_pu rfl (fun _ _ => X.mv) rfl ?_
    refine K.d_pu rfl (fun _ _ => X.nc) rfl ?_
    refine K.d_pu rfl (fun _ _ => X.fa) rfl ?_
    refine K.d_st rfl X.ld rfl ?_
    refine K.d_st rfl X.ld rfl ?_
    refine K.d_on rfl (fun KK hKK => ?_)
    refine K.l_delete_at 12 rfl rfl rfl rfl hP.wk rfl rfl ?_
    simp only [Go.K.nmz]
    refine K.l_nil ?_
    refine X.onE hKK ?_
    refine K.d_nil ?_
    (repeat' first | refine X.rq ?_ | refine X.rc ?_ ?_ <;> intro hc <;> try omega)
    refine K.l_storeW_at (us := frV (emptyF x.b n)) 1 rfl (Fx.sz rfl) rfl rfl rfl rfl rfl ?_
    simp only [Go.K.nmz]
    (repeat' first | refine X.rq ?_ | refine X.rc ?_ ?_ <;> intro hc <;> try omega)
    refine K.l_update_at 12 rfl rfl rfl (hP.wk.del _) rfl rfl rfl ?_
    simp only [Go.K.nmz]
    (repeat' first | refine X.rq ?_ | refine X.rc ?_ ?_ <;> intro hc <;> try omega)
    refine K.AT.sel [2, 2] rfl ?_
    simp only [Go.K.nmz]
    refine K.AT.nilBuf 120 3 ?_
    refine Pg.AT.allNil ?_
    refine K.AT.perm (K.pp [3, 1, 0, 7] rfl) ?_
    simp only [Go.K.nmz]
    refine K.AT.close (frL (emptyF x.b n)) ?_
    refine AT.allRet (by rw [List.length_map]; omega) ?_
    rw [show (frs.map frA).set hd (all (frL (emptyF x.b n))) = (frs.set hd (emptyF x.b n)).map frA by rw [List.map_set]; rfl]
    refine K.AT.perm (K.pp [1, 1, 1, 1, 1, 1, 1, 1, 1, 1, 0] rfl) ?_
    have e6 : (swapP P frs hd x n).frs.length = P.frs.length := by simp [swapP, hfl]
    have e7 : (swapP P frs hd x n).frs.map frP = P.frs.map frP := by
     rw [← hfP]
     show (frs.set hd (emptyF x.b n)).map frP = _
     rw [List.map_set]
     exact List.ext_getElem? fun j => by
      rw [List.getElem?_set]
      split
      ·rename_i hij
       subst hij
       rw [List.getElem?_map, hx, List.length_map, if_pos (List.getElem?_eq_some_iff.1 hx).1]
       rfl
      ·rfl
    exact K.dn (vs := [pv x.b, .int .i64 0]) rfl (K.Base.le.refl _) (H' := [_, _, _, _, _, _, _, _, _, _, _]) rfl ⟨rfl, .inr ⟨hfull, frs, hd, x, MD', hcl, hx, .inl ⟨hre ▸ he, rfl, by rw [← hre]; unfold poA poR poB poV; rw [e6, e7, hfb]; rfl⟩⟩⟩
   ·rw [w1 he]
    unfold poB poV lgA dkA
    rw [hfb]
    simp only [List.cons_append, List.nil_append]
    simp only [Go.K.nmz]
    (repeat' first | refine X.rq ?_ | refine X.rc ?_ ?_ <;> intro hc <;> try omega)
    all_goals try (exfalso; omega)
    unfold frL
    simp only [List.cons_append, List.nil_append]
    refine K.AT.perm (K.pp [1, 1, 1, 7] rfl) ?_
    simp only [Go.K.nmz]
    refine K.AT.close (frL x) ?_
    refine AT.allRet (by rw [List.length_map]; omega) ?_
    rw [show (frs.map frA).set hd (all (frL x)) = frs.map frA by
     refine List.ext_getElem? fun j => ?_
     rw [List.getElem?_set]
     split
     ·rename_i hij
      subst hij
      rw [List.getElem?_map, hx, List.length_map, if_pos (List.getElem?_eq_some_iff.1 hx).1]
      rfl
     ·rfl]
    refine K.AT.perm (K.pp [1, 1, 1, 1, 1, 1, 1, 1, 1, 1, 0] rfl) ?_
    exact K.dn (vs := [.pointer none, .int .i64 r.e]) rfl (K.Base.le.refl _) (H' := [_, _, _, _, _, _, _, _, _, _, _]) rfl ⟨rfl, .inr ⟨hfull, frs, hd, x, MD', hcl, hx, .inr ⟨hre ▸ he, by rw [← hre]; rfl, by rw [← hre]; unfold poA poR poB poV failP; rw [hfl, hfP, hfb]; rfl⟩⟩⟩
end Go.Proofs.YtijbhgiigddjdaaGreat.Pl
