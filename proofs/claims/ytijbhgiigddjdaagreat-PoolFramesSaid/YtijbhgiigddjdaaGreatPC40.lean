/-
 A page is put. Conditions: each theorem's own.
-/
import Derived.Test.YtijbhgiigddjdaaGreatPC39
set_option linter.unusedVariables false
set_option linter.unusedSimpArgs false
set_option maxRecDepth 10000
set_option maxHeartbeats 16000000
namespace Go.Proofs.YtijbhgiigddjdaaGreat.Pl
open Go.K Pg Wl

def putD (P : Po) (n lsn : Nat) : Po := if (K.look P.dl n).isSome then P else { P with dl := putM P.dl P.dc n (Wl.n64 lsn), dc := putC P.dl P.dc n }
theorem putD_frs (P : Po) (n lsn : Nat) : (putD P n lsn).frs = P.frs ∧ (putD P n lsn).most = P.most ∧ (putD P n lsn).wl = P.wl ∧ (putD P n lsn).wc = P.wc ∧ (putD P n lsn).hand = P.hand := by
 unfold putD
 split <;> exact ⟨rfl, rfl, rfl, rfl, rfl⟩
theorem PoOk.putD {P : Po} (h : PoOk P) (n lsn : Nat) : PoOk (putD P n lsn) := by
 unfold Pl.putD
 split
 ·exact h
 ·exact ⟨h.most, h.len, h.hand, h.fr, h.nd, h.wk, h.wh, h.wn, h.dk.put _ _⟩
inductive PutR (L : Lg) (D : Dk) (P : Po) (n : Nat) (to : Pag) : Int → Po → Lg → Dk → Prop
 | no : ¬ hasQ L D n → PutR L D P n to 2 P L D
 | bad : hasQ L D n → mayQ to = false → zeroQ to = false → PutR L D P n to 5 P L D
 | hit (i : Nat) (x y : Fr) : hasQ L D n → (mayQ to = true ∨ zeroQ to = true) → P.frs[i]? = some x → x.n = n → y.b = x.b → y.n = n → y.pg = to → y.fresh = true → FrOk y → PutR L D P n to 0 (putD (setP P i y) n to.lsn) L D
 | full (e : Int) (P' : Po) (L' : Lg) (D' : Dk) : hasQ L D n → (mayQ to = true ∨ zeroQ to = true) → (∀ x ∈ P.frs, x.n ≠ n) → RoomR L D P n none e P' L' D' → PutR L D P n to e P' L' D'
 | put (f i : Nat) (P' : Po) (L' : Lg) (D' : Dk) (y : Fr) : hasQ L D n → (mayQ to = true ∨ zeroQ to = true) → (∀ x ∈ P.frs, x.n ≠ n) → RoomR L D P n (some (f, i)) 0 P' L' D' →
   y.b = f → y.n = n → y.pg = to → y.fresh = true → FrOk y → PutR L D P n to 0 (putD (setP P' i y) n to.lsn) L' D'
theorem PutR.ok {L L' : Lg} {D D' : Dk} {P P' : Po} {n : Nat} {to : Pag} {e : Int} (h : PutR L D P n to e P' L' D') (hP : PoOk P) (hL : LgOk L) (hk : DkOk D) (hr : D.cache.length + 20000 ≤ roomMax) (hn : n < 4294967296) :
  PoOk P' ∧ P'.most = P.most ∧ DkOk D' ∧ D'.kept.length = D.kept.length ∧ D'.cache.length ≤ D.cache.length + 9001 ∧ (L' = L ∨ L' = { L with durable := endQ L }) := by
 cases h with
 | no h => exact ⟨hP, rfl, hk, rfl, by omega, .inl rfl⟩
 | bad h1 h2 h3 => exact ⟨hP, rfl, hk, rfl, by omega, .inl rfl⟩
 | hit i x y h1 h2 h3 h4 h5 h6 h7 h8 h9 => exact ⟨(hP.setF h3 (h6.trans h4.symm) h5 h9).putD _ _, (putD_frs _ _ _).2.1, hk, rfl, by omega, .inl rfl⟩
 | full e P' L' D' h1 h2 h3 h4 =>
  obtain ⟨a1, a2, a3, a4, _⟩ := h4.ok hP hn h3
  obtain ⟨b1, b2, b3, b4⟩ := h4.disk hL hk hr
  exact ⟨a1, a4, b1, b2, b3, b4⟩
 | put f i P' L' D' y h1 h2 h3 h4 h5 h6 h7 h8 h9 =>
  obtain ⟨a1, a2, a3, a4, _, a5⟩ := h4.ok hP hn h3
  obtain ⟨b1, b2, b3, b4⟩ := h4.disk hL hk hr
  exact ⟨(a1.setF (a5 _ _ rfl).2 h6 h5 h9).putD _ _, (putD_frs _ _ _).2.1.trans a4, b1, b2, b3, b4⟩
def PutPost (q d l : Nat) (W : LM) (L : Lg) (D : Dk) (P : Po) (n : Nat) (to : Pag) (u : Value) (H' : List Asrt) : Prop :=
 ∃ e P' L' D' MD' M', PutR L D P n to e P' L' D' ∧ u = .int .i64 e ∧ H' = poA q d l W L' MD' D' M' P'
theorem poA_putD {q d l : Nat} {W : LM} {L : Lg} {MD : DM} {D : Dk} {M : PM} {P : Po} {i : Nat} {x y : Fr} (n lsn : Nat) (hi : P.frs[i]? = some x) (hb : y.b = x.b) :
  poA q d l W L MD D M (putD (setP P i y) n lsn) = poB q d l M P :: (lgA l d W L ++ dkA d MD D ++ [bufA 103 1 M.fa P.frs.length M.fk (P.frs.map frP), mapA M.wm .u32 P.wl P.wc, mapA M.dm .u32 (if (K.look P.dl n).isSome then P.dl else putM P.dl P.dc n (Wl.n64 lsn)) (if (K.look P.dl n).isSome then P.dc else putC P.dl P.dc n), all ((P.frs.map frA).set i (frA y))]) := by
 by_cases hl : (K.look P.dl n).isSome = true
 ·have e1 : putD (setP P i y) n lsn = setP P i y := if_pos hl
  rw [e1, poA_set hi hb, if_pos hl, if_pos hl]
 ·have e1 : putD (setP P i y) n lsn = setP { P with dl := putM P.dl P.dc n (Wl.n64 lsn), dc := putC P.dl P.dc n } i y := if_neg hl
  rw [e1, poA_set (P := { P with dl := putM P.dl P.dc n (Wl.n64 lsn), dc := putC P.dl P.dc n }) hi hb, if_neg hl, if_neg hl]
  rfl
structure PuS where
 P : Po
 L : Lg
 D : Dk
 MD : DM
 M : PM
 i : Nat
 x : Fr
theorem QPut0 (h : Base) (q d l : Nat) (W : LM) (L : Lg) (MD : DM) (D : Dk) (M : PM) (P : Po) (n : Nat) (cs : List Value) (to : Pag) (hx : PagC h cs to) (ho : LgOk L) (hs : StrOk h W L.stream) (hk : DkOk D) (hr : D.cache.length + 40000 ≤ roomMax) (hP : PoOk P) (hp : 0 ≤ pagesQ L D) (hn : n < 4294967296) :
  Tr Tryz.prog 15 [pv q, .int .u32 n, .agg cs.toArray] h (poA q d l W L MD D M P) (fun u h' H' => PutPost q d l W L D P n to u H') := by
 have hmn := ho.mas.n
 have hfw := hk.few
 have hha := QHas h q d l W L MD D M P n hfw hmn hp hn
 have hmy := PMay h cs to hx
 have hzr := QZero h cs to hx
 have hrm := QRoom h q d l W L MD D M P n ho hs hk (by omega) hP hn
 have how := fun hh => QOwn h cs to hx hh
 obtain ⟨hw, cv, rfl, hcv⟩ := hx
 refine K.en Tryz.func15 fun F => ?_
 unfold poA poB poV poR lgA dkA
 unfold poB poV lgA dkA at hha
 unfold poA poB poV poR lgA dkA at hrm
 simp only [Go.K.cna] at hha hrm ⊢
 apply K.c_seq
 refine X.w ?_
 (repeat' first | refine X.rs ?_ | refine X.rd ?_ ?_ <;> intro hc <;> try omega)
 refine K.l_box rfl rfl rfl (fun B5 => ?_)
 (repeat' first | refine X.rs ?_ | refine X.rd ?_ ?_ <;> intro hc <;> try omega)
 apply K.c_seq
 refine K.c_join (β := Unit) (fun _ => [(0, pv q), (1, .int .u32 n), (5, .pointer (some ⟨B5, 0, none⟩))]) (fun _ => h)
  (fun _ => blk B5 41 (cP to cv) :: blk q 55 [dv d, pv l, .int .i64 P.most, bufV M.fa P.frs.length M.fk, .map (some M.wm), .map (some M.dm), .int .i64 P.hand] :: blk l 138 (lgV d W L) :: W.sA :: startsA W L :: blk d 98 (dkV MD D) :: keptA MD D :: cacheA MD D :: bufA 103 1 M.fa P.frs.length M.fk (P.frs.map frP) :: mapA M.wm .u32 P.wl P.wc :: mapA M.dm .u32 P.dl P.dc :: all (P.frs.map frA) :: F)
  (fun _ => hasQ L D n ∧ (mayQ to = true ∨ zeroQ to = true)) (fun KJ hJ => ?_) ?_
 ·(repeat' first | refine X.rq ?_ | refine X.rc ?_ ?_ <;> intro hc <;> try omega)
  refine K.l_callV (Fx.cal rfl) rfl hha (K.pp [1, 1, 1, 1, 1, 1, 1] rfl) rfl rfl ?_
  simp only [Go.K.nmz]
  by_cases hin : hasQ L D n
  rotate_left
  ·rw [decide_eq_false (p := 1 ≤ n ∧ (n : Int) ≤ pagesQ L D) hin]
   (repeat' first | refine X.rq ?_ | refine X.rc ?_ ?_ <;> intro hc <;> try omega)
   refine K.AT.sel [7] rfl ?_
   simp only [Go.K.nmz]
   exact K.dn (vs := [.int .i64 2]) rfl (K.Base.le.refl _) (H' := [_, _, _, _, _, _, _, _, _, _, _]) rfl ⟨_, _, _, _, MD, M, .no hin, rfl, rfl⟩
  rw [decide_eq_true (p := 1 ≤ n ∧ (n : Int) ≤ pagesQ L D) hin]
  (repeat' first | refine X.rq ?_ | refine X.rc ?_ ?_ <;> intro hc <;> try omega)
  refine K.WL.perm (K.pp [7] rfl) ?_
  simp only [Go.K.nmz]
  (repeat' first | refine X.rq ?_ | refine X.rc ?_ ?_ <;> intro hc <;> try omega)
  refine K.l_callV (Fx.cal rfl) rfl hmy (K.pp [] rfl) rfl rfl ?_
  simp only [List.nil_append]
  cases hm : mayQ to with
  | true =>
   (repeat' first | refine X.rq ?_ | refine X.rc ?_ ?_ <;> intro hc <;> try omega)
   all_goals try (exfalso; simp_all; done)
   refine K.a_join hJ () ⟨hin, .inl hm⟩ (by repeat (first | exact K.Sub.nil _ | refine K.Sub.cons rfl ?_)) rfl rfl
  | false =>
   (repeat' first | refine X.rq ?_ | refine X.rc ?_ ?_ <;> intro hc <;> try omega)
   all_goals try (exfalso; simp_all; done)
   refine K.l_callV (Fx.cal rfl) rfl hzr (K.pp [] rfl) rfl rfl ?_
   simp only [List.nil_append]
   cases hz : zeroQ to with
   | true =>
    (repeat' first | refine X.rq ?_ | refine X.rc ?_ ?_ <;> intro hc <;> try omega)
    all_goals try (exfalso; simp_all; done)
    refine K.a_join hJ () ⟨hin, .inr hz⟩ (by repeat (first | exact K.Sub.nil _ | refine K.Sub.cons rfl ?_)) rfl rfl
   | false =>
    (repeat' first | refine X.rq ?_ | refine X.rc ?_ ?_ <;> intro hc <;> try omega)
    all_goals try (exfalso; simp_all; done)
    refine K.AT.drop ?_
    exact K.dn (vs := [.int .i64 5]) rfl (K.Base.le.refl _) (H' := [_, _, _, _, _, _, _, _, _, _, _]) rfl ⟨_, _, _, _, MD, M, .bad hin hm hz, rfl, rfl⟩
 ·rintro - ⟨hin, hok⟩
  have hsm := (may_small hok).1
  have how := how hsm
  refine X.a ?_
  (repeat' first | refine X.rs ?_ | refine X.rd ?_ ?_ <;> intro hc <;> try omega)
  apply K.c_seq
  refine X.w ?_
  (repeat' first | refine X.rs ?_ | refine X.rd ?_ ?_ <;> intro hc <;> try omega)
  refine K.s_pure (K.p_lookup (v := if (∃ x ∈ P.frs, x.n = n) then (K.look P.wl n).getD (.pointer none) else .pointer none) 9 rfl rfl rfl rfl rfl rfl ?_) rfl ?_
  ·show (K.look P.wl n).getD (.pointer none) = _
   split
   ·rfl
   ·rename_i hne
    rw [hP.wn n fun x hx e => hne ⟨x, hx, e⟩]; rfl
  (repeat' first | refine X.rs ?_ | refine X.rd ?_ ?_ <;> intro hc <;> try omega)
  apply K.c_seq
  refine K.c_join (β := PuS) (fun s => [(0, pv q), (1, .int .u32 n), (5, .pointer (some ⟨B5, 0, none⟩)), (7, pv s.x.b)]) (fun _ => h)
   (fun s => blk B5 41 (cP to cv) :: blk q 55 [dv d, pv l, .int .i64 s.P.most, bufV s.M.fa s.P.frs.length s.M.fk, .map (some s.M.wm), .map (some s.M.dm), .int .i64 s.P.hand] :: blk l 138 (lgV d W s.L) :: W.sA :: startsA W s.L :: blk d 98 (dkV s.MD s.D) :: keptA s.MD s.D :: cacheA s.MD s.D :: bufA 103 1 s.M.fa s.P.frs.length s.M.fk (s.P.frs.map frP) :: mapA s.M.wm .u32 s.P.wl s.P.wc :: mapA s.M.dm .u32 s.P.dl s.P.dc :: all (s.P.frs.map frA) :: F)
   (fun s => s.P.frs[s.i]? = some s.x ∧ s.x.n = n ∧ PoOk s.P ∧ ((s.P = P ∧ s.L = L ∧ s.D = D) ∨ ((∀ x ∈ P.frs, x.n ≠ n) ∧ RoomR L D P n (some (s.x.b, s.i)) 0 s.P s.L s.D))) (fun KJ hJ => ?_) ?_
  ·by_cases hex : ∃ x ∈ P.frs, x.n = n
   ·rw [if_pos hex]
    obtain ⟨x, hxm, hxn⟩ := hex
    obtain ⟨i, hi⟩ := List.mem_iff_getElem?.1 hxm
    have hlook := hP.wh x hxm
    rw [hxn] at hlook
    rw [hlook]
    (repeat' first | refine X.rq ?_ | refine X.rc ?_ ?_ <;> intro hc <;> try omega)
    refine K.a_join hJ ⟨P, L, D, MD, M, i, x⟩ ⟨hi, hxn, hP, .inl ⟨rfl, rfl, rfl⟩⟩ (by repeat (first | exact K.Sub.nil _ | refine K.Sub.cons rfl ?_)) rfl rfl
   ·rw [if_neg hex]
    have hno : ∀ x ∈ P.frs, x.n ≠ n := fun x hx e => hex ⟨x, hx, e⟩
    (repeat' first | refine X.rq ?_ | refine X.rc ?_ ?_ <;> intro hc <;> try omega)
    refine K.l_call (Fx.cal rfl) rfl hrm (K.pp [1, 1, 1, 1, 1, 1, 1, 1, 1, 1, 1] rfl) rfl ?_
    rintro u h' H' - ⟨e, hpost⟩
    obtain rfl := e.symm
    obtain ⟨r, e3, P', L', D', MD', M', hR, hmd, rfl, rfl⟩ := hpost.rel
    unfold poA poB poV poR lgA dkA
    simp only [Go.K.cna]
    simp only [Go.K.nmz]
    obtain ⟨z1, z2, z3, z4, z5, z6⟩ := hR.ok hP hn hno
    cases r with
    | none =>
     have hne := z5 rfl
     dsimp only
     (repeat' first | refine X.rq ?_ | refine X.rc ?_ ?_ <;> intro hc <;> try omega)
     all_goals try (exfalso; omega)
     refine K.AT.sel [11] rfl ?_
     simp only [Go.K.nmz]
     exact K.dn (vs := [.int .i64 e3]) rfl (K.Base.le.refl _) (H' := [_, _, _, _, _, _, _, _, _, _, _]) rfl ⟨_, P', L', D', MD', M', .full e3 P' L' D' hin hok hno hR, rfl, rfl⟩
    | some bi =>
     obtain ⟨fb, i⟩ := bi
     obtain ⟨he0, hfi⟩ := z6 fb i rfl
     subst he0
     dsimp only
     (repeat' first | refine X.rq ?_ | refine X.rc ?_ ?_ <;> intro hc <;> try omega)
     all_goals try (exfalso; omega)
     refine K.AT.perm (K.pp [11] rfl) ?_
     refine K.a_join hJ ⟨P', L', D', MD', M', i, emptyF fb n⟩ ⟨hfi, rfl, z1, .inr ⟨hno, hR⟩⟩ (by repeat (first | exact K.Sub.nil _ | refine K.Sub.cons rfl ?_)) rfl rfl
  ·rintro ⟨P1, L1, D1, MD1, M1, i, x⟩ ⟨j1, j2, j3, j4⟩
   dsimp only at j1 j2 j3 j4 ⊢
   refine X.a ?_
   have hlt := (List.getElem?_eq_some_iff.1 j1).1
   subst j2
   (repeat' first | refine X.rq ?_ | refine X.rc ?_ ?_ <;> intro hc <;> try omega)
   refine K.l_call (Fx.cal rfl) rfl how (K.pp [] rfl) rfl ?_
   rintro u h' H' - ⟨e, cb, cap, cl, c1, c2, rfl, rfl⟩
   obtain rfl := e.symm
   have hcl : to.cells.length = cl.length := by rw [c1, List.length_map]
   rw [hcl]
   unfold pgA
   simp only [Go.K.cna]
   refine K.WL.perm (K.pp [13] rfl) ?_
   simp only [Go.K.nmz]
   refine WL.allGet (X := frA x) (i := i) (by rw [List.getElem?_map, j1]; rfl) ?_
   refine K.WL.open ?_
   unfold frL frV
   simp only [Go.K.cna]
   (repeat' first | refine X.rq ?_ | refine X.rc ?_ ?_ <;> intro hc <;> try omega)
   refine K.l_storeN (pre := [.int .u32 x.n]) (cs := [.int .i64 x.pg.kind, .int .u64 x.pg.lsn, .int .u32 x.pg.next, bufV x.cb x.l.length x.cap]) (post := [.bool x.fresh, .bool x.used]) (us := cP to (bufV cb cl.length cap)) (Fx.sz rfl) rfl rfl rfl rfl rfl (fun o _ => by simp) ?_
   unfold cP
   simp only [Go.K.cna]
   (repeat' first | refine X.rq ?_ | refine X.rc ?_ ?_ <;> intro hc <;> try omega)
   refine X.sto ?_
   simp only [Go.K.nmz]
   (repeat' first | refine X.rq ?_ | refine X.rc ?_ ?_ <;> intro hc <;> try omega)
   refine X.sto ?_
   simp only [Go.K.nmz]
   (repeat' first | refine X.rq ?_ | refine X.rc ?_ ?_ <;> intro hc <;> try omega)
   refine K.s_pure (K.p_lookup (v := .tuple #[(K.look P1.dl x.n).getD (.int .u64 0), .bool (K.look P1.dl x.n).isSome]) 16 rfl rfl rfl rfl rfl rfl rfl) rfl ?_
   have hyo : FrOk ⟨x.b, x.n, to, cb, cap, cl, true, true⟩ := ⟨hn, hw, c2, c1, hok⟩
   have hres : PutR L D P x.n to 0 (putD (setP P1 i ⟨x.b, x.n, to, cb, cap, cl, true, true⟩) x.n to.lsn) L1 D1 := by
    rcases j4 with ⟨rfl, rfl, rfl⟩ | ⟨k1, k2⟩
    ·exact .hit i x _ hin hok j1 rfl rfl rfl rfl rfl hyo
    ·exact .put x.b i P1 L1 D1 _ hin hok k1 k2 rfl rfl rfl rfl hyo
   cases hd : (K.look P1.dl x.n).isSome with
   | true =>
    (repeat' first | refine X.rq ?_ | refine X.rc ?_ ?_ <;> intro hc <;> try omega)
    all_goals try (exfalso; simp_all; done)
    refine K.AT.sel [1, 1] rfl ?_
    simp only [Go.K.nmz]
    refine K.AT.sel [4] rfl ?_
    simp only [Go.K.nmz]
    refine K.AT.perm (K.pp [0, 1, 1, 0] rfl) ?_
    simp only [Go.K.nmz]
    refine K.AT.close (frL ⟨x.b, x.n, to, cb, cap, cl, true, true⟩) ?_
    refine AT.allRet (by rw [List.length_map]; exact hlt) ?_
    refine K.AT.perm (K.pp [1, 1, 1, 1, 1, 1, 1, 1, 1, 1, 0] rfl) ?_
    exact K.dn (vs := [.int .i64 0]) rfl (K.Base.le.refl _) (H' := [_, _, _, _, _, _, _, _, _, _, _]) rfl ⟨_, putD (setP P1 i ⟨x.b, x.n, to, cb, cap, cl, true, true⟩) x.n to.lsn, L1, D1, MD1, M1, hres, rfl, by rw [poA_putD (y := ⟨x.b, x.n, to, cb, cap, cl, true, true⟩) x.n to.lsn j1 rfl, hd]; rfl⟩
   | false =>
    (repeat' first | refine X.rq ?_ | refine X.rc ?_ ?_ <;> intro hc <;> try omega)
    all_goals try (exfalso; simp_all; done)
    refine X.drawN ([blk B5 41 [.int .i64 to.kind, .int .u64 to.lsn, .int .u32 to.next, cv],blk q 55 [dv d, pv l, .int .i64 P1.most, bufV M1.fa P1.frs.length M1.fk, .map (some M1.wm), .map (some M1.dm), .int .i64 P1.hand]]) [] (.pu 0 (.pu 1 (.pu 2 (.pu 4 (.pu 5 (.st 3 (.st 6 (.on 7 .nil)))))))) ?_
    refine X.u_mv ?_
    refine X.u_nc ?_
    refine X.u_fa ?_
    refine X.u_mv ?_
    refine X.u_fa ?_
    refine X.s_ld ?_
    refine X.s_ld ?_
    refine K.d_on rfl (fun KK hKK => ?_)
    refine K.l_update_at 16 rfl rfl rfl j3.dk rfl rfl rfl ?_
    simp only [Go.K.nmz]
    refine K.l_nil ?_
    refine X.onE hKK ?_
    refine K.d_nil ?_
    (repeat' first | refine X.rq ?_ | refine X.rc ?_ ?_ <;> intro hc <;> try omega)
    refine K.AT.sel [1, 1] rfl ?_
    simp only [Go.K.nmz]
    refine K.AT.sel [4] rfl ?_
    simp only [Go.K.nmz]
    refine K.AT.perm (K.pp [0, 1, 1, 0] rfl) ?_
    simp only [Go.K.nmz]
    refine K.AT.close (frL ⟨x.b, x.n, to, cb, cap, cl, true, true⟩) ?_
    refine AT.allRet (by rw [List.length_map]; exact hlt) ?_
    refine K.AT.perm (K.pp [1, 1, 1, 1, 1, 1, 1, 1, 1, 1, 0] rfl) ?_
    exact K.dn (vs := [.int .i64 0]) rfl (K.Base.le.refl _) (H' := [_, _, _, _, _, _, _, _, _, _, _]) rfl ⟨_, putD (setP P1 i ⟨x.b, x.n, to, cb, cap, cl, true, true⟩) x.n to.lsn, L1, D1, MD1, M1, hres, rfl, by rw [poA_putD (y := ⟨x.b, x.n, to, cb, cap, cl, true, true⟩) x.n to.lsn j1 rfl, hd]; rfl⟩
theorem QPut (h : Base) (q d l : Nat) (W : LM) (L : Lg) (MD : DM) (D : Dk) (M : PM) (P : Po) (n : Nat) (cs : List Value) (to : Pag) (hx : PagC h cs to) (ho : LgOk L) (hs : StrOk h W L.stream) (hk : DkOk D) (hr : D.cache.length + 40000 ≤ roomMax) (hP : PoOk P) (hp : 0 ≤ pagesQ L D) (hn : n < 4294967296) :
  Tr Tryz.prog 15 [pv q, .int .u32 n, .agg cs.toArray] h (poA q d l W L MD D M P) (fun u h' H' => h' = h ∧ PutPost q d l W L D P n to u H') :=
 K.Tr.forget (QPut0 h q d l W L MD D M P n cs to hx ho hs hk hr hP hp hn)
end Go.Proofs.YtijbhgiigddjdaaGreat.Pl
