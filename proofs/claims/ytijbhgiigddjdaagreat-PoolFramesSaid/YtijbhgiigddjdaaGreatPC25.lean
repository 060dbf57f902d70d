/-
 A frame is written, the log first. Conditions: each theorem's own.
-/
import Derived.Test.YtijbhgiigddjdaaGreatPC22
import Derived.Test.YtijbhgiigddjdaaGreatPC8
import Derived.Test.YtijbhgiigddjdaaGreatPC24
set_option linter.unusedVariables false
set_option linter.unusedSimpArgs false
set_option maxRecDepth 10000
set_option maxHeartbeats 16000000
namespace Go.Proofs.YtijbhgiigddjdaaGreat.Pl
open Go.K Pg Wl

theorem flush_ok {L : Lg} {D : Dk} (hL : LgOk L) (hk : DkOk D) (hr : D.cache.length + 20000 ≤ roomMax) :
  DkOk (flushQ L D).2.2 ∧ (flushQ L D).2.2.kept.length = D.kept.length ∧ (flushQ L D).2.2.cache.length ≤ D.cache.length + 9000 ∧ ((flushQ L D).2.1 = L ∨ (flushQ L D).2.1 = { L with durable := endQ L }) ∧ ((flushQ L D).1 = 0 → (flushQ L D).2.1 = { L with durable := endQ L }) := by
 have h1 := hL.str
 have h2 := hL.mas.n
 unfold flushQ
 by_cases hd : L.durable = endQ L
 ·rw [if_pos hd]
  exact ⟨hk, rfl, Nat.le_add_right _ _, .inl rfl, fun _ => by rw [← hd]⟩
 rw [if_neg hd]
 obtain ⟨a1, a2, a3⟩ := fl_ok L.stream (secs L.stream - firstQ L) (firstQ L) hk (by unfold secs; omega)
 generalize flQ L.stream (secs L.stream - firstQ L) (firstQ L) D = r at a1 a2 a3 ⊢
 have a4 : r.2.cache.length ≤ D.cache.length + 9000 := by unfold secs at a2; omega
 split
 ·rename_i hne
  exact ⟨a1, a3, a4, .inl rfl, fun h => absurd h hne⟩
 ·obtain ⟨b1, b2, b3⟩ := sync_ok a1
  split
  ·rename_i hne
   exact ⟨b1, b3.trans a3, by dsimp only; omega, .inl rfl, fun h => absurd h hne⟩
  ·exact ⟨b1, b3.trans a3, by dsimp only; omega, .inr rfl, fun _ => rfl⟩
theorem LgOk.flushed {L L' : Lg} (hL : LgOk L) (h : L' = L ∨ L' = { L with durable := endQ L }) : LgOk L' := by
 rcases h with rfl | rfl
 ·exact hL
 ·exact ⟨hL.mas, hL.base, hL.str, hL.sts, by unfold endQ; exact ⟨Nat.le_add_right _ _, Nat.le_refl _⟩⟩
theorem flushed_same {L L' : Lg} (h : L' = L ∨ L' = { L with durable := endQ L }) : L'.m = L.m ∧ L'.stream = L.stream ∧ L'.starts = L.starts := by
 rcases h with rfl | rfl <;> exact ⟨rfl, rfl, rfl⟩
def pgB (p : Pag) : Sec := if zeroQ p = true then zs else encB p
theorem pgB_len {p : Pag} (h : mayQ p = true ∨ zeroQ p = true) : (pgB p).length = 512 := by
 unfold pgB
 split
 ·exact List.length_replicate
 ·rename_i hz
  rcases h with h | h
  ·exact encB_len h
  ·exact absurd h hz
def lfQ (x : Fr) (L : Lg) (D : Dk) : Int × Lg × Dk := if L.durable ≤ x.pg.lsn then flushQ L D else (0, L, D)
theorem lf_ok {x : Fr} {L : Lg} {D : Dk} (hL : LgOk L) (hk : DkOk D) (hr : D.cache.length + 20000 ≤ roomMax) :
  DkOk (lfQ x L D).2.2 ∧ (lfQ x L D).2.2.kept.length = D.kept.length ∧ (lfQ x L D).2.2.cache.length ≤ D.cache.length + 9000 ∧ ((lfQ x L D).2.1 = L ∨ (lfQ x L D).2.1 = { L with durable := endQ L }) := by
 unfold lfQ
 split
 ·obtain ⟨a, b, c, d, _⟩ := flush_ok hL hk hr
  exact ⟨a, b, c, d⟩
 ·exact ⟨hk, rfl, Nat.le_add_right _ _, .inl rfl⟩
structure WrR where
 e : Int
 L : Lg
 D : Dk
 x : Fr
def wrQ (x : Fr) (L : Lg) (D : Dk) : WrR :=
 if x.fresh = false then ⟨0, L, D, x⟩ else
 if (lfQ x L D).1 ≠ 0 then ⟨(lfQ x L D).1, (lfQ x L D).2.1, (lfQ x L D).2.2, x⟩ else
 if (writeQ (lfQ x L D).2.2 ((L.m.n + x.n : Nat) : Int) (pgB x.pg)).1 ≠ 0 then ⟨(writeQ (lfQ x L D).2.2 ((L.m.n + x.n : Nat) : Int) (pgB x.pg)).1, (lfQ x L D).2.1, (writeQ (lfQ x L D).2.2 ((L.m.n + x.n : Nat) : Int) (pgB x.pg)).2, x⟩ else
 ⟨0, (lfQ x L D).2.1, (writeQ (lfQ x L D).2.2 ((L.m.n + x.n : Nat) : Int) (pgB x.pg)).2, { x with fresh := false }⟩
def wrA (q d l : Nat) (W : LM) (L : Lg) (MD : DM) (D : Dk) (M : PM) (P : Po) (x : Fr) : List Asrt := poB q d l M P :: (frL x ++ (lgA l d W L ++ dkA d MD D))
def WrPost (h : Base) (q d l : Nat) (W : LM) (MD : DM) (M : PM) (P : Po) (x : Fr) (r : WrR) (u : Value) (H' : List Asrt) : Prop := u = .int .i64 r.e ∧ ∃ MD', (x.fresh = false → MD' = MD) ∧ H' = wrA q d l W r.L MD' r.D M P r.x
theorem QWrite0 (h : Base) (q d l : Nat) (W : LM) (L : Lg) (MD : DM) (D : Dk) (M : PM) (P : Po) (x : Fr) (ho : LgOk L) (hs : StrOk h W L.stream) (hk : DkOk D) (hr : D.cache.length + 30000 ≤ roomMax) (hx : FrOk x) :
  Tr Tryz.prog 51 [pv q, pv x.b] h (wrA q d l W L MD D M P x) (fun u h' H' => WrPost h q d l W MD M P x (wrQ x L D) u H') := by
 obtain ⟨k1, k2, k3, k4⟩ := lf_ok (x := x) ho hk (by omega)
 have hmn := ho.mas.n
 have hxn := hx.n
 have hdu := ho.dur
 have hba := ho.base
 have hst := ho.str
 have hls := hx.wf.lsn
 unfold lastLSN at hba
 obtain ⟨s1, s2, s3⟩ := flushed_same k4
 have hlen := hx.len
 have hdurA := LDurable h l d W L
 have hflA := K.Tr.forget (Flush h l d W L MD D ho hs hk (by omega))
 have hze := K.TrV.borrow (h := h) (A := pgA x.cb x.cap x.l) (R := []) fun h' hle hsy => QZero h' _ x.pg (says_page hsy hx.ok hx.wf hx.cells)
 have hen := fun h0 => K.Tr.borrow (P := Tryz.prog) (h := h0) (f := 91) (args := [.agg (cP x.pg (bufV x.cb x.pg.cells.length x.cap)).toArray]) (A := pgA x.cb x.cap x.l) (R := [])
  (Q := fun v H' => ∃ a cap, v = .tuple #[bufV a (encQ x.pg).1.length cap, .int .i64 (encQ x.pg).2] ∧ H' = [bufA 5 1 a (encQ x.pg).1.length cap ((encQ x.pg).1.map u8)]) fun h' hle hsy => Encode h' _ x.pg (says_page hsy hx.ok hx.wf hx.cells)
 rw [hlen] at hze
 have hwr := fun h' md v hb => Write h' d md (lfQ x L D).2.2 ((L.m.n + x.n : Nat) : Int) v (pgB x.pg) k1 (by omega) (by omega) hb (by rw [pgB_len hx.may]; omega)
 refine K.en Tryz.func51 fun F => ?_
 unfold wrQ
 unfold wrA frL frV poB poV
 simp only [Go.K.cna]
 by_cases hf : x.fresh = false
 ·rw [if_pos hf]
  (repeat' first | refine X.rq ?_ | refine X.rc ?_ ?_ <;> intro hc <;> try omega)
  all_goals try (exfalso; simp_all; done)
  exact K.dn (vs := [.int .i64 0]) rfl (K.Base.le.refl _) (H' := [_, _, _, _, _, _, _, _, _, _]) rfl ⟨rfl, MD, fun _ => rfl, rfl⟩
 ·have hf1 : x.fresh = true := by simpa using hf
  rw [if_neg hf, hf1]
  apply K.c_seq
  refine X.w ?_
  (repeat' first | refine X.rs ?_ | refine X.rd ?_ ?_ <;> intro hc <;> try omega)
  apply K.c_seq
  apply K.c_seq
  refine X.w ?_
  (repeat' first | refine X.rs ?_ | refine X.rd ?_ ?_ <;> intro hc <;> try omega)
  apply K.c_seq
  refine K.c_join (β := DM) (fun _ => [(0, pv q), (1, pv x.b)]) (fun _ => h)
   (fun md => blk q 55 [dv d, pv l, .int .i64 P.most, bufV M.fa P.frs.length M.fk, .map (some M.wm), .map (some M.dm), .int .i64 P.hand] :: blk x.b 105 [.int .u32 x.n, .int .i64 x.pg.kind, .int .u64 x.pg.lsn, .int .u32 x.pg.next, bufV x.cb x.l.length x.cap, .bool true, .bool x.used] :: bufA 120 3 x.cb x.l.length x.cap (x.l.map rowO).flatten :: all (x.l.map datA) :: (lgA l d W (lfQ x L D).2.1 ++ dkA d md (lfQ x L D).2.2 ++ F))
   (fun _ => (lfQ x L D).1 = 0) (fun KJ hJ => ?_) ?_
  ·(repeat' first | refine X.rq ?_ | refine X.rc ?_ ?_ <;> intro hc <;> try omega)
   refine X.drawN ([blk q 55 [dv d, pv l, .int .i64 P.most, bufV M.fa P.frs.length M.fk, .map (some M.wm), .map (some M.dm), .int .i64 P.hand],blk x.b 105 [.int .u32 x.n, .int .i64 x.pg.kind, .int .u64 x.pg.lsn, .int .u32 x.pg.next, bufV x.cb x.l.length x.cap, .bool true, .bool x.used]]) [] (.pu 0 (.pu 1 (.pu 2 (.pu 3 (.pu 5 (.pu 6 (.pu 7 (.st 4 (.st 8 (.on 9 (.pu 10 .nil))))))))))) ?_
   refine X.u_mv ?_
   refine X.u_nc ?_
   refine X.u_fa ?_
   refine X.u_fa ?_
   refine X.u_mv ?_
   refine X.u_nc ?_
   refine X.u_fa ?_
   refine X.s_ld ?_
   refine X.s_ld ?_
   refine K.d_on rfl (fun KK hKK => ?_)
   refine K.l_callV (Fx.cal rfl) rfl hdurA (K.pp [4, 4, 4] rfl) rfl rfl ?_
   unfold Wl.n64
   refine K.l_nil ?_
   refine X.onE hKK ?_
   refine X.u_bgeq ?_
   refine K.d_nil ?_
   unfold lgA dkA at hflA ⊢
   simp only [Go.K.cna] at hflA ⊢
   simp only [Go.K.nmz]
   by_cases hd : L.durable ≤ x.pg.lsn
   ·have hlf : lfQ x L D = flushQ L D := if_pos hd
    rw [hlf] at hJ
    (repeat' first | refine X.rq ?_ | refine X.rc ?_ ?_ <;> intro hc <;> try omega)
    all_goals try (exfalso; omega)
    refine K.l_call (Fx.cal rfl) rfl hflA (K.pp [0, 0, 0, 4, 4, 4] rfl) rfl ?_
    rintro u h' H' - ⟨e, rfl, md, rfl⟩
    obtain rfl := e.symm
    simp only [Go.K.nmz]
    by_cases hfe : (flushQ L D).1 = 0
    ·rw [hfe]
     (repeat' first | refine X.rq ?_ | refine X.rc ?_ ?_ <;> intro hc <;> try omega)
     all_goals try (exfalso; omega)
     refine K.AT.perm (K.pp [6, 6, 6, 6, 0, 0, 0, 0, 0, 0] rfl) ?_
     refine K.a_join hJ md hfe (by repeat (first | exact K.Sub.nil _ | refine K.Sub.cons rfl ?_)) rfl rfl
    ·have hne : (lfQ x L D).1 ≠ 0 := by rw [hlf]; exact hfe
     rw [if_pos hne, hlf]
     (repeat' first | refine X.rq ?_ | refine X.rc ?_ ?_ <;> intro hc <;> try omega)
     all_goals try (exfalso; omega)
     refine K.AT.perm (K.pp [6, 6, 6, 6, 0, 0, 0, 0, 0, 0] rfl) ?_
     exact K.dn (vs := [.int .i64 _]) rfl (K.Base.le.refl _) (H' := [_, _, _, _, _, _, _, _, _, _]) rfl ⟨rfl, md, fun h => absurd h hf, by unfold wrA frL frV; rw [hf1]; rfl⟩
   ·have hlf : lfQ x L D = (0, L, D) := if_neg hd
    rw [hlf] at hJ
    (repeat' first | refine X.rq ?_ | refine X.rc ?_ ?_ <;> intro hc <;> try omega)
    all_goals try (exfalso; omega)
    refine K.AT.perm (K.pp [3, 3, 3, 3, 0, 0, 0, 0, 0, 0] rfl) ?_
    refine K.a_join hJ MD rfl (by repeat (first | exact K.Sub.nil _ | refine K.Sub.cons rfl ?_)) rfl rfl
  ·rintro md he0
   rw [if_neg (fun h => h he0)]
   refine X.a ?_
   apply K.c_seq
   refine X.w ?_
   (repeat' first | refine X.rs ?_ | refine X.rd ?_ ?_ <;> intro hc <;> try omega)
   refine K.l_makeSlice (m := 512) (c := 512) (Fx.und rfl) (Fx.sz rfl) (Fx.zr rfl) rfl (Fx.byt rfl) rfl rfl (by omega) (by omega) (by unfold maxLen; omega) rfl (fun Bz => ?_)
   rw [show (Value.int .u8 0).cells = #[Value.int .u8 0] from rfl, zeros_made]
   (repeat' first | refine X.rs ?_ | refine X.rd ?_ ?_ <;> intro hc <;> try omega)
   apply K.c_seq
   unfold lgA dkA at hwr ⊢
   simp only [Go.K.cna] at hwr ⊢
   refine K.c_join (β := Option Nat × Nat) (fun b => [(0, pv q), (1, pv x.b), (6, bufV b.1 512 b.2)]) (fun _ => h)
    (fun b => bufA 5 1 b.1 512 b.2 ((pgB x.pg).map u8) :: blk q 55 [dv d, pv l, .int .i64 P.most, bufV M.fa P.frs.length M.fk, .map (some M.wm), .map (some M.dm), .int .i64 P.hand] :: blk x.b 105 [.int .u32 x.n, .int .i64 x.pg.kind, .int .u64 x.pg.lsn, .int .u32 x.pg.next, bufV x.cb x.l.length x.cap, .bool true, .bool x.used] :: bufA 120 3 x.cb x.l.length x.cap (x.l.map rowO).flatten :: all (x.l.map datA) :: (blk l 138 (lgV d W (lfQ x L D).2.1) :: W.sA :: startsA W (lfQ x L D).2.1 :: blk d 98 (dkV md (lfQ x L D).2.2) :: keptA md (lfQ x L D).2.2 :: cacheA md (lfQ x L D).2.2 :: F))
    (fun _ => True) (fun KJ hJ => ?_) ?_
   ·(repeat' first | refine X.rq ?_ | refine X.rc ?_ ?_ <;> intro hc <;> try omega)
    refine K.s_pure (K.p_loadM (vs := cP x.pg (bufV x.cb x.l.length x.cap)) (Fx.agg rfl) rfl (K.cels_own (pre := [.int .u32 x.n]) (cs := cP x.pg (bufV x.cb x.l.length x.cap)) (post := [.bool true, .bool x.used]) 2 rfl rfl) (Fx.sz rfl) rfl) rfl ?_
    refine K.l_callV (Fx.cal rfl) rfl hze (K.pp [3, 3] rfl) rfl rfl ?_
    simp only [pgA, List.cons_append, List.nil_append]
    simp only [Go.K.nmz]
    cases hz : zeroQ x.pg with
    | true =>
     have hb : pgB x.pg = zs := if_pos hz
     rw [hb] at hJ
     (repeat' first | refine X.rq ?_ | refine X.rc ?_ ?_ <;> intro hc <;> try omega)
     all_goals try (exfalso; simp_all; done)
     refine K.AT.perm (K.pp [2, 2, 2, 0, 0] rfl) ?_
     refine K.a_join hJ (some Bz, 512) trivial (by repeat (first | exact K.Sub.nil _ | refine K.Sub.cons rfl ?_)) rfl rfl
    | false =>
     have hm : mayQ x.pg = true := by
      rcases hx.may with h | h
      ·exact h
      ·rw [hz] at h; cases h
     have hb : pgB x.pg = encB x.pg := if_neg (by rw [hz]; decide)
     rw [hb] at hJ
     have he : encQ x.pg = (encB x.pg, 0) := if_pos hm
     have hel := encB_len hm
     rw [he, hlen] at hen
     dsimp only at hen
     rw [hel] at hen
     (repeat' first | refine X.rq ?_ | refine X.rc ?_ ?_ <;> intro hc <;> try omega)
     all_goals try (exfalso; simp_all; done)
     refine K.s_pure (K.p_loadM (vs := cP x.pg (bufV x.cb x.l.length x.cap)) (Fx.agg rfl) rfl (K.cels_own (pre := [.int .u32 x.n]) (cs := cP x.pg (bufV x.cb x.l.length x.cap)) (post := [.bool true, .bool x.used]) 4 rfl rfl) (Fx.sz rfl) rfl) rfl ?_
     refine K.l_call (Fx.cal rfl) rfl (hen h) (K.pp [0, 0] rfl) rfl ?_
     rintro u h' H' - ⟨e, H2, rfl, a, cap, rfl, rfl⟩
     obtain rfl := e.symm
     simp only [pgA, List.cons_append, List.nil_append]
     simp only [Go.K.nmz]
     (repeat' first | refine X.rq ?_ | refine X.rc ?_ ?_ <;> intro hc <;> try omega)
     all_goals try (exfalso; simp_all; done)
     refine K.AT.sel [3] rfl ?_
     simp only [Go.K.nmz]
     refine K.AT.perm (K.pp [2, 2, 2, 0, 0] rfl) ?_
     refine K.a_join hJ (a, cap) trivial (by repeat (first | exact K.Sub.nil _ | refine K.Sub.cons rfl ?_)) rfl rfl
   ·rintro ⟨a, cap⟩ -
    have hpl := pgB_len hx.may
    refine X.a ?_
    rw [← hpl]
    refine K.WC.freezeBuf (fun h2 le2 hb2 => ?_)
    rw [hpl] at hb2 ⊢
    have hqt := QAt h2 q d l W (lfQ x L D).2.1 M P x.n (by rw [s1]; exact hmn) hxn
    rw [s1] at hqt
    have hw := hwr h2 md _ hb2
    unfold lgA poB poV at hqt
    unfold dkA at hw
    simp only [Go.K.cna] at hqt hw
    (repeat' first | refine X.rq ?_ | refine X.rc ?_ ?_ <;> intro hc <;> try omega)
    refine X.drawN ([blk q 55 [dv d, pv l, .int .i64 P.most, bufV M.fa P.frs.length M.fk, .map (some M.wm), .map (some M.dm), .int .i64 P.hand],blk x.b 105 [.int .u32 x.n, .int .i64 x.pg.kind, .int .u64 x.pg.lsn, .int .u32 x.pg.next, bufV x.cb x.l.length x.cap, .bool true, .bool x.used]]) [] (.pu 0 (.pu 1 (.pu 2 (.pu 4 (.pu 5 (.pu 6 (.pu 7 (.pu 10 (.st 3 (.st 8 (.on 9 (.on 11 (.pu 12 .nil))))))))))))) ?_
    refine X.u_mv ?_
    refine X.u_nc ?_
    refine X.u_fa ?_
    refine X.u_mv ?_
    refine X.u_mv ?_
    refine X.u_nc ?_
    refine X.u_fa ?_
    refine X.u_mv ?_
    refine X.s_ld ?_
    refine X.s_ld ?_
    refine K.d_on rfl (fun KK hKK => ?_)
    refine K.l_callV (Fx.cal rfl) rfl hqt (K.pp [0, 3, 3, 3] rfl) rfl rfl ?_
    refine K.l_nil ?_
    refine X.onE hKK ?_
    refine K.d_on rfl (fun KK hKK => ?_)
    refine K.l_call (Fx.cal rfl) rfl hw (K.pp [7, 7, 7] rfl) rfl ?_
    rintro u h3 H' le3 ⟨rfl, ac, cp, c2, rfl⟩
    have le23 := le2.trans le3
    refine K.l_nil ?_
    refine X.onE hKK ?_
    refine X.u_sg ?_
    refine K.d_nil ?_
    simp only [Go.K.cna]
    simp only [Go.K.nmz]
    by_cases hwe : (writeQ (lfQ x L D).2.2 ((L.m.n + x.n : Nat) : Int) (pgB x.pg)).1 = 0
    ·rw [if_neg (fun h => h hwe), hwe]
     (repeat' first | refine X.rq ?_ | refine X.rc ?_ ?_ <;> intro hc <;> try omega)
     all_goals try (exfalso; omega)
     refine X.sto ?_
     simp only [Go.K.nmz]
     (repeat' first | refine X.rq ?_ | refine X.rc ?_ ?_ <;> intro hc <;> try omega)
     refine K.AT.perm (K.pp [3, 6, 6, 6, 3, 3, 3, 0, 0, 0] rfl) ?_
     exact K.dn (vs := [.int .i64 0]) rfl le23 (H' := [_, _, _, _, _, _, _, _, _, _]) rfl ⟨rfl, _, fun h => absurd h hf, rfl⟩
    ·rw [if_pos hwe]
     (repeat' first | refine X.rq ?_ | refine X.rc ?_ ?_ <;> intro hc <;> try omega)
     all_goals try (exfalso; omega)
     refine K.AT.perm (K.pp [3, 6, 6, 6, 3, 3, 3, 0, 0, 0] rfl) ?_
     exact K.dn (vs := [.int .i64 _]) rfl le23 (H' := [_, _, _, _, _, _, _, _, _, _]) rfl ⟨rfl, _, fun h => absurd h hf, by unfold wrA frL frV; rw [hf1]; rfl⟩
theorem QWrite (h : Base) (q d l : Nat) (W : LM) (L : Lg) (MD : DM) (D : Dk) (M : PM) (P : Po) (x : Fr) (ho : LgOk L) (hs : StrOk h W L.stream) (hk : DkOk D) (hr : D.cache.length + 30000 ≤ roomMax) (hx : FrOk x) :
  Tr Tryz.prog 51 [pv q, pv x.b] h (wrA q d l W L MD D M P x) (fun u h' H' => h' = h ∧ WrPost h q d l W MD M P x (wrQ x L D) u H') :=
 K.Tr.forget (QWrite0 h q d l W L MD D M P x ho hs hk hr hx)
end Go.Proofs.YtijbhgiigddjdaaGreat.Pl
