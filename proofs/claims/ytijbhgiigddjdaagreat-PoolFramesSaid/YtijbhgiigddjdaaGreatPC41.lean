/-
  Texts joined: Oh Oi. Conditions: each theorem's own.
-/
import Derived.Test.YtijbhgiigddjdaaGreatPC40
set_option linter.unusedVariables false
set_option linter.unusedSimpArgs false
set_option maxRecDepth 10000
set_option maxHeartbeats 16000000
section
namespace Go.K
set_option linter.unusedSectionVars false
section
variable {P : Program} {n : NN} {Q : Exit → Act → World → Prop} {E : Env} {h : Base} {H K : List Asrt} {ops : Array Oper} {rest : List Oper}
variable {t kt et ty : TypeId} {ps : String} {af : Array Edge} {b : Nat} {x : Operand} {dst : Option Nat} {g : Option (Nat × Bool)} {kk : IntKind} {m : List ME} {clock : Nat}
theorem p_lenM (j : Nat) (hj : K[j]? = some (mapA b kk m clock)) (hu : P.underlying t = some (.map kt et)) (hx : lkO E x = some (.map (some b))) : Pu P n E h K ⟨dst, .call ⟨.builtin .len, #[x], #[t]⟩, ty, ps, af, g⟩ (.int .i64 m.length) :=
 ⟨fun a w fa hs => by
  have hb : w.heap[b]? = some (mapO kk m clock) := hs.own _ (List.mem_of_getElem? hj)
  have hg : (getObj b).run P w = .ok (mapO kk m clock) w := by simp [getObj, Sem.run, hb, mapO]
  rw [show (#[x] : Array Operand) = [x].toArray from rfl, run_builtin (vals := [.map (some b)]) fa (by simp [evArgs, hx])]
  simp [builtin, Builtin.len_, run_underlying hu, goInt, hg, mapO]⟩
theorem l_clearM (hu : P.underlying t = some (.map kt et)) (hx : lkO E x = some (.map (some b))) (hn : WL P n ops Q rest E h (mapA b kk [] clock :: H)) : WL P n ops Q (⟨none, .call ⟨.builtin .clear, #[x], #[t]⟩, ty, ps, af, none⟩ :: rest) E h (mapA b kk m clock :: H) :=
 s_runE fun s w fa ok => by
  have hb : w.heap[b]? = some (mapO kk m clock) := ok.own_head
  have hg : (getObj b).run P w = .ok (mapO kk m clock) w := by simp [getObj, Sem.run, hb, mapO]
  have hset : ∀ o', (setObj b o').run P w = .ok () { w with heap := w.heap.setIfInBounds b o' } := fun o' => run_setObjO hb (fun c e f h => by cases h)
  refine ⟨.tuple #[], { w with heap := w.heap.setIfInBounds b (mapO kk [] clock) }, ?_, hn.run _ _ fa (ok.writeO rfl rfl rfl ?_ fun z hz => ?_)⟩
  ·rw [show (#[x] : Array Operand) = [x].toArray from rfl, run_builtin (vals := [.map (some b)]) fa (by simp [evArgs, hx])]
   simp [builtin, Builtin.clear_, run_underlying hu, hg, hset, mapO]
  ·show (w.heap.setIfInBounds b _)[b]? = _
   rw [Array.getElem?_setIfInBounds_self, if_pos (heap_ltO hb)]
  ·show (w.heap.setIfInBounds b _)[z]? = _
   rw [Array.getElem?_setIfInBounds_ne (fun e => hz e.symm)]
theorem l_clearM_at (i : Nat) (hi : H[i]? = some (mapA b kk m clock)) (hu : P.underlying t = some (.map kt et)) (hx : lkO E x = some (.map (some b))) (hn : WL P n ops Q rest E h (H.set i (mapA b kk [] clock))) : WL P n ops Q (⟨none, .call ⟨.builtin .clear, #[x], #[t]⟩, ty, ps, af, none⟩ :: rest) E h H :=
 WL.perm (at_perm hi) (l_clearM hu hx (WL.perm (set_perm hi) hn))
end
end Go.K
namespace Go.Proofs.YtijbhgiigddjdaaGreat.Pl
open Go.K Pg Wl

structure WsR where
 e : Int
 frs : List Fr
 L : Lg
 D : Dk
def wrsQ : List Fr → Lg → Dk → WsR
 | [], L, D => ⟨0, [], L, D⟩
 | x :: r, L, D => if (wrQ x L D).e ≠ 0 then ⟨(wrQ x L D).e, (wrQ x L D).x :: r, (wrQ x L D).L, (wrQ x L D).D⟩ else
  ⟨(wrsQ r (wrQ x L D).L (wrQ x L D).D).e, (wrQ x L D).x :: (wrsQ r (wrQ x L D).L (wrQ x L D).D).frs, (wrsQ r (wrQ x L D).L (wrQ x L D).D).L, (wrsQ r (wrQ x L D).L (wrQ x L D).D).D⟩
inductive AllR (L : Lg) (D : Dk) (P : Po) : Int → Po → Lg → Dk → Prop
 | none : P.dl = [] → AllR L D P 0 P L D
 | fail : (wrsQ P.frs L D).e ≠ 0 → AllR L D P (wrsQ P.frs L D).e { P with frs := (wrsQ P.frs L D).frs } (wrsQ P.frs L D).L (wrsQ P.frs L D).D
 | dark : (wrsQ P.frs L D).e = 0 → (syncQ (wrsQ P.frs L D).D).1 ≠ 0 → AllR L D P (syncQ (wrsQ P.frs L D).D).1 { P with frs := (wrsQ P.frs L D).frs } (wrsQ P.frs L D).L (syncQ (wrsQ P.frs L D).D).2
 | ok : (wrsQ P.frs L D).e = 0 → (syncQ (wrsQ P.frs L D).D).1 = 0 → AllR L D P 0 { P with frs := (wrsQ P.frs L D).frs, dl := [] } (wrsQ P.frs L D).L (syncQ (wrsQ P.frs L D).D).2
theorem wrs_len : ∀ (frs : List Fr) (L : Lg) (D : Dk), (wrsQ frs L D).frs.length = frs.length
 | [], L, D => rfl
 | x :: r, L, D => by
  rw [wrsQ]
  split
  ·rfl
  ·show _ + 1 = _ + 1
   rw [wrs_len r]
theorem wrs_P : ∀ (frs : List Fr) (L : Lg) (D : Dk), (wrsQ frs L D).frs.map frP = frs.map frP
 | [], L, D => rfl
 | x :: r, L, D => by
  obtain ⟨_, fr, hx⟩ := wr_x x L D
  rw [wrsQ]
  split
  ·show (_ :: _) = _
   rw [List.map_cons, hx]; rfl
  ·show (_ :: _) = _
   rw [List.map_cons, wrs_P r, hx]; rfl
theorem poA_frs {q d l : Nat} {W : LM} {L : Lg} {MD : DM} {D : Dk} {M : PM} {P : Po} {frs : List Fr} (dl : List ME) (h1 : frs.length = P.frs.length) (h2 : frs.map frP = P.frs.map frP) :
  poA q d l W L MD D M { P with frs := frs, dl := dl } = poB q d l M P :: (lgA l d W L ++ dkA d MD D ++ [bufA 103 1 M.fa P.frs.length M.fk (P.frs.map frP), mapA M.wm .u32 P.wl P.wc, mapA M.dm .u32 dl P.dc, all (frs.map frA)]) := by
 unfold poA poR poB poV
 dsimp only
 rw [h1, h2]
structure FaS where
 A : List Fr
 L : Lg
 D : Dk
 MD : DM
def AllPost (q d l : Nat) (W : LM) (L : Lg) (MD : DM) (D : Dk) (M : PM) (P : Po) (u : Value) (H' : List Asrt) : Prop :=
 ∃ e P' L' D' MD', AllR L D P e P' L' D' ∧ u = .int .i64 e ∧ (P.dl = [] → MD' = MD) ∧ H' = poA q d l W L' MD' D' M P'
theorem QFlush (h : Base) (q d l : Nat) (W : LM) (L : Lg) (MD : DM) (D : Dk) (M : PM) (P : Po) (ho : LgOk L) (hs : StrOk h W L.stream) (hk : DkOk D) (hr : D.cache.length + P.most * 9001 + 40000 ≤ roomMax) (hP : PoOk P) :
  Tr Tryz.prog 18 [pv q] h (poA q d l W L MD D M P) (fun u h' H' => h' = h ∧ AllPost q d l W L MD D M P u H') := by
 obtain ⟨hm1, hm2⟩ := hP.most
 have hlen := hP.len
 refine K.en Tryz.func18 fun F => ?_
 unfold poA poB poV poR lgA dkA
 simp only [Go.K.cna]
 (repeat' first | refine X.rq ?_ | refine X.rc ?_ ?_ <;> intro hc <;> try omega)
 refine K.s_pure (K.p_lenM 9 rfl rfl rfl) rfl ?_
 by_cases hdl : P.dl = []
 ·rw [hdl]
  (repeat' first | refine X.rq ?_ | refine X.rc ?_ ?_ <;> intro hc <;> try omega)
  all_goals try (exfalso; simp_all; done)
  exact K.dn (vs := [.int .i64 0]) rfl (K.Base.le.refl _) (H' := [_, _, _, _, _, _, _, _, _, _, _]) rfl ⟨rfl, _, P, L, D, MD, .none hdl, rfl, fun _ => rfl, by unfold poA poB poV poR; rw [hdl]; rfl⟩
 have hdl0 : P.dl.length ≠ 0 := fun h => hdl (List.eq_nil_of_length_eq_zero h)
 (repeat' first | refine X.rq ?_ | refine X.rc ?_ ?_ <;> intro hc <;> try omega)
 all_goals try (exfalso; omega)
 refine K.c_loop (σ := FaS) (fun s => [(0, pv q), (20, bufV M.fa P.frs.length M.fk), (21, .int .i64 P.frs.length), (22, .int .i64 s.A.length)]) (fun _ => h)
  (fun s => blk q 55 [dv d, pv l, .int .i64 P.most, bufV M.fa P.frs.length M.fk, .map (some M.wm), .map (some M.dm), .int .i64 P.hand] :: blk l 138 (lgV d W s.L) :: W.sA :: startsA W s.L :: blk d 98 (dkV s.MD s.D) :: keptA s.MD s.D :: cacheA s.MD s.D :: bufA 103 1 M.fa P.frs.length M.fk (P.frs.map frP) :: mapA M.wm .u32 P.wl P.wc :: mapA M.dm .u32 P.dl P.dc :: all ((s.A ++ P.frs.drop s.A.length).map frA) :: F)
  (fun s => s.A.length ≤ P.frs.length ∧ LgOk s.L ∧ StrOk h W s.L.stream ∧ DkOk s.D ∧ s.D.cache.length + (P.most - s.A.length) * 9001 + 40000 ≤ roomMax ∧ wrsQ P.frs L D = ⟨(wrsQ (P.frs.drop s.A.length) s.L s.D).e, s.A ++ (wrsQ (P.frs.drop s.A.length) s.L s.D).frs, (wrsQ (P.frs.drop s.A.length) s.L s.D).L, (wrsQ (P.frs.drop s.A.length) s.L s.D).D⟩)
  (fun s => P.frs.length - s.A.length) ⟨[], L, D, MD⟩ ⟨Nat.zero_le _, ho, hs, hk, by dsimp only; simp only [List.length_nil]; omega, rfl⟩ (by repeat (first | exact K.Sub.nil _ | refine K.Sub.cons rfl ?_)) rfl rfl ?_
 rintro ⟨A, L1, D1, MD1⟩ ⟨i1, i2, i3, i4, i5, i6⟩ KL hKL
 dsimp only at i1 i2 i3 i4 i5 i6 ⊢
 by_cases hjl : A.length < P.frs.length
 ·obtain ⟨x, hx⟩ : ∃ x, P.frs[A.length]? = some x := ⟨_, List.getElem?_eq_getElem hjl⟩
  have hxo := hP.fr x (List.mem_of_getElem? hx)
  obtain ⟨R, hR⟩ : ∃ R, R = P.frs.drop (A.length + 1) := ⟨_, rfl⟩
  have hdr : P.frs.drop A.length = x :: R := by
   rw [hR]
   have := List.drop_eq_getElem_cons hjl
   rw [this]
   congr 1
   have := List.getElem?_eq_getElem hjl
   rw [hx] at this
   cases this
   rfl
  rw [hdr] at i6 ⊢
  have hpx : (P.frs.map frP)[A.length]? = some (pv x.b) := by rw [List.getElem?_map, hx]; rfl
  refine K.WC.someBuf 7 rfl (by omega) (fun fb hfb => ?_)
  have hwx := QWrite h q d l W L1 MD1 D1 M P x i2 i3 i4 (by omega) hxo
  unfold wrA frL frV poB poV lgA dkA at hwx
  rw [hfb] at hwx ⊢
  simp only [Go.K.cna] at hwx
  (repeat' first | refine X.rq ?_ | refine X.rc ?_ ?_ <;> intro hc <;> try omega)
  all_goals try (exfalso; omega)
  refine K.s_pure (K.p_load (v := pv x.b) (Fx.agg rfl) rfl (cel_val 7 rfl (by simpa using hpx))) rfl ?_
  refine K.WL.perm (K.pp [10] rfl) ?_
  simp only [Go.K.nmz]
  refine WL.allGet (X := frA x) (i := A.length) (by rw [List.getElem?_map, List.getElem?_append_right (Nat.le_refl _), Nat.sub_self]; rfl) ?_
  refine K.WL.open ?_
  unfold frL frV
  simp only [Go.K.cna]
  (repeat' first | refine X.rq ?_ | refine X.rc ?_ ?_ <;> intro hc <;> try omega)
  refine K.l_call (Fx.cal rfl) rfl hwx (K.pp [4, 0, 0, 0, 1, 1, 1, 1, 1, 1] rfl) rfl ?_
  rintro u h' H' - ⟨e, rfl, MD', -, rfl⟩
  obtain rfl := e.symm
  have hset : ∀ z : Fr, ((A ++ x :: R).map frA).set A.length (frA z) = ((A ++ z :: R).map frA) := fun z => by
   rw [List.map_append, List.map_append, List.set_append_right _ _ (by rw [List.length_map]; exact Nat.le_refl _), List.length_map, Nat.sub_self]
   rfl
  obtain ⟨w1, w2, w3, w4⟩ := wr_ok (x := x) i2 i4 (by omega)
  obtain ⟨s1, s2, s3⟩ := flushed_same w4
  obtain ⟨_, fr, hwx⟩ := wr_x x L1 D1
  rw [wrsQ] at i6
  unfold wrA poB poV lgA dkA frL
  rw [hfb]
  simp only [Go.K.cna]
  simp only [Go.K.nmz]
  by_cases he : (wrQ x L1 D1).e = 0
  ·rw [if_neg (fun h => h he)] at i6
   rw [he]
   (repeat' first | refine X.rq ?_ | refine X.rc ?_ ?_ <;> intro hc <;> try omega)
   all_goals try (exfalso; omega)
   refine K.AT.perm (K.pp [1, 1, 1, 7] rfl) ?_
   simp only [Go.K.nmz]
   refine K.AT.close (frL (wrQ x L1 D1).x) ?_
   refine AT.allRet (by rw [List.length_map, List.length_append, List.length_cons]; omega) ?_
   rw [show ((A ++ x :: R).map frA).set A.length (all (frL (wrQ x L1 D1).x)) = (A ++ (wrQ x L1 D1).x :: R).map frA from hset _]
   refine K.AT.perm (K.pp [1, 1, 1, 1, 1, 1, 1, 1, 1, 1, 0] rfl) ?_
   have hal : (A ++ [(wrQ x L1 D1).x]).length = A.length + 1 := by simp
   refine K.a_round hKL ⟨A ++ [(wrQ x L1 D1).x], (wrQ x L1 D1).L, (wrQ x L1 D1).D, MD'⟩ ⟨by dsimp only; omega, LgOk.flushed i2 w4, by dsimp only; rw [s2]; exact i3, w1, by dsimp only; rw [hal]; omega, ?_⟩ ?_ rfl ?_ (by dsimp only; omega)
   ·dsimp only at i6 ⊢
    rw [hal, ← hR, i6, List.append_assoc]
    rfl
   ·dsimp only
    rw [hal, Int.natCast_add, hfb]
    exact (by repeat (first | exact K.Sub.nil _ | refine K.Sub.cons rfl ?_))
   ·dsimp only
    rw [hal, ← hR, List.append_assoc, hfb]
    rfl
  ·rw [if_pos he] at i6
   (repeat' first | refine X.rq ?_ | refine X.rc ?_ ?_ <;> intro hc <;> try omega)
   all_goals try (exfalso; omega)
   refine K.AT.perm (K.pp [1, 1, 1, 7] rfl) ?_
   simp only [Go.K.nmz]
   refine K.AT.close (frL (wrQ x L1 D1).x) ?_
   refine AT.allRet (by rw [List.length_map, List.length_append, List.length_cons]; omega) ?_
   rw [show ((A ++ x :: R).map frA).set A.length (all (frL (wrQ x L1 D1).x)) = (A ++ (wrQ x L1 D1).x :: R).map frA from hset _]
   refine K.AT.perm (K.pp [1, 1, 1, 1, 1, 1, 1, 1, 1, 1, 0] rfl) ?_
   have hres := AllR.fail (L := L) (D := D) (P := P) (by rw [i6]; exact he)
   have hpo := poA_frs (q := q) (d := d) (l := l) (W := W) (L := (wrsQ P.frs L D).L) (MD := MD') (D := (wrsQ P.frs L D).D) (M := M) (P := P) P.dl (wrs_len P.frs L D) (wrs_P P.frs L D)
   exact K.dn (vs := [.int .i64 (wrQ x L1 D1).e]) rfl (K.Base.le.refl _) (H' := [_, _, _, _, _, _, _, _, _, _, _]) rfl ⟨rfl, _, _, _, _, MD', hres, by rw [i6]; rfl, fun h => absurd h hdl, by rw [show ({ P with frs := (wrsQ P.frs L D).frs } : Po) = { P with frs := (wrsQ P.frs L D).frs, dl := P.dl } from rfl, hpo, i6]; unfold poB poV; rw [hfb]; rfl⟩
 ·obtain he : A.length = P.frs.length := by omega
  rw [he, List.drop_length] at i6 ⊢
  have hw0 : wrsQ P.frs L D = ⟨0, A, L1, D1⟩ := by rw [i6]; show WsR.mk 0 (A ++ []) L1 D1 = _; rw [List.append_nil]
  rw [List.append_nil]
  have hsy := K.Tr.forget (Sync h d MD1 D1 i4)
  unfold dkA at hsy
  have hpo := fun L' MD' D' dl => poA_frs (q := q) (d := d) (l := l) (W := W) (L := L') (MD := MD') (D := D') (M := M) (P := P) (frs := A) dl he (by have := wrs_P P.frs L D; rw [hw0] at this; exact this)
  (repeat' first | refine X.rq ?_ | refine X.rc ?_ ?_ <;> intro hc <;> try omega)
  all_goals try (exfalso; omega)
  refine K.l_call (Fx.cal rfl) rfl hsy (K.pp [4, 4, 4] rfl) rfl ?_
  rintro u h' H' - ⟨e, rfl, c, rfl⟩
  obtain rfl := e.symm
  simp only [Go.K.cna]
  simp only [Go.K.nmz]
  by_cases hy : (syncQ D1).1 = 0
  ·rw [hy]
   (repeat' first | refine X.rq ?_ | refine X.rc ?_ ?_ <;> intro hc <;> try omega)
   all_goals try (exfalso; omega)
   refine K.l_clearM_at 9 rfl rfl rfl ?_
   simp only [Go.K.nmz]
   (repeat' first | refine X.rq ?_ | refine X.rc ?_ ?_ <;> intro hc <;> try omega)
   refine K.AT.perm (K.pp [3, 3, 3, 3, 0, 0, 0] rfl) ?_
   have hres := AllR.ok (L := L) (D := D) (P := P) (by rw [hw0]) (by rw [hw0]; exact hy)
   rw [hw0] at hres
   exact K.dn (vs := [.int .i64 0]) rfl (K.Base.le.refl _) (H' := [_, _, _, _, _, _, _, _, _, _, _]) rfl ⟨rfl, _, _, _, _, { MD1 with c3 := c }, hres, rfl, fun h => absurd h hdl, by rw [hpo]; rfl⟩
  ·(repeat' first | refine X.rq ?_ | refine X.rc ?_ ?_ <;> intro hc <;> try omega)
   all_goals try (exfalso; omega)
   refine K.AT.perm (K.pp [3, 3, 3, 3, 0, 0, 0] rfl) ?_
   have hres := AllR.dark (L := L) (D := D) (P := P) (by rw [hw0]) (by rw [hw0]; exact hy)
   rw [hw0] at hres
   exact K.dn (vs := [.int .i64 (syncQ D1).1]) rfl (K.Base.le.refl _) (H' := [_, _, _, _, _, _, _, _, _, _, _]) rfl ⟨rfl, _, _, _, _, { MD1 with c3 := c }, hres, rfl, fun h => absurd h hdl, by rw [show ({ P with frs := A } : Po) = { P with frs := A, dl := P.dl } from rfl, hpo]; rfl⟩
end Go.Proofs.YtijbhgiigddjdaaGreat.Pl
end

section
namespace Go.K
set_option linter.unusedSectionVars false
section
variable {P : Program} {n : NN} {Q : Exit → Act → World → Prop} {E : Env} {h : Base} {H K : List Asrt} {ops : Array Oper} {rest : List Oper}
variable {t kt et ty : TypeId} {ps : String} {af : Array Edge} {d r : Nat} {x : Operand}
end
end Go.K
namespace Go.Proofs.YtijbhgiigddjdaaGreat.Pl
open Go.K Pg Wl

theorem BLen64 (h : Base) (m : Nat) (hm : m ≤ 1) : TrV Tryz.prog 125 [.int .u64 m] h [] (.int .i64 m) [] := by
 refine K.en Tryz.func125 fun F => ?_
 simp only [List.nil_append]
 (repeat' first | refine X.rq ?_ | refine X.rc ?_ ?_ <;> intro hc <;> try omega)
 have : m = 0 ∨ m = 1 := by omega
 rcases this with rfl | rfl
 all_goals
  refine K.s_pure (K.p_indexT (Fx.und rfl) rfl rfl (by decide) rfl) rfl ?_
  (repeat' first | refine X.rq ?_ | refine X.rc ?_ ?_ <;> intro hc <;> try omega)
  refine K.dl rfl (H' := []) rfl ⟨rfl, rfl, rfl⟩
theorem BLen (h : Base) (m : Nat) (hm : m ≤ 1) : TrV Tryz.prog 89 [.int .u64 m] h [] (.int .i64 m) [] := by
 refine K.en Tryz.func89 fun F => ?_
 simp only [List.nil_append]
 (repeat' first | refine X.rq ?_ | refine X.rc ?_ ?_ <;> intro hc <;> try omega)
 refine K.l_callV (Fx.cal rfl) rfl (BLen64 h m hm) (K.pp [] rfl) rfl rfl ?_
 simp only [List.nil_append]
 (repeat' first | refine X.rq ?_ | refine X.rc ?_ ?_ <;> intro hc <;> try omega)
 refine K.dl rfl (H' := []) rfl ⟨rfl, rfl, rfl⟩
theorem InsS (h : Base) (ao : Option Addr) (m ca : Nat) (fv : Value) (hm : m ≤ 1) : TrV Tryz.prog 116 [.slice ao m ca, .int .i64 0, .int .i64 m, fv] h [] (.tuple #[]) [] := by
 refine K.en Tryz.func116 fun F => ?_
 simp only [List.nil_append]
 (repeat' first | refine X.rq ?_ | refine X.rc ?_ ?_ <;> intro hc <;> try omega)
 refine K.c_loop (σ := Unit) (fun s => [(2, .int .i64 m), (8, .int .i64 1)]) (fun _ => h) (fun s => F) (fun s => True) (fun s => 0) () trivial (by repeat (first | exact K.Sub.nil _ | refine K.Sub.cons rfl ?_)) rfl rfl ?_
 rintro s - KL hKL
 (repeat' first | refine X.rq ?_ | refine X.rc ?_ ?_ <;> intro hc <;> try omega)
 all_goals try (exfalso; omega)
 refine K.dl rfl (H' := []) rfl ⟨rfl, rfl, rfl⟩
theorem PdqS (h : Base) (ao : Option Addr) (m ca : Nat) (li : Int) (fv : Value) (hm : m ≤ 1) : TrV Tryz.prog 88 [.slice ao m ca, .int .i64 0, .int .i64 m, .int .i64 li, fv] h [] (.tuple #[]) [] := by
 refine K.en Tryz.func88 fun F => ?_
 simp only [List.nil_append]
 (repeat' first | refine X.rq ?_ | refine X.rc ?_ ?_ <;> intro hc <;> try omega)
 refine K.c_loop (σ := Unit) (fun s => [(0, .slice ao m ca), (1, .int .i64 0), (2, .int .i64 m), (4, fv)]) (fun _ => h) (fun s => F) (fun s => True) (fun s => 0) () trivial (by repeat (first | exact K.Sub.nil _ | refine K.Sub.cons rfl ?_)) rfl rfl ?_
 rintro s - KL hKL
 (repeat' first | refine X.rq ?_ | refine X.rc ?_ ?_ <;> intro hc <;> try omega)
 all_goals try (exfalso; omega)
 refine K.l_callV (Fx.cal rfl) rfl (InsS h ao m ca fv hm) (K.pp [] rfl) rfl rfl ?_
 simp only [List.nil_append]
 (repeat' first | refine X.rq ?_ | refine X.rc ?_ ?_ <;> intro hc <;> try omega)
 refine K.dl rfl (H' := []) rfl ⟨rfl, rfl, rfl⟩
theorem SortD (h : Base) (ao : Option Addr) (m ca : Nat) (fv : Value) (hm : m ≤ 1) : TrV Tryz.prog 48 [.slice ao m ca, fv] h [] (.tuple #[]) [] := by
 refine K.en Tryz.func48 fun F => ?_
 simp only [List.nil_append]
 (repeat' first | refine X.rq ?_ | refine X.rc ?_ ?_ <;> intro hc <;> try omega)
 refine K.l_callV (Fx.cal rfl) rfl (BLen h m hm) (K.pp [] rfl) rfl rfl ?_
 simp only [List.nil_append]
 (repeat' first | refine X.rq ?_ | refine X.rc ?_ ?_ <;> intro hc <;> try omega)
 refine K.l_callV (Fx.cal rfl) rfl (PdqS h ao m ca m fv hm) (K.pp [] rfl) rfl rfl ?_
 simp only [List.nil_append]
 (repeat' first | refine X.rq ?_ | refine X.rc ?_ ?_ <;> intro hc <;> try omega)
 refine K.dl rfl (H' := []) rfl ⟨rfl, rfl, rfl⟩
def OneD (m : List ME) : Prop := m = [] ∨ ∃ (k v c : Nat), m = [((k : Int), Wl.n64 v, c)]
def dirC (m : List ME) : List Value := m.flatMap fun e => [.int .u32 e.1, e.2.1]
theorem QDirty (h : Base) (q d l : Nat) (M : PM) (P : Po) (hm : MapOk P.dl P.dc) (h1 : OneD P.dl) :
  Tr Tryz.prog 17 [pv q] h [poB q d l M P, mapA M.dm .u32 P.dl P.dc] (fun u h' H' => h' = h ∧ ∃ a cap, u = bufV a P.dl.length cap ∧ H' = [poB q d l M P, mapA M.dm .u32 P.dl P.dc, bufA 94 2 a P.dl.length cap (dirC P.dl)]) := by
 have hlen : P.dl.length ≤ 1 := by rcases h1 with h | ⟨k, v, c, h⟩ <;> rw [h] <;> simp
 refine K.en Tryz.func17 fun F => ?_
 unfold poB poV
 simp only [Go.K.cna]
 (repeat' first | refine X.rq ?_ | refine X.rc ?_ ?_ <;> intro hc <;> try omega)
 refine K.l_range 1 rfl rfl rfl rfl (fun R => ?_)
 (repeat' first | refine X.rq ?_ | refine X.rc ?_ ?_ <;> intro hc <;> try omega)
 refine K.WC.nilBuf 94 2 ?_
 refine K.WC.perm (K.pp [1, 2] rfl) ?_
 simp only [Go.K.nmz]
 refine K.c_loop (σ := List ME × Option Nat × Nat) (fun s => [(3, bufV s.2.1 s.1.length s.2.2), (12, .pointer (some ⟨R, 0, none⟩))]) (fun _ => h)
  (fun s => iterA R M.dm P.dc (s.1.map (·.2.2)) P.dc :: mapA M.dm .u32 P.dl P.dc :: bufA 94 2 s.2.1 s.1.length s.2.2 (dirC s.1) :: blk q 55 [dv d, pv l, .int .i64 P.most, bufV M.fa P.frs.length M.fk, .map (some M.wm), .map (some M.dm), .int .i64 P.hand] :: F)
  (fun s => s.1 = [] ∨ s.1 = P.dl) (fun s => P.dl.length - s.1.length) ([], none, 0) (.inl rfl) (by repeat (first | exact K.Sub.nil _ | refine K.Sub.cons rfl ?_)) rfl rfl ?_
 rintro ⟨dn, a, cap⟩ hdn KL hKL
 dsimp only at hdn ⊢
 (repeat' first | refine X.rq ?_ | refine X.rc ?_ ?_ <;> intro hc <;> try omega)
 refine K.l_next hm rfl rfl (fun hall => ?_) (fun e he hns => ?_)
 ·have hd : dn = P.dl := by
   rcases hdn with rfl | h
   ·rcases h1 with h | ⟨k, v, c, h⟩
    ·exact h.symm
    ·exfalso
     have := hall ((k : Int), Wl.n64 v, c) (by rw [h]; simp)
     cases this
   ·exact h
  subst hd
  (repeat' first | refine X.rq ?_ | refine X.rc ?_ ?_ <;> intro hc <;> try omega)
  refine K.l_callV (Fx.cal rfl) rfl (SortD h _ P.dl.length cap _ hlen) (K.pp [] rfl) rfl rfl ?_
  simp only [List.nil_append]
  (repeat' first | refine X.rq ?_ | refine X.rc ?_ ?_ <;> intro hc <;> try omega)
  refine K.AT.drop ?_
  refine K.AT.perm (K.pp [2] rfl) ?_
  simp only [Go.K.nmz]
  refine K.dl rfl (H' := [_, _, _]) rfl ⟨rfl, a, cap, rfl, rfl⟩
 ·have hd : dn = [] := by
   rcases hdn with h | h
   ·exact h
   ·exfalso
    exact hns (by rw [h]; exact List.mem_map_of_mem he)
  subst hd
  rcases h1 with h0 | ⟨k, v, c, h0⟩
  ·rw [h0] at he; cases he
  have hee : e = ((k : Int), Wl.n64 v, c) := by rw [h0] at he; simpa using he
  subst hee
  (repeat' first | refine X.rq ?_ | refine X.rc ?_ ?_ <;> intro hc <;> try omega)
  refine K.s_pure (K.p_entry 0 1 rfl rfl hm he rfl) rfl ?_
  (repeat' first | refine X.rq ?_ | refine X.rc ?_ ?_ <;> intro hc <;> try omega)
  refine K.l_buildSlice (Fx.und rfl) (Fx.sz rfl) rfl (Fx.zr rfl) rfl rfl rfl (cs := [.int .u32 k, Wl.n64 v]) rfl rfl (fun B19 => ?_)
  refine K.l_append_at 3 rfl (Fx.und rfl) (Fx.und rfl) rfl (Fx.sz rfl) (Fx.zr rfl) rfl (Fx.byt rfl) rfl rfl (K.src_cells (K.cels_own (pre := []) (cs := [.int .u32 k, Wl.n64 v]) (post := []) 0 rfl rfl) rfl (by simp [oneCell, Wl.n64])) (by simp) (by simp) rfl (fun a6 cap6 => ?_)
  simp only [Go.K.nmz]
  (repeat' first | refine X.rq ?_ | refine X.rc ?_ ?_ <;> intro hc <;> try omega)
  refine K.AT.sel [0] rfl ?_
  refine K.a_round hKL ([((k : Int), Wl.n64 v, c)], a6, cap6) (.inr h0.symm) (by repeat (first | exact K.Sub.nil _ | refine K.Sub.cons rfl ?_)) rfl rfl (by dsimp only; rw [h0]; simp)
end Go.Proofs.YtijbhgiigddjdaaGreat.Pl
end
