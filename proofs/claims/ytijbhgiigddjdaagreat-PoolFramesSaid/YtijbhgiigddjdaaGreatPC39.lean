/-
 A page is told. Conditions: each theorem's own.
-/
import Derived.Test.YtijbhgiigddjdaaGreatPC28
import Derived.Test.YtijbhgiigddjdaaGreatPC18
import Derived.Test.YtijbhgiigddjdaaGreatPC38
set_option linter.unusedVariables false
set_option linter.unusedSimpArgs false
set_option maxRecDepth 10000
set_option maxHeartbeats 16000000
namespace Go.Proofs.YtijbhgiigddjdaaGreat.Pl
open Go.K Pg Wl

section
variable {P : Program} {n : NN} {Q : Exit → Act → World → Prop} {E : Env} {h : Base} {Hs F : List Asrt} {ops : Array Oper}
theorem WL.allGet {L : List Oper} {X : Asrt} {i : Nat} (hi : Hs[i]? = some X) (hx : WL P n ops Q L E h (X :: all (Hs.eraseIdx i) :: F)) : WL P n ops Q L E h (all Hs :: F) := ⟨fun a w fa ok => hx.run a w fa (Ok.allGet hi ok)⟩
end
def GetV (r : Except Int Pag) (u : Value) (H1 : List Asrt) : Prop := match r with
 | .ok p => ∃ b cap l, p.cells = l.map OC.cell ∧ okO l ∧ u = .tuple #[.agg (cP p (bufV b l.length cap)).toArray, .int .i64 0] ∧ H1 = pgA b cap l
 | .error e => u = .tuple #[.agg (cP ⟨0, 0, 0, []⟩ (.slice none 0 0)).toArray, .int .i64 e] ∧ H1 = []
def readM (M : DM) : DM := { M with c1 := IntKind.i64.wrap (M.c1 + 1) }
def GetPost (q d l : Nat) (W : LM) (L : Lg) (MD : DM) (D : Dk) (M : PM) (P : Po) (n : Nat) (u : Value) (H' : List Asrt) : Prop :=
 ∃ r P' L' D' MD' M' H1, GetR L D P n r P' L' D' ∧ GetV r u H1 ∧ ((∃ x ∈ P.frs, x.n = n) → MD' = MD) ∧ ((∀ x ∈ P.frs, x.n ≠ n) → P.frs.length < P.most → ∀ p, r = .ok p → MD' = readM MD) ∧ H' = H1 ++ poA q d l W L' MD' D' M' P'
theorem own_borrow (h : Base) (p : Pag) (cb : Option Nat) (cap : Nat) (l : List OC) (hw : wfP p) (ho : okO l) (hc : p.cells = l.map OC.cell) (hs : smallX p.cells) :
  Tr Tryz.prog 35 [.agg (cP p (bufV cb l.length cap)).toArray] h (pgA cb cap l) (fun u h1 H1 => h1 = h ∧ ∃ b2 cap2 l2, p.cells = l2.map OC.cell ∧ okO l2 ∧ u = .agg (cP p (bufV b2 l2.length cap2)).toArray ∧ H1 = pgA cb cap l ++ pgA b2 cap2 l2) := by
 have hl : p.cells.length = l.length := by rw [hc, List.length_map]
 have := K.Tr.borrow (P := Tryz.prog) (h := h) (f := 35) (args := [.agg (cP p (bufV cb p.cells.length cap)).toArray]) (A := pgA cb cap l) (R := [])
  (Q := fun u H' => ∃ (b : Option Nat) (cap : Nat) (l : List OC), p.cells = l.map OC.cell ∧ okO l ∧ u = .agg (cP p (bufV b p.cells.length cap)).toArray ∧ H' = pgA b cap l) fun h' hle hsy => QOwn h' _ p (says_page hsy ho hw hc) hs
 rw [hl, List.append_nil] at this
 exact fun F w ok => Calls.mono (this F w ok) fun e w' ⟨u, he, h1, H1, hle, ⟨q1, H2, q2, b2, cap2, l2, g1, g2, g3, g4⟩, ok1⟩ => ⟨u, he, h1, H1, hle, ⟨q1, b2, cap2, l2, g1, g2, by
  have : l.length = l2.length := by rw [← hl, g1, List.length_map]
  rw [g3, this], by rw [q2, g4]⟩, ok1⟩
theorem ReadR.two {h' : Base} {r : Except Int Sec} {v : Value} (h : ReadR h' r v) : ∃ v1 e, v = .tuple #[v1, .int .i64 e] ∧ ((∃ b, r = .ok b ∧ e = 0 ∧ ∃ ao ca, v1 = .slice ao 512 ca ∧ BV h' (.slice ao 512 ca) b) ∨ r = .error e) := by
 cases r with
 | ok b => obtain ⟨ao, ca, rfl, hb⟩ := h; exact ⟨_, _, rfl, .inl ⟨b, rfl, rfl, ao, ca, rfl, hb⟩⟩
 | error e => exact ⟨_, _, h, .inr rfl⟩
theorem poA_set {q d l : Nat} {W : LM} {L : Lg} {MD : DM} {D : Dk} {M : PM} {P : Po} {i : Nat} {x y : Fr} (hi : P.frs[i]? = some x) (hb : y.b = x.b) :
  poA q d l W L MD D M (setP P i y) = poB q d l M P :: (lgA l d W L ++ dkA d MD D ++ [bufA 103 1 M.fa P.frs.length M.fk (P.frs.map frP), mapA M.wm .u32 P.wl P.wc, mapA M.dm .u32 P.dl P.dc, all ((P.frs.map frA).set i (frA y))]) := by
 have e1 : (setP P i y).frs.length = P.frs.length := by simp [setP]
 have e2 : (setP P i y).frs.map frP = P.frs.map frP := by
  show (P.frs.set i y).map frP = _
  rw [List.map_set]
  exact List.ext_getElem? fun j => by
   rw [List.getElem?_set]
   split
   ·rename_i hij
    subst hij
    rw [List.getElem?_map, hi, List.length_map, if_pos (List.getElem?_eq_some_iff.1 hi).1]
    show some (pv y.b) = some (pv x.b)
    rw [hb]
   ·rfl
 have e3 : (setP P i y).frs.map frA = (P.frs.map frA).set i (frA y) := by
  show (P.frs.set i y).map frA = _
  rw [List.map_set]
 unfold poA poR poB poV
 rw [e1, e2, e3]
 rfl
theorem QGet0 (h : Base) (q d l : Nat) (W : LM) (L : Lg) (MD : DM) (D : Dk) (M : PM) (P : Po) (n : Nat) (ho : LgOk L) (hs : StrOk h W L.stream) (hk : DkOk D) (hr : D.cache.length + 40000 ≤ roomMax) (hP : PoOk P) (hp : 0 ≤ pagesQ L D) (hn : n < 4294967296) :
  Tr Tryz.prog 10 [pv q, .int .u32 n] h (poA q d l W L MD D M P) (fun u h' H' => GetPost q d l W L MD D M P n u H') := by
 have hmn := ho.mas.n
 have hfw := hk.few
 have hha := QHas h q d l W L MD D M P n hfw hmn hp hn
 have hqt := QAt h q d l W L M P n hmn hn
 obtain ⟨rk1, rk2, rk3⟩ := read_ok hk (secP L n)
 have hrd := Read1 h d MD D (secP L n) hk (by unfold secP; omega) (by unfold secP; omega)
 refine K.en Tryz.func10 fun F => ?_
 unfold poA poB poV poR lgA dkA
 unfold poB poV lgA dkA at hha
 unfold poB poV lgA at hqt
 unfold dkA at hrd
 simp only [Go.K.cna] at hha hqt hrd ⊢
 (repeat' first | refine X.rq ?_ | refine X.rc ?_ ?_ <;> intro hc <;> try omega)
 refine K.l_alloc (Fx.zr rfl) rfl rfl (fun B4 => ?_)
 (repeat' first | refine X.rq ?_ | refine X.rc ?_ ?_ <;> intro hc <;> try omega)
 refine K.l_callV (Fx.cal rfl) rfl hha (K.pp [1, 1, 1, 1, 1, 1, 1] rfl) rfl rfl ?_
 simp only [Go.K.nmz]
 by_cases hin : hasQ L D n
 rotate_left
 ·rw [decide_eq_false (p := 1 ≤ n ∧ (n : Int) ≤ pagesQ L D) hin]
  (repeat' first | refine X.rq ?_ | refine X.rc ?_ ?_ <;> intro hc <;> try omega)
  refine X.stw ?_
  simp only [Go.K.nmz]
  (repeat' first | refine X.rq ?_ | refine X.rc ?_ ?_ <;> intro hc <;> try omega)
  refine K.AT.perm (K.pp [7] rfl) ?_
  simp only [Go.K.nmz]
  refine K.dc (.cell rfl (Fx.agg rfl) (Fx.sz rfl) (by first | exact K.cels_own (pre := []) (post := []) 0 rfl rfl | exact K.cels_own (pre := []) (post := []) 1 rfl rfl | exact K.cels_own (pre := []) (post := []) 2 rfl rfl | exact K.cels_own (pre := []) (post := []) 3 rfl rfl | exact K.cels_own (pre := []) (post := []) 4 rfl rfl | exact K.cels_own (pre := []) (post := []) 5 rfl rfl) (.tmp rfl .nil)) (by first | exact K.Base.le.refl _ | assumption) (vs := [.agg (cP ⟨0, 0, 0, []⟩ (.slice none 0 0)).toArray, .int .i64 2]) (D := [_]) (H' := [_, _, _, _, _, _, _, _, _, _, _]) rfl ⟨_, _, _, _, MD, M, [], .no hin, ⟨rfl, rfl⟩, fun _ => rfl, (fun _ _ p e => nomatch e), rfl⟩
 rw [decide_eq_true (p := 1 ≤ n ∧ (n : Int) ≤ pagesQ L D) hin]
 (repeat' first | refine X.rq ?_ | refine X.rc ?_ ?_ <;> intro hc <;> try omega)
 by_cases hex : ∃ x ∈ P.frs, x.n = n
 ·obtain ⟨x, hxm, hxn⟩ := hex
  obtain ⟨i, hi⟩ := List.mem_iff_getElem?.1 hxm
  have hlook := hP.wh x hxm
  have hxo := hP.fr x hxm
  rw [hxn] at hlook
  refine K.s_pure (K.p_lookup (v := pv x.b) 9 rfl rfl rfl rfl rfl rfl (by rw [hlook]; rfl)) rfl ?_
  (repeat' first | refine X.rq ?_ | refine X.rc ?_ ?_ <;> intro hc <;> try omega)
  refine K.WL.perm (K.pp [11] rfl) ?_
  simp only [Go.K.nmz]
  refine WL.allGet (X := frA x) (i := i) (by rw [List.getElem?_map, hi]; rfl) ?_
  refine K.WL.open ?_
  unfold frL frV
  simp only [Go.K.cna]
  refine X.sto ?_
  simp only [Go.K.nmz]
  (repeat' first | refine X.rq ?_ | refine X.rc ?_ ?_ <;> intro hc <;> try omega)
  refine K.s_pure (K.p_loadM (vs := cP x.pg (bufV x.cb x.l.length x.cap)) (Fx.agg rfl) rfl (K.cels_own (pre := [.int .u32 x.n]) (cs := cP x.pg (bufV x.cb x.l.length x.cap)) (post := [.bool x.fresh, .bool true]) 0 rfl rfl) (Fx.sz rfl) rfl) rfl ?_
  (repeat' first | refine X.rq ?_ | refine X.rc ?_ ?_ <;> intro hc <;> try omega)
  refine K.l_call (Fx.cal rfl) rfl (own_borrow h x.pg x.cb x.cap x.l hxo.wf hxo.ok hxo.cells (may_small hxo.may).1) (K.pp [1, 1] rfl) rfl ?_
  rintro u h' H' - ⟨e, b2, cap2, l2, g1, g2, rfl, rfl⟩
  obtain rfl := e.symm
  unfold pgA
  simp only [Go.K.cna]
  simp only [Go.K.nmz]
  (repeat' first | refine X.rq ?_ | refine X.rc ?_ ?_ <;> intro hc <;> try omega)
  refine K.WL.perm (K.pp [4, 0, 0, 2] rfl) ?_
  simp only [Go.K.nmz]
  refine K.WL.close (frL { x with used := true }) ?_
  refine WL.allRet (by rw [List.length_map]; exact (List.getElem?_eq_some_iff.1 hi).1) ?_
  refine X.stw ?_
  simp only [Go.K.nmz]
  (repeat' first | refine X.rq ?_ | refine X.rc ?_ ?_ <;> intro hc <;> try omega)
  refine K.AT.perm (K.pp [10, 1, 1, 1, 1, 1, 1, 1, 1, 1, 1, 1, 1, 0] rfl) ?_
  simp only [Go.K.nmz]
  refine K.dc (.cell rfl (Fx.agg rfl) (Fx.sz rfl) (by first | exact K.cels_own (pre := []) (post := []) 0 rfl rfl | exact K.cels_own (pre := []) (post := []) 1 rfl rfl | exact K.cels_own (pre := []) (post := []) 2 rfl rfl | exact K.cels_own (pre := []) (post := []) 3 rfl rfl | exact K.cels_own (pre := []) (post := []) 4 rfl rfl | exact K.cels_own (pre := []) (post := []) 5 rfl rfl) (.tmp rfl .nil)) (by first | exact K.Base.le.refl _ | assumption) (vs := [.agg (cP x.pg (bufV b2 l2.length cap2)).toArray, .int .i64 0]) (D := [_]) (H' := [_, _, _, _, _, _, _, _, _, _, _, _, _]) rfl ⟨_, _, _, _, MD, M, pgA b2 cap2 l2, .hit i x hin hi hxn, ⟨b2, cap2, l2, g1, g2, rfl, rfl⟩, fun _ => rfl, (fun hno => absurd hxn (hno x hxm)), by rw [poA_set (y := { x with used := true }) hi rfl]; rfl⟩
 ·have hno : ∀ x ∈ P.frs, x.n ≠ n := fun x hx e => hex ⟨x, hx, e⟩
  have hlook := hP.wn n hno
  refine K.s_pure (K.p_lookup (v := .pointer none) 9 rfl rfl rfl rfl rfl rfl (by rw [hlook]; rfl)) rfl ?_
  (repeat' first | refine X.rq ?_ | refine X.rc ?_ ?_ <;> intro hc <;> try omega)
  refine X.drawN ([blk q 55 [dv d, pv l, .int .i64 P.most, bufV M.fa P.frs.length M.fk, .map (some M.wm), .map (some M.dm), .int .i64 P.hand]]) [] (.pu 0 (.pu 1 (.pu 2 (.pu 4 (.pu 5 (.st 3 (.on 6 (.on 7 (.pu 8 (.pu 9 (.pu 10 (.pu 11 (.pu 12 .nil))))))))))))) ?_
  refine X.u_mv ?_
  refine X.u_nc ?_
  refine X.u_fa ?_
  refine X.u_mv ?_
  refine X.u_mv ?_
  refine X.s_ld ?_
  refine K.d_on rfl (fun KK hKK => ?_)
  refine K.l_callV (Fx.cal rfl) rfl hqt (K.pp [0, 0, 0, 0] rfl) rfl rfl ?_
  simp only [Go.K.cna]
  refine K.l_nil ?_
  refine X.onE hKK ?_
  refine K.d_on rfl (fun KK hKK => ?_)
  refine K.l_call (Fx.cal rfl) rfl hrd (K.pp [4, 4, 4] rfl) rfl ?_
  rintro u h1 H' le1 ⟨rfl, hR⟩
  obtain ⟨v1, e1, rfl, hQ⟩ := ReadR.two (h' := h1) (r := (Wl.readQ D (secP L n)).1) hR
  simp only [Go.K.cna]
  refine K.l_nil ?_
  refine X.onE hKK ?_
  refine X.u_mv ?_
  refine X.u_ex ?_
  refine X.u_ex ?_
  refine X.u_sg ?_
  refine X.u_sg ?_
  refine K.d_nil ?_
  simp only [Go.K.nmz]
  have hs1 := hs.le le1
  clear hR
  rcases hQ with ⟨b, hb, rfl, ao, ca, rfl, hbv⟩ | hb
  rotate_left
  ·have hne := read_ne (D := D) (D' := (Wl.readQ D (secP L n)).2) (at_ := secP L n) (e := e1) (by rw [← hb])
   rw [hb]
   (repeat' first | refine X.rq ?_ | refine X.rc ?_ ?_ <;> intro hc <;> try omega)
   all_goals try (exfalso; omega)
   refine X.stw ?_
   simp only [Go.K.nmz]
   (repeat' first | refine X.rq ?_ | refine X.rc ?_ ?_ <;> intro hc <;> try omega)
   refine K.AT.perm (K.pp [7, 3, 3, 3, 3, 0, 0, 0] rfl) ?_
   simp only [Go.K.nmz]
   refine K.dc (.cell rfl (Fx.agg rfl) (Fx.sz rfl) (by first | exact K.cels_own (pre := []) (post := []) 0 rfl rfl | exact K.cels_own (pre := []) (post := []) 1 rfl rfl | exact K.cels_own (pre := []) (post := []) 2 rfl rfl | exact K.cels_own (pre := []) (post := []) 3 rfl rfl | exact K.cels_own (pre := []) (post := []) 4 rfl rfl | exact K.cels_own (pre := []) (post := []) 5 rfl rfl) (.tmp rfl .nil)) (by first | exact K.Base.le.refl _ | assumption) (vs := [.agg (cP ⟨0, 0, 0, []⟩ (.slice none 0 0)).toArray, .int .i64 e1]) (D := [_]) (H' := [_, _, _, _, _, _, _, _, _, _, _]) rfl ⟨_, _, _, _, MD, M, [], .dark e1 hin hno hb, ⟨rfl, rfl⟩, fun _ => rfl, (fun _ _ p e => nomatch e), rfl⟩
  rw [hb]
  (repeat' first | refine X.rq ?_ | refine X.rc ?_ ?_ <;> intro hc <;> try omega)
  refine K.l_alloc (Fx.zr rfl) rfl rfl (fun B9 => ?_)
  (repeat' first | refine X.rs ?_ | refine X.rd ?_ ?_ <;> intro hc <;> try omega)
  apply K.c_seq
  refine K.c_join (β := Pag × Option Nat × Nat × List OC) (fun s => [(0, pv q), (1, .int .u32 n), (4, .pointer (some ⟨B4, 0, none⟩)), (9, .pointer (some ⟨B9, 0, none⟩))]) (fun _ => h1)
   (fun s => blk B9 41 (cP s.1 (bufV s.2.1 s.2.2.2.length s.2.2.1)) :: bufA 120 3 s.2.1 s.2.2.2.length s.2.2.1 (s.2.2.2.map rowO).flatten :: all (s.2.2.2.map datA) :: blk d 98 (dkV (readM MD) (Wl.readQ D (secP L n)).2) :: keptA (readM MD) (Wl.readQ D (secP L n)).2 :: cacheA (readM MD) (Wl.readQ D (secP L n)).2 :: blk q 55 [dv d, pv l, .int .i64 P.most, bufV M.fa P.frs.length M.fk, .map (some M.wm), .map (some M.dm), .int .i64 P.hand] :: blk l 138 (lgV d W L) :: W.sA :: startsA W L :: blk B4 41 (cP ⟨0, 0, 0, []⟩ (.slice none 0 0)) :: bufA 103 1 M.fa P.frs.length M.fk (P.frs.map frP) :: mapA M.wm .u32 P.wl P.wc :: mapA M.dm .u32 P.dl P.dc :: all (P.frs.map frA) :: F)
   (fun s => (pageQ b).2 = 0 ∧ s.1 = (pageQ b).1 ∧ okO s.2.2.2 ∧ s.1.cells = s.2.2.2.map OC.cell ∧ wfP s.1 ∧ (mayQ s.1 = true ∨ zeroQ s.1 = true)) (fun KJ hJ => ?_) ?_
  ·(repeat' first | refine X.rq ?_ | refine X.rc ?_ ?_ <;> intro hc <;> try omega)
   refine K.l_makeSlice (m := 512) (c := 512) (Fx.und rfl) (Fx.sz rfl) (Fx.zr rfl) rfl (Fx.byt rfl) rfl rfl (by omega) (by omega) (by unfold maxLen; omega) rfl (fun Bz => ?_)
   rw [show (Value.int .u8 0).cells = #[Value.int .u8 0] from rfl, zeros_made]
   refine K.WL.freezeBufN (l := zs) zs_len.symm (fun h2 le2 hz2 => ?_)
   have hbv2 := hbv.le le2
   have le12 := le1.trans le2
   (repeat' first | refine X.rq ?_ | refine X.rc ?_ ?_ <;> intro hc <;> try omega)
   refine K.l_callV (Fx.cal rfl) rfl (Equal h2 _ _ b zs hbv2 hz2) (K.pp [] rfl) rfl rfl ?_
   simp only [List.nil_append]
   by_cases hbz : b = zs
   ·rw [decide_eq_true hbz]
    have hpq : pageQ b = (⟨0, 0, 0, []⟩, 0) := if_pos hbz
    (repeat' first | refine X.rq ?_ | refine X.rc ?_ ?_ <;> intro hc <;> try omega)
    all_goals try (exfalso; simp_all; done)
    refine K.AT.nilBuf 120 3 ?_
    refine Pg.AT.allNil ?_
    refine K.AT.perm (K.pp [2, 1, 0] rfl) ?_
    simp only [Go.K.nmz]
    refine K.AT.forget le2 ?_
    refine K.a_join hJ (⟨0, 0, 0, []⟩, none, 0, []) ⟨by rw [hpq], by rw [hpq], (fun c hc => by cases hc), rfl, wfZ, .inr rfl⟩ (by repeat (first | exact K.Sub.nil _ | refine K.Sub.cons rfl ?_)) rfl rfl
   ·rw [decide_eq_false hbz]
    have hpq : pageQ b = decQ b := if_neg hbz
    have hbl := read_len hk (at_ := secP L n) hb
    (repeat' first | refine X.rq ?_ | refine X.rc ?_ ?_ <;> intro hc <;> try omega)
    all_goals try (exfalso; simp_all; done)
    refine K.l_call (Fx.cal rfl) rfl (K.Tr.forget (PDecode h2 _ b hbv2 (by omega))) (K.pp [] rfl) rfl ?_
    rintro u h' H' - ⟨e, c, cap, cl, f1, f2, f3, f4, rfl, rfl⟩
    obtain rfl := e.symm
    unfold pgA
    simp only [Go.K.cna]
    (repeat' first | refine X.rq ?_ | refine X.rc ?_ ?_ <;> intro hc <;> try omega)
    refine X.stw ?_
    simp only [Go.K.nmz]
    rcases dec_cases b with ⟨g1, g2, g3, g4⟩ | ⟨g1, g2⟩
    ·rw [g2]
     (repeat' first | refine X.rq ?_ | refine X.rc ?_ ?_ <;> intro hc <;> try omega)
     all_goals try (exfalso; omega)
     have hwf : wfP (decQ b).1 := by unfold decQ; rw [if_pos g1]; exact readQ_wf _
     refine K.AT.perm (K.pp [2, 0, 0] rfl) ?_
     simp only [Go.K.nmz]
     refine K.AT.forget le2 ?_
     refine K.a_join hJ ((decQ b).1, c, cap, cl) ⟨by rw [hpq]; exact g2, by rw [hpq], f2, f1, hwf, .inl g3⟩ (by repeat (first | exact K.Sub.nil _ | refine K.Sub.cons rfl ?_)) rfl rfl
    ·rw [g2]
     (repeat' first | refine X.rq ?_ | refine X.rc ?_ ?_ <;> intro hc <;> try omega)
     all_goals try (exfalso; omega)
     refine X.stw ?_
     simp only [Go.K.nmz]
     (repeat' first | refine X.rq ?_ | refine X.rc ?_ ?_ <;> intro hc <;> try omega)
     refine K.AT.sel [0, 0, 0] rfl ?_
     refine K.AT.perm (K.pp [7, 3, 3, 3, 3, 0, 0, 0] rfl) ?_
     simp only [Go.K.nmz]
     refine K.dc (.cell rfl (Fx.agg rfl) (Fx.sz rfl) (by first | exact K.cels_own (pre := []) (post := []) 0 rfl rfl | exact K.cels_own (pre := []) (post := []) 1 rfl rfl | exact K.cels_own (pre := []) (post := []) 2 rfl rfl | exact K.cels_own (pre := []) (post := []) 3 rfl rfl | exact K.cels_own (pre := []) (post := []) 4 rfl rfl | exact K.cels_own (pre := []) (post := []) 5 rfl rfl) (.tmp rfl .nil)) (by first | exact K.Base.le.refl _ | assumption) (vs := [.agg (cP ⟨0, 0, 0, []⟩ (.slice none 0 0)).toArray, .int .i64 5]) (D := [_]) (H' := [_, _, _, _, _, _, _, _, _, _, _]) rfl ⟨.error 5, P, L, _, readM MD, M, [], by have := GetR.bad (P := P) (L := L) b hin hno hb (by rw [hpq, g2]; decide); rw [hpq, g2] at this; exact this, ⟨rfl, rfl⟩, (fun h => absurd h hex), (fun _ _ p e => nomatch e), rfl⟩
  ·rintro ⟨p, cb, cap, cl⟩ ⟨j1, j2, j3, j4, j5, j6⟩
   dsimp only at j2 j3 j4 j5 j6 ⊢
   subst j2
   refine X.a ?_
   have hrm := QRoom h1 q d l W L (readM MD) (Wl.readQ D (secP L n)).2 M P n ho hs1 rk1 (by rw [rk2]; omega) hP hn
   unfold poA poB poV poR lgA dkA at hrm
   simp only [Go.K.cna] at hrm
   (repeat' first | refine X.rq ?_ | refine X.rc ?_ ?_ <;> intro hc <;> try omega)
   refine K.l_call (Fx.cal rfl) rfl hrm (K.pp [6, 6, 6, 6, 3, 3, 3, 4, 4, 4, 4] rfl) rfl ?_
   rintro u h' H' - ⟨e, hpost⟩
   obtain rfl := e.symm
   obtain ⟨r, e3, P', L', D', MD', M', hR, hmd, rfl, rfl⟩ := hpost.rel
   unfold poA poB poV poR lgA dkA
   simp only [Go.K.cna]
   simp only [Go.K.nmz]
   obtain ⟨z1, z2, z3, z4, z5, z6⟩ := hR.ok hP hn hno
   cases r with
   | none =>
    have hne := z5 rfl
    dsimp only
    (repeat' first | refine X.rq ?_ | refine X.rc ?_ ?_ <;> intro hc <;> try omega)
    all_goals try (exfalso; omega)
    refine K.WL.perm (K.pp [14] rfl) ?_
    simp only [Go.K.nmz]
    refine X.stw ?_
    simp only [Go.K.nmz]
    (repeat' first | refine X.rq ?_ | refine X.rc ?_ ?_ <;> intro hc <;> try omega)
    refine K.AT.sel [12, 12, 12] rfl ?_
    simp only [Go.K.nmz]
    refine K.dc (.cell rfl (Fx.agg rfl) (Fx.sz rfl) (by first | exact K.cels_own (pre := []) (post := []) 0 rfl rfl | exact K.cels_own (pre := []) (post := []) 1 rfl rfl | exact K.cels_own (pre := []) (post := []) 2 rfl rfl | exact K.cels_own (pre := []) (post := []) 3 rfl rfl | exact K.cels_own (pre := []) (post := []) 4 rfl rfl | exact K.cels_own (pre := []) (post := []) 5 rfl rfl) (.tmp rfl .nil)) (by first | exact K.Base.le.refl _ | assumption) (vs := [.agg (cP ⟨0, 0, 0, []⟩ (.slice none 0 0)).toArray, .int .i64 e3]) (D := [_]) (H' := [_, _, _, _, _, _, _, _, _, _, _]) rfl ⟨_, P', L', D', MD', M', [], .full b e3 P' L' D' hin hno hb j1 hR, ⟨rfl, rfl⟩, (fun h => absurd h hex), (fun _ _ p e => nomatch e), rfl⟩
   | some bi =>
    obtain ⟨fb, i⟩ := bi
    obtain ⟨he0, hfi⟩ := z6 fb i rfl
    subst he0
    dsimp only
    (repeat' first | refine X.rq ?_ | refine X.rc ?_ ?_ <;> intro hc <;> try omega)
    all_goals try (exfalso; omega)
    refine K.WL.perm (K.pp [10, 10, 10, 10, 10] rfl) ?_
    simp only [Go.K.nmz]
    refine WL.allGet (X := frA (emptyF fb n)) (i := i) (by rw [List.getElem?_map, hfi]; rfl) ?_
    refine K.WL.open ?_
    unfold frL frV emptyF
    simp only [Go.K.cna]
    (repeat' first | refine X.rq ?_ | refine X.rc ?_ ?_ <;> intro hc <;> try omega)
    refine K.l_storeN (pre := [.int .u32 n]) (cs := [.int .i64 0, .int .u64 (0 : Nat), .int .u32 (0 : Nat), bufV none 0 0]) (post := [.bool false, .bool false]) (us := cP (pageQ b).1 (bufV cb cl.length cap)) (Fx.sz rfl) rfl rfl rfl rfl rfl (fun o _ => by simp) ?_
    unfold cP
    simp only [Go.K.cna]
    (repeat' first | refine X.rq ?_ | refine X.rc ?_ ?_ <;> intro hc <;> try omega)
    refine X.sto ?_
    simp only [Go.K.nmz]
    (repeat' first | refine X.rq ?_ | refine X.rc ?_ ?_ <;> intro hc <;> try omega)
    refine K.l_call (Fx.cal rfl) rfl (own_borrow h1 (pageQ b).1 cb cap cl j5 j3 j4 (may_small j6).1) (K.pp [5, 5] rfl) rfl ?_
    rintro u h' H' - ⟨e, b2, cap2, l2, g1, g2, rfl, rfl⟩
    obtain rfl := e.symm
    unfold pgA
    simp only [Go.K.cna]
    simp only [Go.K.nmz]
    (repeat' first | refine X.rq ?_ | refine X.rc ?_ ?_ <;> intro hc <;> try omega)
    refine X.stw ?_
    simp only [Go.K.nmz]
    (repeat' first | refine X.rq ?_ | refine X.rc ?_ ?_ <;> intro hc <;> try omega)
    refine K.AT.sel [5, 5] rfl ?_
    simp only [Go.K.nmz]
    refine K.AT.sel [6] rfl ?_
    simp only [Go.K.nmz]
    refine K.AT.perm (K.pp [4, 0, 0, 2] rfl) ?_
    simp only [Go.K.nmz]
    have hlt := (List.getElem?_eq_some_iff.1 hfi).1
    refine K.AT.close (frL ⟨fb, n, (pageQ b).1, cb, cap, cl, false, true⟩) ?_
    refine AT.allRet (by rw [List.length_map]; exact hlt) ?_
    refine K.AT.perm (K.pp [3, 1, 1, 1, 1, 1, 1, 1, 1, 1, 1, 1, 1, 0] rfl) ?_
    simp only [Go.K.nmz]
    refine K.dc (.cell rfl (Fx.agg rfl) (Fx.sz rfl) (by first | exact K.cels_own (pre := []) (post := []) 0 rfl rfl | exact K.cels_own (pre := []) (post := []) 1 rfl rfl | exact K.cels_own (pre := []) (post := []) 2 rfl rfl | exact K.cels_own (pre := []) (post := []) 3 rfl rfl | exact K.cels_own (pre := []) (post := []) 4 rfl rfl | exact K.cels_own (pre := []) (post := []) 5 rfl rfl) (.tmp rfl .nil)) (by first | exact K.Base.le.refl _ | assumption) (vs := [.agg (cP (pageQ b).1 (bufV b2 l2.length cap2)).toArray, .int .i64 0]) (D := [_]) (H' := [_, _, _, _, _, _, _, _, _, _, _, _, _]) rfl ⟨_, _, L', D', MD', M', pgA b2 cap2 l2, .get b fb i P' L' D' ⟨fb, n, (pageQ b).1, cb, cap, cl, false, true⟩ hin hno hb j1 hR rfl rfl rfl rfl ⟨hn, j5, j3, j4, j6⟩, ⟨b2, cap2, l2, g1, g2, rfl, rfl⟩, (fun h => absurd h hex), (fun _ hlt _ _ => hmd hlt), by rw [poA_set (y := ⟨fb, n, (pageQ b).1, cb, cap, cl, false, true⟩) hfi rfl]; rfl⟩
theorem QGet (h : Base) (q d l : Nat) (W : LM) (L : Lg) (MD : DM) (D : Dk) (M : PM) (P : Po) (n : Nat) (ho : LgOk L) (hs : StrOk h W L.stream) (hk : DkOk D) (hr : D.cache.length + 40000 ≤ roomMax) (hP : PoOk P) (hp : 0 ≤ pagesQ L D) (hn : n < 4294967296) :
  Tr Tryz.prog 10 [pv q, .int .u32 n] h (poA q d l W L MD D M P) (fun u h' H' => h' = h ∧ GetPost q d l W L MD D M P n u H') :=
 K.Tr.forget (QGet0 h q d l W L MD D M P n ho hs hk hr hP hp hn)
end Go.Proofs.YtijbhgiigddjdaaGreat.Pl
