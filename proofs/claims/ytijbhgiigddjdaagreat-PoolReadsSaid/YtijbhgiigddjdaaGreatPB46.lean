/-
  Texts joined: Ol Op. Conditions: each theorem's own.
-/
import Derived.Test.YtijbhgiigddjdaaGreatPB45
import Derived.Test.YtijbhgiigddjdaaGreatPB40
import Derived.Test.YtijbhgiigddjdaaGreatPB44
set_option linter.unusedVariables false
set_option linter.unusedSimpArgs false
section
namespace Go.Proofs.YtijbhgiigddjdaaGreat.Pl
open Go Go.K Go.Proofs Go.Proofs.YtijbhgiigddjdaaGreat Go.Proofs.YtijbhgiigddjdaaGreat.Pg Go.Proofs.YtijbhgiigddjdaaGreat.Wl Go.Proofs.YtijbhgiigddjdaaGreat.Rc
set_option maxRecDepth 10000

theorem pagC0 (h : Base) (p : Pag) (hp : p.cells = []) (hw : wfP p) (ao : Option Addr) (c : Nat) : PagC h (cP p (.slice ao 0 c)) p := ⟨hw, _, rfl, [], .inl ⟨_, _, rfl, rfl⟩, by rw [hp]; rfl, fun j c x hc => by cases hc⟩
def L1 : Lg := ⟨master0 16, [4, 0, 1, 1], [1], 1⟩
def aP : Pag := ⟨1, 1, 0, []⟩
theorem wf_aP : wfP aP := ⟨by decide, by decide, by decide, by decide⟩
theorem may_aP : mayQ aP = true := by decide
theorem pageX_err {e : Int} {u : Value} {H1 : List Asrt} (h : PageX (.error e) u H1) : ∃ b cap, u = .tuple #[.agg (cP ⟨0, 0, 0, []⟩ (bufV b 0 cap)).toArray, .int .i64 e] ∧ H1 = pgA b cap [] := by
 obtain ⟨p, e', b, cap, l, rfl, h1, h2, h3, rfl⟩ := h
 rcases h3 with ⟨h3, _⟩ | ⟨h3, rfl⟩
 ·cases h3
 ·cases h3
  have : l = [] := by
   have := congrArg List.length h1
   simp at this
   exact List.eq_nil_of_length_eq_zero this.symm
  subst this
  exact ⟨b, cap, rfl, rfl⟩
theorem pageX_ok {p : Pag} {u : Value} {H1 : List Asrt} (h : PageX (.ok p) u H1) : ∃ b cap l, u = .tuple #[.agg (cP p (bufV b l.length cap)).toArray, .int .i64 0] ∧ p.cells = l.map OC.cell ∧ okO l ∧ H1 = pgA b cap l := by
 obtain ⟨p', e', b, cap, l, rfl, h1, h2, h3, rfl⟩ := h
 rcases h3 with ⟨h3, rfl⟩ | ⟨h3, _⟩
 ·cases h3
  exact ⟨b, cap, l, rfl, h1, h2, rfl⟩
 ·cases h3
set_option maxHeartbeats 16000000 in
theorem QAlive (h : Base) : Tr Tryz.prog 7 [] h [] (fun u h' H' => u = .bool true ∧ H' = []) := by
 refine K.enter Tryz.func7 rfl (Nat.le_of_ble_eq_true rfl) (fun F => ?_)
 simp only [List.nil_append]
 (repeat' first | refine X.rq ?_ | refine X.rc ?_ ?_ <;> intro hc <;> try omega)
 refine K.l_call (Fx.cal rfl) rfl (BBeg h 3 8 (by omega) (by omega) (by omega) (by omega)) (K.pp [] rfl) rfl ?_
 rintro u h1 H' le1 ⟨s, d, l, q, bi, bf, bp, MD, D, A, rfl, ⟨hrun, hon, hln, hze⟩, hA, rfl⟩
 unfold begX stV
 simp only [List.cons_append, List.nil_append]
 refine K.WL.sel [2, 2, 2] rfl ?_
 simp only [Go.K.nmz]
 have o0 : LgOk L0 := hrun.lgOk
 have hmn : L0.m.n = 16 := rfl
 have hAp := BAppend hA o0 _ rA2 (recC_A2 h1) small_A2
 have a1 : appQ L0 rA2 = ((1, 0), L1) := by unfold appQ; rw [enc_A2]; rfl
 rw [a1] at hAp
 dsimp only at hAp
 have g1 := append_run hrun (r := rA2) (recC_A2 h1).wfX (by rw [enc_A2]) (by rw [enc_A2]; decide)
 rw [a1] at g1
 dsimp only at g1
 have o1 := g1.lgOk
 have hkk := g1.ok
 have hca := g1.cache
 have hpq : pagesQ L1 D = 3 := by unfold pagesQ; rw [hln]; rfl
 (repeat' first | refine X.rq ?_ | refine X.rc ?_ ?_ <;> intro hc <;> try omega)
 refine K.l_call (Fx.cal rfl) rfl hAp (K.pp [1] rfl) rfl ?_
 rintro u h' H' - ⟨e, rfl, A1, hA1, rfl⟩
 obtain rfl := e.symm
 simp only [List.cons_append, List.nil_append]
 simp only [Go.K.nmz]
 have hG4 := BGet hA1 4 o1 hkk (by rw [hca]; decide) (newPoOk (by omega) (by omega)) (by omega) (by omega)
 (repeat' first | refine X.rq ?_ | refine X.rc ?_ ?_ <;> intro hc <;> try omega)
 refine K.l_call (Fx.cal rfl) rfl hG4 (K.pp [0] rfl) rfl ?_
 rintro u h' H' - ⟨e, r, P', L', D', MD', A2, H1, hR, hV, -, -, hA2, rfl⟩
 obtain rfl := e.symm
 have hno4 : ¬ hasQ L1 D 4 := by unfold hasQ; rw [hpq]; omega
 cases hR with
 | hit i x h1 h2 h3 => exact absurd h1 hno4
 | dark e h1 h2 h3 => exact absurd h1 hno4
 | bad b h1 h2 h3 h4 => exact absurd h1 hno4
 | full b e P' L' D' h1 h2 h3 h4 h5 => exact absurd h1 hno4
 | get b f i P' L' D' y h1 h2 h3 h4 h5 h6 h7 h8 h9 h10 => exact absurd h1 hno4
 | no _ =>
 obtain ⟨b4, cap4, rfl, rfl⟩ := pageX_err hV
 unfold pgA
 simp only [List.cons_append, List.nil_append]
 simp only [Go.K.nmz]
 refine K.WL.sel [1, 1] rfl ?_
 simp only [Go.K.nmz]
 (repeat' first | refine X.rq ?_ | refine X.rc ?_ ?_ <;> intro hc <;> try omega)
 refine K.l_alloc (Fx.zr rfl) rfl rfl (fun B5 => ?_)
 refine X.stw ?_
 simp only [Go.K.nmz]
 refine K.WL.drop ?_
 (repeat' first | refine X.rq ?_ | refine X.rc ?_ ?_ <;> intro hc <;> try omega)
 have hin1 : hasQ L1 D 1 := by unfold hasQ; rw [hpq]; omega
 have hG1 := BGet hA2 1 o1 hkk (by rw [hca]; decide) (newPoOk (by omega) (by omega)) (by omega) (by omega)
 refine K.l_call (Fx.cal rfl) rfl hG1 (K.pp [0] rfl) rfl ?_
 rintro u h' H' - ⟨e, r, P1, L2, D2, MD2, A3, H1, hR1, hV, -, -, hA3, rfl⟩
 obtain rfl := e.symm
 obtain ⟨_, hdl1, hdc1, _, _⟩ := hR1.ok (newPoOk (by omega) (by omega)) o1 hkk (by rw [hca]; decide) (by omega)
 have hpo1 := (hR1.ok (newPoOk (by omega) (by omega)) o1 hkk (by rw [hca]; decide) (by omega)).1
 obtain ⟨rfl, eD, hms⟩ := get_miss hR1 hin1 (fun x hx => by cases hx) (by show 0 < 8; omega) hon
 obtain rfl := eD.symm
 have hv17 : V D (L1.m.n + 1) = zs := hze 17 (by omega) (by omega)
 rw [hv17, show pageQ zs = ((⟨0, 0, 0, []⟩ : Pag), 0) from if_pos rfl] at hms
 rcases hms with ⟨h0, _⟩ | ⟨_, rfl, y1, hP1, hy1, hy2, hy3, hy4⟩
 ·exact absurd rfl h0
 have hf1 : P1.frs = [y1] := by rw [hP1]; rfl
 have hmo1 : P1.most = 8 := by rw [hP1]; rfl
 have hd1 : P1.dl = [] := hdl1
 have hd2 : P1.dc = 0 := hdc1
 clear hP1 hdl1 hdc1
 obtain ⟨b5, cap5, l5, rfl, hl5, -, rfl⟩ := pageX_ok hV
 obtain rfl : l5 = [] := List.map_eq_nil_iff.1 hl5.symm
 unfold pgA
 simp only [List.cons_append, List.nil_append]
 simp only [Go.K.nmz]
 (repeat' first | refine X.rq ?_ | refine X.rc ?_ ?_ <;> intro hc <;> try omega)
 refine K.l_alloc (Fx.zr rfl) rfl rfl (fun B7 => ?_)
 refine X.stw ?_
 simp only [Go.K.nmz]
 (repeat' first | refine X.rq ?_ | refine X.rc ?_ ?_ <;> intro hc <;> try omega)
 have hPu := BPut hA3 1 _ aP (pagC0 h1 aP rfl wf_aP none 0) o1 hkk (by rw [hca]; decide) hpo1 (by rw [hpq]; omega) (by omega)
 refine K.l_call (Fx.cal rfl) rfl hPu (K.pp [1] rfl) rfl ?_
 rintro u h' H' - ⟨e, e2, P2, L3, D3, MD3, A4, hR2, rfl, hA4, rfl⟩
 obtain rfl := e.symm
 have hpo2 := (hR2.ok hpo1 o1 hkk (by rw [hca]; decide) (by omega)).1
 obtain ⟨rfl, rfl, eD, i, x, y2, hx1, hx2, hP2, hz1, hz2, hz3, hz4, hz5⟩ := put_hit hR2 hin1 (.inl may_aP) ⟨y1, by rw [hf1]; exact List.mem_singleton.2 rfl, hy1⟩
 obtain rfl := eD.symm
 have hi0 : i = 0 := by
  have := (List.getElem?_eq_some_iff.1 hx1).1
  rw [hf1] at this
  simp at this; exact this
 subst hi0
 have hdl2 : P2.dl = [(1, Wl.n64 1, 0)] := by
  rw [hP2]
  unfold putD
  have : (K.look (setP P1 0 y2).dl ((1 : Nat) : Int)) = none := by show K.look P1.dl _ = none; rw [hd1]; rfl
  rw [this, if_neg (by decide)]
  show putM P1.dl P1.dc _ _ = _
  rw [hd1, hd2]; rfl
 have hf2 : P2.frs = [y2] := by
  rw [hP2, (putD_frs _ _ _).1]
  show P1.frs.set 0 y2 = _
  rw [hf1]; rfl
 have hmo2 : P2.most = 8 := by
  rw [hP2, (putD_frs _ _ _).2.1]
  exact hmo1
 simp only [List.cons_append, List.nil_append]
 simp only [Go.K.nmz]
 (repeat' first | refine X.rq ?_ | refine X.rc ?_ ?_ <;> intro hc <;> try omega)
 have hDi := BDirty hA4 hpo2.dk (.inr ⟨1, 1, 0, hdl2⟩)
 refine K.l_call (Fx.cal rfl) rfl hDi (K.pp [0] rfl) rfl ?_
 rintro u h' H' - ⟨e, a6, cap6, rfl, rfl⟩
 obtain rfl := e.symm
 rw [hdl2, show dirC [(1, Wl.n64 1, 0)] = [.int .u32 1, .int .u64 1] from rfl]
 simp only [List.cons_append, List.nil_append, List.length_cons, List.length_nil]
 simp only [Go.K.nmz]
 (repeat' first | refine X.rq ?_ | refine X.rc ?_ ?_ <;> intro hc <;> try omega)
 have hDu := BDurable hA4
 rw [show Wl.n64 L1.durable = .int .u64 1 from rfl] at hDu
 refine K.l_callV (Fx.cal rfl) rfl hDu (K.pp [0] rfl) rfl rfl ?_
 simp only [List.cons_append, List.nil_append]
 simp only [Go.K.nmz]
 (repeat' first | refine X.rq ?_ | refine X.rc ?_ ?_ <;> intro hc <;> try omega)
 have hy2 : FrOk y2 := hz5
 have hpr := g1.toP
 obtain ⟨we, wn⟩ := wr_on (x := y2) hpr hon (by rw [hln, hz2]; show 16 + 1 < 17 + 3; omega) (by rw [hca]; decide) hy2
 have hFl := BFlushAll hA4 o1 hkk (by rw [hca, hmo2]; decide) hpo2
 refine K.l_call (Fx.cal rfl) rfl hFl (K.pp [0] rfl) rfl ?_
 rintro u h' H' - ⟨e, e5, P5, L5, D5, MD5, A5, hR5, rfl, -, hA5, rfl⟩
 obtain rfl := e.symm
 have hws : wrsQ P2.frs L1 D = ⟨0, [(wrQ y2 L1 D).x], (wrQ y2 L1 D).L, (wrQ y2 L1 D).D⟩ := by
  rw [hf2]
  unfold wrsQ
  rw [if_neg (fun h => h we)]
  rfl
 have hsy := ((sync_sem (wrQ y2 L1 D).D).1.on wn).1
 have hL5 : (wrQ y2 L1 D).L = { L1 with durable := endQ L1 } := by
  have hlf : lfQ y2 L1 D = flushQ L1 D := by unfold lfQ; rw [hz3]; exact if_pos (by decide)
  obtain ⟨f1, _, _, _, f5, f6⟩ := flush_runP hpr (by rw [hca]; decide)
  have f0 := (f1.on hon).1
  have hL : (lfQ y2 L1 D).2.1 = { L1 with durable := endQ L1 } := by
   rw [hlf]
   exact (flush_ok o1 hkk (by rw [hca]; decide)).2.2.2.2 f0
  have hl0 : (lfQ y2 L1 D).1 = 0 := by rw [hlf]; exact f0
  unfold wrQ
  rw [if_neg (by rw [hz4]; decide), if_neg (fun h => h hl0)]
  split
  ·exact hL
  ·exact hL
 have hR5' : e5 = 0 ∧ L5 = { L1 with durable := endQ L1 } ∧ P5.dl = [] ∧ P5.dc = P2.dc := by
  cases hR5 with
  | none h => rw [hdl2] at h; cases h
  | fail h => rw [hws] at h; exact absurd rfl h
  | dark h h' => rw [hws] at h'; exact absurd hsy h'
  | ok h h' => exact ⟨rfl, by rw [hws]; exact hL5, rfl, rfl⟩
 obtain ⟨rfl, rfl, hdl5, hdc5⟩ := hR5'
 have hA5 := hA5 rfl
 simp only [List.cons_append, List.nil_append]
 simp only [Go.K.nmz]
 (repeat' first | refine X.rq ?_ | refine X.rc ?_ ?_ <;> intro hc <;> try omega)
 refine K.WC.sel [3, 3] rfl ?_
 simp only [Go.K.nmz]
 have hze7 := LZero h1 _ (⟨0, 0, 0, []⟩ : Pag) (pagC0 h1 ⟨0, 0, 0, []⟩ rfl wfZ (b5.map fun b => ⟨b, 0, none⟩) cap5)
 have hDu5 := BDurable hA5
 have hEn5 := BEnd hA5 (Pl.LgOk.flushed o1 (.inr rfl))
 have hDi5 := BDirty hA5 (by rw [hdl5]; exact ⟨by simp, by simp, fun e h => by cases h⟩) (.inl hdl5)
 refine K.WC.someBuf 1 rfl (by omega) (fun a7 ha7 => ?_)
 subst ha7
 rw [show Wl.n64 ({ L1 with durable := endQ L1 } : Lg).durable = .int .u64 5 from rfl] at hDu5
 rw [show Wl.n64 (endQ ({ L1 with durable := endQ L1 } : Lg)) = .int .u64 5 from rfl] at hEn5
 refine X.draw ([bufA 94 2 (some a7) (0 + 1) cap6 [.int .u32 1, .int .u64 1], blk B7 41 (cP ⟨0, 0, 0, []⟩ (bufV b5 0 cap5)), blk s 35 (stV d l q bi bf bp 4)]) [] (.pu 0 (.pu 1 (.pu 2 (.pu 3 (.pu 4 (.pu 5 (.pu 6 (.pu 7 (.pu 8 (.pu 9 (.pu 10 (.pu 11 (.pu 12 (.pu 13 (.pu 14 (.st 15 (.on 16 (.pu 17 (.pu 18 (.pu 19 (.pu 20 (.pu 21 (.pu 22 (.pu 23 (.pu 24 (.pu 25 (.pu 26 (.pu 27 (.pu 28 (.pu 29 (.pu 31 (.st 30 (.pu 32 (.pu 33 (.pu 34 (.pu 35 (.pu 36 (.pu 37 (.pu 38 (.pu 39 (.pu 40 (.pu 41 (.pu 42 (.pu 43 (.pu 44 (.pu 45 (.pu 48 (.pu 49 (.pu 50 (.st 46 (.st 51 (.on 47 (.on 52 (.pu 53 (.pu 54 (.pu 55 (.pu 56 (.pu 57 (.pu 58 (.st 59 (.on 60 (.pu 61 (.pu 62 (.pu 63 (.pu 64 .nil))))))))))))))))))))))))))))))))))))))))))))))))))))))))))))))))) ?_ (hQ := by repeat (first | with_reducible refine K.NoPanic.then ?_ | with_reducible refine K.NoPanic.inBlock ?_ | with_reducible exact K.post_noPanic _ _ | exact K.post_noPanic _ _ | exact K.QN_noPanic | exact K.postS_noPanic | exact K.postX_noPanic | exact K.RPX_noPanic))
 refine K.d_pu rfl (fun _ _ => X.mv) rfl ?_
 refine K.d_pu rfl (fun _ _ => X.beql) rfl ?_
 refine K.d_pu rfl (fun _ _ => X.mv) rfl ?_
 first | refine K.d_skip rfl rfl rfl rfl ?_ | refine K.d_skipU rfl rfl rfl rfl rfl ?_ | refine K.d_puG rfl rfl rfl (fun _ _ => X.mv) rfl ?_
 first | refine K.d_skip rfl rfl rfl rfl ?_ | refine K.d_skipU rfl rfl rfl rfl rfl ?_ | refine K.d_puG rfl rfl rfl (fun _ _ => X.beql) rfl ?_
 refine K.d_pu rfl (fun _ _ => X.pk) rfl ?_
 refine K.d_pu rfl (fun _ _ => X.mv) rfl ?_
 first | refine K.d_skip rfl rfl rfl rfl ?_ | refine K.d_skipU rfl rfl rfl rfl rfl ?_ | refine K.d_puG rfl rfl rfl (fun _ _ => X.mv) rfl ?_
 first | refine K.d_skip rfl rfl rfl rfl ?_ | refine K.d_skipU rfl rfl rfl rfl rfl ?_ | refine K.d_puG rfl rfl rfl (fun _ _ => X.beql) rfl ?_
 refine K.d_pu rfl (fun _ _ => X.pk) rfl ?_
 refine K.d_pu rfl (fun _ _ => X.mv) rfl ?_
 first | refine K.d_skip rfl rfl rfl rfl ?_ | refine K.d_skipU rfl rfl rfl rfl rfl ?_ | refine K.d_puG rfl rfl rfl (fun _ _ => X.mv) rfl ?_
 first | refine K.d_skip rfl rfl rfl rfl ?_ | refine K.d_skipU rfl rfl rfl rfl rfl ?_ | refine K.d_puG rfl rfl rfl (fun _ _ => X.beql) rfl ?_
 refine K.d_pu rfl (fun _ _ => X.pk) rfl ?_
 refine K.d_pu rfl (fun _ _ => X.mv) rfl ?_
 first | refine K.d_skipS rfl rfl rfl rfl ?_ | refine K.d_skipUS rfl rfl rfl rfl rfl ?_ | refine K.d_stG rfl rfl rfl X.ld rfl ?_
 refine K.d_on rfl (fun KK hKK => ?_)
 refine K.s_take rfl rfl ?_
 refine K.l_callV (Fx.cal rfl) rfl hze7 (K.pp [] rfl) rfl rfl ?_
 refine K.l_nil ?_
 refine X.onE hKK ?_
 refine K.d_pu rfl (fun _ _ => X.pk) rfl ?_
 refine K.d_pu rfl (fun _ _ => X.mv) rfl ?_
 first | refine K.d_skip rfl rfl rfl rfl ?_ | refine K.d_skipU rfl rfl rfl rfl rfl ?_ | refine K.d_puG rfl rfl rfl (fun _ _ => X.mv) rfl ?_
 first | refine K.d_skip rfl rfl rfl rfl ?_ | refine K.d_skipU rfl rfl rfl rfl rfl ?_ | refine K.d_puG rfl rfl rfl (fun _ _ => X.beql) rfl ?_
 refine K.d_pu rfl (fun _ _ => X.pk) rfl ?_
 refine K.d_pu rfl (fun _ _ => X.mv) rfl ?_
 first | refine K.d_skip rfl rfl rfl rfl ?_ | refine K.d_skipU rfl rfl rfl rfl rfl ?_ | refine K.d_puG rfl rfl rfl (fun _ _ => X.mv) rfl ?_
 first | refine K.d_skip rfl rfl rfl rfl ?_ | refine K.d_skipU rfl rfl rfl rfl rfl ?_ | refine K.d_puG rfl rfl rfl (fun _ _ => X.len) rfl ?_
 first | refine K.d_skip rfl rfl rfl rfl ?_ | refine K.d_skipU rfl rfl rfl rfl rfl ?_ | refine K.d_puG rfl rfl rfl (fun _ _ => X.beql) rfl ?_
 refine K.d_pu rfl (fun _ _ => X.pk) rfl ?_
 refine K.d_pu rfl (fun _ _ => X.mv) rfl ?_
 first | refine K.d_skip rfl rfl rfl rfl ?_ | refine K.d_skipU rfl rfl rfl rfl rfl ?_ | refine K.d_puG rfl rfl rfl (fun _ _ => X.mv) rfl ?_
 first | refine K.d_skip rfl rfl rfl rfl ?_ | refine K.d_skipU rfl rfl rfl rfl rfl ?_ | refine K.d_puG rfl rfl rfl (fun _ _ => X.ia) rfl ?_
 first | refine K.d_skip rfl rfl rfl rfl ?_ | refine K.d_skipU rfl rfl rfl rfl rfl ?_ | refine K.d_puG rfl rfl rfl (fun _ _ => X.bd) rfl ?_
 refine K.d_stG rfl rfl rfl (K.p_loadM (vs := [.int .u32 1, .int .u64 1]) (Fx.agg rfl) rfl (K.cels_rowZ (es := [[.int .u32 1, .int .u64 1]]) (i := 0) 0 rfl (fun e he => by rw [List.mem_singleton.1 he]) rfl) (Fx.sz rfl) rfl) rfl ?_
 refine K.d_puG rfl rfl rfl (fun _ _ => K.p_eqA (r := true) (Fx.flat rfl) rfl rfl rfl) rfl ?_
 refine K.d_pu rfl (fun _ _ => X.pk) rfl ?_
 refine K.d_pu rfl (fun _ _ => X.mv) rfl ?_
 first | refine K.d_skip rfl rfl rfl rfl ?_ | refine K.d_skipU rfl rfl rfl rfl rfl ?_ | refine K.d_puG rfl rfl rfl (fun _ _ => X.mv) rfl ?_
 first | refine K.d_skip rfl rfl rfl rfl ?_ | refine K.d_skipU rfl rfl rfl rfl rfl ?_ | refine K.d_puG rfl rfl rfl (fun _ _ => X.beql) rfl ?_
 refine K.d_pu rfl (fun _ _ => X.pk) rfl ?_
 refine K.d_pu rfl (fun _ _ => X.mv) rfl ?_
 first | refine K.d_skip rfl rfl rfl rfl ?_ | refine K.d_skipU rfl rfl rfl rfl rfl ?_ | refine K.d_puG rfl rfl rfl (fun _ _ => X.mv) rfl ?_
 first | refine K.d_skip rfl rfl rfl rfl ?_ | refine K.d_skipU rfl rfl rfl rfl rfl ?_ | refine K.d_puG rfl rfl rfl (fun _ _ => X.beql) rfl ?_
 refine K.d_pu rfl (fun _ _ => X.pk) rfl ?_
 refine K.d_pu rfl (fun _ _ => X.mv) rfl ?_
 first | refine K.d_skip rfl rfl rfl rfl ?_ | refine K.d_skipU rfl rfl rfl rfl rfl ?_ | refine K.d_puG rfl rfl rfl (fun _ _ => X.mv) rfl ?_
 first | refine K.d_skip rfl rfl rfl rfl ?_ | refine K.d_skipU rfl rfl rfl rfl rfl ?_ | refine K.d_puG rfl rfl rfl (fun _ _ => X.nc) rfl ?_
 first | refine K.d_skip rfl rfl rfl rfl ?_ | refine K.d_skipU rfl rfl rfl rfl rfl ?_ | refine K.d_puG rfl rfl rfl (fun _ _ => X.fa) rfl ?_
 first | refine K.d_skip rfl rfl rfl rfl ?_ | refine K.d_skipU rfl rfl rfl rfl rfl ?_ | refine K.d_puG rfl rfl rfl (fun _ _ => X.mv) rfl ?_
 first | refine K.d_skip rfl rfl rfl rfl ?_ | refine K.d_skipU rfl rfl rfl rfl rfl ?_ | refine K.d_puG rfl rfl rfl (fun _ _ => X.nc) rfl ?_
 first | refine K.d_skip rfl rfl rfl rfl ?_ | refine K.d_skipU rfl rfl rfl rfl rfl ?_ | refine K.d_puG rfl rfl rfl (fun _ _ => X.fa) rfl ?_
 first | refine K.d_skipS rfl rfl rfl rfl ?_ | refine K.d_skipUS rfl rfl rfl rfl rfl ?_ | refine K.d_stG rfl rfl rfl X.ld rfl ?_
 first | refine K.d_skipS rfl rfl rfl rfl ?_ | refine K.d_skipUS rfl rfl rfl rfl rfl ?_ | refine K.d_stG rfl rfl rfl X.ld rfl ?_
 refine K.d_on rfl (fun KK hKK => ?_)
 refine K.s_take rfl rfl ?_
 refine K.l_callV (Fx.cal rfl) rfl hDu5 (K.pp [0] rfl) rfl rfl ?_
 refine K.l_nil ?_
 refine X.onE hKK ?_
 refine K.d_on rfl (fun KK hKK => ?_)
 refine K.s_take rfl rfl ?_
 refine K.l_callV (Fx.cal rfl) rfl hEn5 (K.pp [0] rfl) rfl rfl ?_
 refine K.l_nil ?_
 refine X.onE hKK ?_
 first | refine K.d_skip rfl rfl rfl rfl ?_ | refine K.d_skipU rfl rfl rfl rfl rfl ?_ | refine K.d_puG rfl rfl rfl (fun _ _ => X.beql) rfl ?_
 refine K.d_pu rfl (fun _ _ => X.pk) rfl ?_
 refine K.d_pu rfl (fun _ _ => X.mv) rfl ?_
 first | refine K.d_skip rfl rfl rfl rfl ?_ | refine K.d_skipU rfl rfl rfl rfl rfl ?_ | refine K.d_puG rfl rfl rfl (fun _ _ => X.mv) rfl ?_
 first | refine K.d_skip rfl rfl rfl rfl ?_ | refine K.d_skipU rfl rfl rfl rfl rfl ?_ | refine K.d_puG rfl rfl rfl (fun _ _ => X.nc) rfl ?_
 first | refine K.d_skip rfl rfl rfl rfl ?_ | refine K.d_skipU rfl rfl rfl rfl rfl ?_ | refine K.d_puG rfl rfl rfl (fun _ _ => X.fa) rfl ?_
 first | refine K.d_skipS rfl rfl rfl rfl ?_ | refine K.d_skipUS rfl rfl rfl rfl rfl ?_ | refine K.d_stG rfl rfl rfl X.ld rfl ?_
 refine K.d_on rfl (fun KK hKK => ?_)
 refine K.s_take rfl rfl ?_
 refine K.l_call (Fx.cal rfl) rfl hDi5 (K.pp [0] rfl) rfl ?_
 rintro u h' H' - ⟨e, a8, cap8, rfl, rfl⟩
 obtain rfl := e.symm
 rw [hdl5]
 refine K.l_nil ?_
 refine X.onE hKK ?_
 first | refine K.d_skip rfl rfl rfl rfl ?_ | refine K.d_skipU rfl rfl rfl rfl rfl ?_ | refine K.d_puG rfl rfl rfl (fun _ _ => X.len) rfl ?_
 first | refine K.d_skip rfl rfl rfl rfl ?_ | refine K.d_skipU rfl rfl rfl rfl rfl ?_ | refine K.d_puG rfl rfl rfl (fun _ _ => X.beql) rfl ?_
 refine K.d_pu rfl (fun _ _ => X.pk) rfl ?_
 refine K.d_pu rfl (fun _ _ => X.sg) rfl ?_
 refine K.d_nil ?_
 (repeat' first | refine X.rq ?_ | refine X.rc ?_ ?_ <;> intro hc <;> try omega)
 simp only [List.cons_append, List.nil_append]
 simp only [Go.K.nmz]
 exact K.dc (vs := [.bool true]) (.tmp rfl .nil) le1 (D := [_, _, _, _, _]) (H' := []) rfl ⟨rfl, rfl⟩
end Go.Proofs.YtijbhgiigddjdaaGreat.Pl
end

section
namespace Go.Proofs.YtijbhgiigddjdaaGreat.Pl
open Go Go.K Go.Proofs Go.Proofs.YtijbhgiigddjdaaGreat Go.Proofs.YtijbhgiigddjdaaGreat.Pg Go.Proofs.YtijbhgiigddjdaaGreat.Wl Go.Proofs.YtijbhgiigddjdaaGreat.Rc
set_option maxRecDepth 10000

structure PgOk (p : Pag) : Prop where
 wf : wfP p
 may : mayQ p = true ∨ zeroQ p = true
 kil : ∀ c ∈ p.cells, c.killer < 4294967296
def zP : Pag := ⟨0, 0, 0, []⟩
theorem page_zs : pageQ zs = (zP, 0) := if_pos rfl
structure WrP (D : Dk) (L : Lg) (rs : List Recd) (m : Nat) (x : Fr) (r : WrR) : Prop where
 ok : DkOk r.D
 len : r.D.kept.length = D.kept.length
 room : r.D.cache.length ≤ D.cache.length + 9001
 pow : NoTrip D → r.e = 0 ∧ NoTrip r.D
 out : (r.e = 0 ∧ (∃ m', m ≤ m' ∧ RunP r.D r.L rs m') ∧ (r.L = L ∨ r.L = { L with durable := endQ L }) ∧
   (∀ i, L.m.n < i → i < D.kept.length → V r.D i = if x.fresh = true ∧ i = L.m.n + x.n then pgB x.pg else V D i) ∧
   (∀ i s, L.m.n < i → Cand r.D i s → Cand D i s ∨ (i = L.m.n + x.n ∧ s = pgB x.pg ∧ x.pg.lsn < r.L.durable))) ∨
  (r.e = 8 ∧ (∃ m', m ≤ m' ∧ m' ≤ rs.length ∧ AInv r.D L.m.n L.m.base L.m.kept rs m' none) ∧ ∀ i s, L.m.n < i → Cand r.D i s → Cand D i s)
/-! ### The pages -/
structure Pages (K : Nat) (D : Dk) (frs : List Fr) (is : Nat → Pag) : Prop where
 fin : ∀ x ∈ frs, 1 ≤ x.n ∧ x.n ≤ K ∧ x.pg = is x.n ∧ (x.fresh = false → V D (16 + x.n) = pgB (is x.n))
 out : ∀ n, 1 ≤ n → n ≤ K → (∀ x ∈ frs, x.n ≠ n) → V D (16 + n) = pgB (is n)
def Safe (K : Nat) (D : Dk) (d : Nat) (puts : Nat → List Pag) : Prop := ∀ n s, 1 ≤ n → n ≤ K → Cand D (16 + n) s → s = zs ∨ ∃ p ∈ puts n, PgOk p ∧ s = pgB p ∧ p.lsn < d
structure Held (K e : Nat) (is : Nat → Pag) (puts : Nat → List Pag) : Prop where
 ok : ∀ n, 1 ≤ n → n ≤ K → PgOk (is n)
 lsn : ∀ n, 1 ≤ n → n ≤ K → (is n).lsn < e
 had : ∀ n, 1 ≤ n → n ≤ K → is n = zP ∨ is n ∈ puts n
structure PI (K : Nat) (D : Dk) (L : Lg) (P : Po) (rs : List Recd) (m : Nat) (is : Nat → Pag) (puts : Nat → List Pag) : Prop where
 run : RunP D L rs m
 n : L.m.n = 16
 base : L.m.base = 1
 kept : L.m.kept = 0
 len : D.kept.length = 17 + K
 po : PoOk P
 pgs : Pages K D P.frs is
 safe : Safe K D L.durable puts
 held : Held K (endQ L) is puts
structure PD (K : Nat) (D : Dk) (rs : List Recd) (m : Nat) (puts : Nat → List Pag) : Prop where
 ok : DkOk D
 len : D.kept.length = 17 + K
 inv : AInv D 16 1 0 rs m none
 few : m ≤ rs.length
 right : RightL rs
 size : lenQ rs ≤ 16 * 510
 fin : 1 + lenQ rs ≤ lastLSN
 safe : Safe K D (1 + lenQ (rs.take m)) puts
structure PB (K : Nat) (D : Dk) (L : Lg) (rs : List Recd) (m : Nat) (puts : Nat → List Pag) : Prop where
 run : RunP D L rs m
 n : L.m.n = 16
 base : L.m.base = 1
 kept : L.m.kept = 0
 len : D.kept.length = 17 + K
 safe : Safe K D L.durable puts
end Go.Proofs.YtijbhgiigddjdaaGreat.Pl
end
