/-
  Trees of pages: the plan of a Split; the code's. Conditions: each theorem's own.
-/
import Derived.Test.YtahdbncfegedjaaXt

namespace Go.Proofs.Ytahdbncfegedjaa.Nd
open Go Go.K Go.Proofs Go.Proofs.Ytahdbncfegedjaa Go.Proofs.Ytahdbncfegedjaa.Pg
set_option linter.unusedVariables false
set_option linter.unusedSimpArgs false
set_option maxRecDepth 10000

theorem PlanCC (h : Base) (c : List Value) (x : PCell) (s : List UInt8) (B : Nat) (hx : CellC h c x) : TrV Try.prog 62 [.agg c.toArray, .pointer (some ⟨B, 0, none⟩)] h [blk B 9 [txt s]] (.bool (decide (x.data = s))) [blk B 9 [txt s]] := by
  obtain ⟨hkl, hdl, ao3, ca3, rfl, hbv⟩ := hx
  refine K.enter Try.func62 rfl (Nat.le_of_ble_eq_true rfl) (fun F => ?_)
  (repeat' (first | refine X.rq ?_ | (refine X.rc ?_ ?_ <;> intro hc <;> first | (exfalso; omega) | skip)))
  refine K.l_box rfl rfl rfl (fun B2 => ?_)
  (repeat' (first | refine X.rq ?_ | (refine X.rc ?_ ?_ <;> intro hc <;> first | (exfalso; omega) | skip)))
  refine K.s_pure (K.p_textB hbv (Fx.und rfl) (Fx.und rfl) (Fx.und rfl) rfl) rfl ?_
  (repeat' (first | refine X.rq ?_ | (refine X.rc ?_ ?_ <;> intro hc <;> first | (exfalso; omega) | skip)))
  rw [decide_eq_decide.2 (txt_inj x.data s)]
  refine K.AT.drop ?_
  refine K.done (by first | exact Or.inl rfl | exact Or.inr rfl) rfl (by first | exact K.Base.le.refl _ | assumption) (H' := [_]) rfl ⟨rfl, rfl, rfl⟩
/-- The page that is there. -/
theorem PGPageOk (h : Base) (gv : Value) (G : Option GetQ) (n : Nat) (p : Pag) (hg : GetV h gv G) (hn : n < 4294967296) (hp : pageQ G n = .ok p) :
    Tr Try.prog 31 [gv, .int .u32 n] h [] (fun v h' H' => h' = h ∧ H' = [] ∧ ∃ cs, v = .agg cs.toArray ∧ PagC h cs p) :=
  ((PGPage h gv G n hg hn).mono (fun v h' H' _ ⟨h1, h2, q, cs, h3, h4, h5⟩ => by
    rw [hp] at h5; cases h5
    exact ⟨h1, h2, cs, h3, h4⟩) (PX' := fun _ _ _ => False) (fun v h' H' _ ⟨_, e, _, h5⟩ => by rw [hp] at h5; cases h5)).ok fun _ _ _ h => h
/-- What follows is walked once, however many marks the first part left. -/
theorem K.b_cutN {P : Program} {n : NN} {Q : Exit → Act → World → Prop} {E : Env} {h : Base} {H : List Asrt} {x y : Code} {σ : Type} (NI : σ → NN) (EI : σ → Env) (BI : σ → Base) (HI : σ → List Asrt) (I : σ → Prop)
    (hy : ∀ s, I s → K.WB P (NI s) y Q (EI s) (BI s) (HI s))
    (hx : ∀ KJ : Act → World → Prop, (∀ s a w, I s → Fr (NI s) (EI s) a → Ok (BI s) (HI s) w → KJ a w) → K.WB P n x (Exit.then KJ Q) E h H) : K.WB P n (.seq x y) Q E h H :=
  K.b_seq (hx _ fun s a w hI fa ok => (hy s hI).run a w fa ok)
theorem K.WB.closed {P : Program} {n : NN} {Q : Exit → Act → World → Prop} {E : Env} {h : Base} {H : List Asrt} {c : Code} {Hs F : List Asrt} (hp : H.Perm (Hs ++ F)) (hx : K.WB P n c Q E h (all Hs :: F)) : K.WB P n c Q E h H := ⟨fun a w fa ok => hx.run a w fa (Ok.all_iff.2 (ok.perm hp))⟩
theorem K.a_joinN {P : Program} {n : NN} {Q : Exit → Act → World → Prop} {E : Env} {h : Base} {H : List Asrt} {σ : Type} {NI : σ → NN} {EI : σ → Env} {BI : σ → Base} {HI : σ → List Asrt} {I : σ → Prop} {KJ : Act → World → Prop} (hK : ∀ s a w, I s → Fr (NI s) (EI s) a → Ok (BI s) (HI s) w → KJ a w) (s : σ) (hI : I s) (hN : NI s = n)
    (hE : Sub E (EI s)) (hB : BI s = h) (hH : H.Perm (HI s)) : K.AT P n (Exit.then KJ Q) .normal E h H := ⟨fun a w fa ok => hK s a w hI (by rw [hN]; exact fa.sub hE) (by rw [hB]; exact ok.perm hH)⟩
structure PlM where
  st : PlS
  a : Option Nat
  cap : Nat
  rows : List (List Value)
  fv : Value
  cc : List Value
/-- The memory of a plan under way. -/
def plA (B4 B5 B6 B9 B10 Bw : Nat) (gv v : Value) (s : List UInt8) (M : PlM) : List Asrt :=
  [blk Bw 81 (wkV (bufV M.a M.rows.length M.cap) M.fv M.st.cnt), bufA 58 5 M.a M.rows.length M.cap M.rows.flatten, blk B10 52 M.cc, blk B9 82 [.pointer (some ⟨Bw, 0, none⟩)], blk B5 30 [v], blk B4 61 [gv]]
def PlG (h : Base) (M : PlM) : Prop := CellC h M.cc M.st.c ∧ RowsI h M.rows M.st.imgs ∧ U32s h M.fv M.st.fs
theorem PlG.le {h h' : Base} {M : PlM} (hm : PlG h M) (hle : h.le h') : PlG h' M := ⟨hm.1.le hle, hm.2.1.le hle, hm.2.2.le hle⟩
/-- What a plan makes. -/
def PlanR (st : PlS) (u : Value) (h' : Base) (H' : List Asrt) : Prop := ∃ Bw a cap rows fv', u = .pointer (some ⟨Bw, 0, none⟩) ∧ H' = [blk Bw 81 (wkV (bufV a rows.length cap) fv' st.cnt), bufA 58 5 a rows.length cap rows.flatten] ∧ RowsI h' rows st.imgs ∧ U32s h' fv' st.fs
theorem back_pre {l : List Nat} {pre : List Stp} {i n : Nat} (h : pre ++ [(i, n)] <+: backQ l) : pre.length < l.length ∧ i = l.length - 1 - pre.length ∧ l[i]? = some n ∧ (backQ l).drop pre.length = (i, n) :: (backQ l).drop (pre.length + 1) := by
  obtain ⟨r, hr⟩ := h
  have h1 : (backQ l)[pre.length]? = some (i, n) := by rw [← hr]; simp
  have h2 : pre.length < (backQ l).length := (List.getElem?_eq_some_iff.1 h1).1
  have h3 : pre.length < l.length := by rw [back_len] at h2; exact h2
  have h4 := back_at h3
  rw [h1] at h4
  simp only [Option.some.injEq, Prod.mk.injEq] at h4
  refine ⟨h3, h4.1, ?_, ?_⟩
  · rw [h4.1, h4.2, List.getD_eq_getElem?_getD, List.getElem?_eq_getElem (by omega)]; rfl
  · rw [List.drop_eq_getElem_cons h2, (List.getElem?_eq_some_iff.1 h1).2]
structure PlT where
  D : Nat
  hb : Base
  M : PlM
set_option maxHeartbeats 2000000 in
theorem PPlan (h : Base) (gv : Value) (G : Option GetQ) (v : Value) (path : List Nat) (s : List UInt8) (fv : Value) (fs : List Nat) (hg : GetV h gv G) (hv : U32s h v path) (hpo : PathOk G path) (hs : isEntryQ s = true) (hf : U32s h fv fs) (hfl : fs.length ≤ 1000) :
    TrX Try.prog 40 [gv, v, txt s, fv] h [] (fun u h' H' => ∃ st, planQ G path s fs = .ok st ∧ PlanR st u h' H') (UpE (planQ G path s fs)) := by
  obtain ⟨ao, ca, rfl⟩ := hv.len
  obtain ⟨fo, fc, rfl⟩ := hf.len
  obtain ⟨hp0, hp8, hpp⟩ := hpo
  have hone := hg.one
  have hsl := (of_decide_eq_true hs).2
  have hsz := txt_size s
  refine K.enterMX Try.func40 rfl (Nat.le_of_ble_eq_true rfl) (fun F => ?_)
  refine K.b_seq (K.WB.of ?_)
  (repeat' (first | refine X.rq ?_ | (refine X.rc ?_ ?_ <;> intro hc <;> first | (exfalso; omega) | skip)))
  refine K.l_box rfl hone rfl (fun B4 => ?_)
  refine K.l_box rfl rfl rfl (fun B5 => ?_)
  refine K.l_box rfl rfl rfl (fun B6 => ?_)
  (repeat' (first | refine X.rq ?_ | (refine X.rc ?_ ?_ <;> intro hc <;> first | (exfalso; omega) | skip)))
  refine K.a_thenB (K.b_seq (K.WB.of ?_))
  (repeat' (first | refine X.rq ?_ | (refine X.rc ?_ ?_ <;> intro hc <;> first | (exfalso; omega) | skip)))
  refine K.l_box rfl rfl rfl (fun Bw => ?_)
  refine K.l_alloc (Fx.zr rfl) rfl rfl (fun B9 => ?_)
  refine X.sto ?_
  simp only [List.set_cons_zero, List.set_cons_succ, List.eraseIdx_cons_zero, List.eraseIdx_cons_succ, List.cons_append, List.nil_append]
  (repeat' (first | refine X.rq ?_ | (refine X.rc ?_ ?_ <;> intro hc <;> first | (exfalso; omega) | skip)))
  refine K.a_thenB (K.b_seq (K.WB.of ?_))
  (repeat' (first | refine X.rq ?_ | (refine X.rc ?_ ?_ <;> intro hc <;> first | (exfalso; omega) | skip)))
  refine K.l_toBytes (Fx.und rfl) (Fx.und rfl) (Fx.und rfl) rfl (by unfold maxLen; omega) rfl (fun B cap => ?_)
  rw [hsz]
  refine K.WL.freezeBuf (l := s) (fun h1 le1 hbv1 => ?_)
  obtain ⟨aos, cas, e4⟩ : ∃ ao4 ca4, bufV (some B) s.length cap = .slice ao4 s.length ca4 := ⟨_, _, rfl⟩
  rw [e4] at hbv1 ⊢
  (repeat' (first | refine X.rq ?_ | (refine X.rc ?_ ?_ <;> intro hc <;> first | (exfalso; omega) | skip)))
  refine K.l_alloc (Fx.zr rfl) rfl rfl (fun B10 => ?_)
  refine X.stw ?_
  simp only [List.set_cons_zero, List.set_cons_succ, List.eraseIdx_cons_zero, List.eraseIdx_cons_succ, List.cons_append, List.nil_append]
  (repeat' (first | refine X.rq ?_ | (refine X.rc ?_ ?_ <;> intro hc <;> first | (exfalso; omega) | skip)))
  refine K.a_thenB (K.b_seq (K.WB.of ?_))
  refine K.WC.perm (H' := [blk B10 52 [.bool true, .int .u32 0, .slice aos s.length cas], blk B9 82 [.pointer (some ⟨Bw, 0, none⟩)], blk Bw 81 (wkV (.slice none 0 0) (.slice fo fs.length fc) 0), blk B6 9 [txt s], blk B5 30 [.slice ao path.length ca], blk B4 61 [gv]] ++ F) (List.Perm.refl _) ?_
  have hne : path ≠ [] := List.length_pos_iff.1 hp0
  have hlast : path[path.length - 1]? = some (path.getLastD 0) := by
    rw [← List.getLast?_eq_getElem?, List.getLastD_eq_getLast?]
    cases hx : path.getLast? with
    | none => rw [List.getLast?_eq_none_iff] at hx; exact absurd hx hne
    | some x => rfl
  obtain ⟨p0, hq0, hk0⟩ := hpp _ _ hlast
  have hn0 := last_lt hv.2
  have hv1 := hv.le le1
  have hg1 := hg.le le1
  refine K.WC.np ?_
  refine X.drawJ ([blk B5 30 [.slice ao path.length ca], blk B4 61 [gv]]) [] (.st 0 (.st 1 (.st 2 (.pu 3 (.pu 4 (.st 5 (.st 6 (.alt 7 (.on 8 (.on 9 .nil)) (.on 8 (.on 7 (.on 9 .nil))))))))))) (fun r : Nat × { r : Option Addr × Nat // PagC h1 (cP p0 (.slice r.1 p0.cells.length r.2)) p0 } => [(4, .pointer (some ⟨B4, 0, none⟩)), (5, .pointer (some ⟨B5, 0, none⟩)), (6, .pointer (some ⟨B6, 0, none⟩)), (9, .pointer (some ⟨B9, 0, none⟩)), (10, .pointer (some ⟨B10, 0, none⟩)), (11, .pointer (some ⟨r.1, 0, none⟩))]) (fun _ => h1) (fun r => blk r.1 55 (cP p0 (.slice r.2.1.1 p0.cells.length r.2.1.2)) :: [blk B10 52 [.bool true, .int .u32 0, .slice aos s.length cas], blk B9 82 [.pointer (some ⟨Bw, 0, none⟩)], blk Bw 81 (wkV (.slice none 0 0) (.slice fo fs.length fc) 0), blk B6 9 [txt s], blk B5 30 [.slice ao path.length ca], blk B4 61 [gv]] ++ F) ?_ ?_
  · refine K.d_st rfl X.ld rfl ?_
    refine K.d_st rfl X.ld rfl ?_
    refine K.d_st rfl X.ld rfl ?_
    refine K.d_pu rfl (fun _ _ => X.len) rfl ?_
    refine K.d_pu rfl (fun _ _ => X.bsub) rfl ?_
    refine K.d_stE rfl (K.p_indexL hv1.1 (Fx.und rfl) (Fx.sz rfl) rfl rfl (by omega) (last_at hne)) rfl ?_
    rintro v2 ⟨b, o, rfl, hcel⟩
    refine K.d_st rfl (K.p_load (Fx.agg rfl) rfl (Cels.up hcel).1) rfl ?_
    refine K.d_alt ?_ ?_
    · refine K.d_on rfl (fun KK hKK => ?_)
      refine K.l_call (Fx.cal rfl) rfl (PGPageOk h1 gv G _ p0 hg1 hn0 hq0) (K.pp [] rfl) rfl ?_
      rintro u h3 H' - ⟨e3, rfl, cs, rfl, hpc⟩
      obtain rfl := e3.symm
      have hpc0 := hpc
      obtain ⟨hw, cv, rfl, ef, hsl9, hel9, hcs9⟩ := hpc
      obtain ⟨ao9, ca9, rfl⟩ := hsl9.len
      rw [hel9] at hpc0 ⊢
      simp only [List.nil_append]
      refine K.l_nil ?_
      refine X.onE hKK ?_
      refine K.d_on rfl (fun KK hKK => ?_)
      refine K.l_alloc (Fx.zr rfl) rfl rfl (fun B11 => ?_)
      refine K.l_nil ?_
      refine X.onE hKK ?_
      refine K.d_on rfl (fun KK hKK => ?_)
      refine X.stw ?_
      simp only [List.set_cons_zero, List.set_cons_succ, List.eraseIdx_cons_zero, List.eraseIdx_cons_succ, List.cons_append, List.nil_append]
      refine K.l_nil ?_
      refine X.onE hKK ?_
      refine K.d_nil ?_
      exact K.joined (B11, ⟨(ao9, ca9), hpc0⟩) (by repeat (first | exact K.Sub.nil _ | refine K.Sub.cons rfl ?_)) rfl rfl
    refine K.d_on rfl (fun KK hKK => ?_)
    refine K.l_alloc (Fx.zr rfl) rfl rfl (fun B11 => ?_)
    refine K.l_nil ?_
    refine X.onE hKK ?_
    refine K.d_on rfl (fun KK hKK => ?_)
    refine K.l_call (Fx.cal rfl) rfl (PGPageOk h1 gv G _ p0 hg1 hn0 hq0) (K.pp [] rfl) rfl ?_
    rintro u h3 H' - ⟨e3, rfl, cs, rfl, hpc⟩
    obtain rfl := e3.symm
    have hpc0 := hpc
    obtain ⟨hw, cv, rfl, ef, hsl9, hel9, hcs9⟩ := hpc
    obtain ⟨ao9, ca9, rfl⟩ := hsl9.len
    rw [hel9] at hpc0 ⊢
    simp only [List.nil_append]
    refine K.l_nil ?_
    refine X.onE hKK ?_
    refine K.d_on rfl (fun KK hKK => ?_)
    refine X.stw ?_
    simp only [List.set_cons_zero, List.set_cons_succ, List.eraseIdx_cons_zero, List.eraseIdx_cons_succ, List.cons_append, List.nil_append]
    refine K.l_nil ?_
    refine X.onE hKK ?_
    refine K.d_nil ?_
    exact K.joined (B11, ⟨(ao9, ca9), hpc0⟩) (by repeat (first | exact K.Sub.nil _ | refine K.Sub.cons rfl ?_)) rfl rfl
  refine fun r => K.a_qn ?_
  obtain ⟨B11, ⟨⟨ao9, ca9⟩, hpc⟩⟩ := r
  dsimp only at hpc ⊢
  have hw0 := hpc.1
  have hcv0 : CellsV h1 (.slice ao9 p0.cells.length ca9) p0.cells := by
    obtain ⟨_, cv, e, hc⟩ := hpc
    obtain rfl : Value.slice ao9 p0.cells.length ca9 = cv := by simpa [cP] using e
    exact hc
  refine K.a_thenB (K.b_seq (K.WB.of ?_))
  (repeat' (first | refine X.rq ?_ | (refine X.rc ?_ ?_ <;> intro hc <;> first | (exfalso; omega) | skip)))
  refine K.s_pure (K.p_makeFunc rfl) rfl ?_
  refine K.l_callV (Fx.cal rfl) rfl (CtnCell h1 [blk B6 9 [txt s]] 62 [.pointer (some ⟨B6, 0, none⟩)] (Fx.cal rfl) _ p0.cells (fun c => decide (c.data = s)) hcv0 hw0.len (fun c x hx => PlanCC h1 c x s B6 hx)) (K.pp [4] rfl) rfl rfl ?_
  simp only [List.set_cons_zero, List.set_cons_succ, List.eraseIdx_cons_zero, List.eraseIdx_cons_succ, List.cons_append, List.nil_append]
  (repeat' (first | refine X.rq ?_ | (refine X.rc ?_ ?_ <;> intro hc <;> first | (exfalso; omega) | skip)))
  obtain ⟨any, hany⟩ : ∃ b, (p0.cells.any fun c => decide (c.data = s)) = b := ⟨_, rfl⟩
  rw [hany]
  have hplq : any = false → planQ G path s fs = match planL G path.length (backQ path) (newS s fs) with
    | .error e => .error e
    | .ok st => if st.imgs.all (fun x => mayQ x.to) then .ok st else .error 5 := fun e => by
    subst e
    unfold planQ
    rw [hq0]
    dsimp only
    rw [hany]
    rfl
  refine K.l_callX (Fx.cal rfl) rfl (Need h1 _ 7) (K.pp [] rfl) rfl ?_ ?_
  · rintro v h' H' hle ⟨e, rfl, e1, rfl⟩
    obtain rfl := e.symm
    repeat (first | with_reducible refine K.a_then_panic ?_ | with_reducible refine K.a_block_panic ?_)
    refine K.AT.marks0 (K.upMX (Ds := []) rfl (List.Perm.refl _) le1 (D := [_, _, _, _, _, _, _]) (H' := []) rfl ⟨rfl, 7, rfl, ?_⟩)
    obtain rfl : any = true := by cases any <;> first | rfl | cases e1
    unfold planQ
    rw [hq0]
    dsimp only
    rw [hany]
    rfl
  rintro v h' H' - ⟨e, rfl, e1⟩
  obtain rfl := e.symm
  obtain rfl : any = false := by cases any <;> first | rfl | cases e1
  have hplq := hplq rfl
  simp only [List.set_cons_zero, List.set_cons_succ, List.eraseIdx_cons_zero, List.eraseIdx_cons_succ, List.cons_append, List.nil_append]
  (repeat' (first | refine X.rq ?_ | (refine X.rc ?_ ?_ <;> intro hc <;> first | (exfalso; omega) | skip)))
  refine K.a_thenB ?_
  refine K.b_cutN (σ := PlT) (fun q => ⟨Try.f40.ntmps, [K.mark q.D]⟩) (fun _ => [(9, .pointer (some ⟨B9, 0, none⟩))]) (fun q => q.hb) (fun q => objA q.D (.deferred (some [])) :: (plA B4 B5 B6 B9 B10 Bw gv (.slice ao path.length ca) s q.M ++ F))
    (fun q => h.le q.hb ∧ PlG q.hb q.M ∧ q.M.st.imgs.length ≤ 25 ∧ planL G path.length (backQ path) (newS s fs) = .ok q.M.st) ?_ (fun KJ hKJ => ?_)
  · rintro ⟨D, hb, ⟨st, a, cap, rows, fv5, cc⟩⟩ ⟨hle, ⟨hM1, hM2, hM3⟩, hil, hpl⟩
    simp only at hle hM1 hM2 hM3 hil hpl ⊢
    rw [hpl] at hplq
    dsimp only at hplq
    have hrl := hM2.1
    have hz := hM2.2.1
    unfold plA
    refine K.b_seq (K.WB.of ?_)
    simp only [List.cons_append, List.nil_append]
    (repeat' (first | refine X.rq ?_ | (refine X.rc ?_ ?_ <;> intro hc <;> first | (exfalso; omega) | skip)))
    refine K.c_loop (σ := Nat) (fun j => [(84, bufV a rows.length cap), (85, .int .i64 rows.length), (86, .int .i64 j), (9, .pointer (some ⟨B9, 0, none⟩))]) (fun _ => hb) (fun _ => objA D (.deferred (some [])) :: blk Bw 81 (wkV (bufV a rows.length cap) fv5 st.cnt) :: bufA 58 5 a rows.length cap rows.flatten :: blk B10 52 cc :: blk B9 82 [.pointer (some ⟨Bw, 0, none⟩)] :: blk B5 30 [.slice ao path.length ca] :: blk B4 61 [gv] :: F)
      (fun j => j ≤ rows.length ∧ ∀ i x, i < j → st.imgs[i]? = some x → mayQ x.to = true) (fun j => rows.length - j) 0 ⟨Nat.zero_le _, fun i x h => absurd h (Nat.not_lt_zero _)⟩ (by repeat (first | exact K.Sub.nil _ | refine K.Sub.cons rfl ?_)) rfl rfl ?_
    rintro j ⟨hj, hyes⟩ KL hKL
    by_cases hjl : j < rows.length
    · refine K.WC.someBuf 2 rfl (by omega) (fun b hb' => ?_)
      subst hb'
      obtain ⟨c, hci⟩ : ∃ c, rows[j]? = some c := ⟨_, List.getElem?_eq_getElem hjl⟩
      obtain ⟨x, hxi⟩ : ∃ x, st.imgs[j]? = some x := ⟨_, List.getElem?_eq_getElem (by omega)⟩
      obtain ⟨hpg, cs, rfl, hpc⟩ := hM2.2.2 j c x hci hxi
      have hpc0 := hpc
      obtain ⟨hw, cv, rfl, ef, hsl9, hel9, hcs9⟩ := hpc
      obtain ⟨aoq, caq, rfl⟩ := hsl9.len
      rw [hel9] at hsl9 hpc0 hci
      (repeat' (first | refine X.rq ?_ | (refine X.rc ?_ ?_ <;> intro hc <;> first | (exfalso; omega) | skip)))
      rw [show 0 + (j : Int).toNat * 5 = j * 5 by omega]
      refine K.s_pure (K.p_loadM (Fx.agg rfl) rfl (K.cels_rowZ 2 rfl hz hci) (Fx.sz rfl) rfl) rfl ?_
      refine K.l_alloc (Fx.zr rfl) rfl rfl (fun B16 => ?_)
      refine X.stw ?_
      simp only [List.set_cons_zero, List.set_cons_succ, List.eraseIdx_cons_zero, List.eraseIdx_cons_succ, List.cons_append, List.nil_append]
      (repeat' (first | refine X.rq ?_ | (refine X.rc ?_ ?_ <;> intro hc <;> first | (exfalso; omega) | skip)))
      refine K.s_pure (K.p_loadM (Fx.agg rfl) rfl (K.cels_own (pre := [.int .u32 x.page]) (cs := cP x.to (.slice aoq x.to.cells.length caq)) (post := []) 0 rfl rfl) (Fx.sz rfl) rfl) rfl ?_
      refine K.l_callV (Fx.cal rfl) rfl (PMay hb _ x.to hpc0) (K.pp [] rfl) rfl rfl ?_
      simp only [List.set_cons_zero, List.set_cons_succ, List.eraseIdx_cons_zero, List.eraseIdx_cons_succ, List.cons_append, List.nil_append]
      (repeat' (first | refine X.rq ?_ | (refine X.rc ?_ ?_ <;> intro hc <;> first | (exfalso; omega) | skip)))
      refine K.l_callX (Fx.cal rfl) rfl (Need hb _ 5) (K.pp [] rfl) rfl ?_ ?_
      · rintro v h' H' hle5 ⟨e5, rfl, e1, rfl⟩
        obtain rfl := e5.symm
        repeat (first | with_reducible refine K.a_then_panic ?_ | with_reducible refine K.a_block_panic ?_)
        refine K.AT.perm (List.Perm.swap _ _ _) (K.AT.marks1 (K.upMX (Ds := [D]) rfl (List.Perm.refl _) hle (D := [_, _, _, _, _, _, _]) (H' := []) rfl ⟨rfl, 5, rfl, ?_⟩))
        rw [hplq, if_neg]
        intro hall
        rw [List.all_eq_true.1 hall x (List.mem_of_getElem? hxi)] at e1
        cases e1
      rintro v h' H' - ⟨e5, rfl, e1⟩
      obtain rfl := e5.symm
      simp only [List.set_cons_zero, List.set_cons_succ, List.eraseIdx_cons_zero, List.eraseIdx_cons_succ, List.cons_append, List.nil_append]
      (repeat' (first | refine X.rq ?_ | (refine X.rc ?_ ?_ <;> intro hc <;> first | (exfalso; omega) | skip)))
      refine K.AT.drop ?_
      refine K.a_round hKL (j + 1) ⟨by omega, fun i y hi hy => ?_⟩ (by repeat (first | exact K.Sub.nil _ | refine K.Sub.cons rfl ?_)) rfl rfl (by omega)
      by_cases hij : i < j
      · exact hyes i y hij hy
      · obtain rfl : i = j := by omega
        rw [hxi] at hy; cases hy; exact e1
    · obtain rfl : j = rows.length := by omega
      have hall : st.imgs.all (fun x => mayQ x.to) = true := by
        rw [List.all_eq_true]
        intro x hx
        obtain ⟨i, hi⟩ := List.mem_iff_getElem?.1 hx
        have := (List.getElem?_eq_some_iff.1 hi).1
        exact hyes i x (by omega) hi
      rw [if_pos hall] at hplq
      (repeat' (first | refine X.rq ?_ | (refine X.rc ?_ ?_ <;> intro hc <;> first | (exfalso; omega) | skip)))
      refine K.a_thenB (K.WB.of ?_)
      (repeat' (first | refine X.rq ?_ | (refine X.rc ?_ ?_ <;> intro hc <;> first | (exfalso; omega) | skip)))
      refine K.AT.sel [3, 3, 3, 3] rfl (K.AT.marks1 ?_)
      refine K.doneMX (Ds := [D]) (by first | exact Or.inl rfl | exact Or.inr rfl) rfl (List.Perm.refl _) (vs := [.pointer (some ⟨Bw, 0, none⟩)]) (.tmp rfl .nil) hle (D := []) (H' := [_, _]) rfl ⟨st, hplq, Bw, a, cap, rows, fv5, rfl, rfl, hM2, hM3⟩
  · refine K.b_seq (K.WB.of ?_)
    refine K.WC.nilBuf 58 5 ?_
    (repeat' (first | refine X.rq ?_ | (refine X.rc ?_ ?_ <;> intro hc <;> first | (exfalso; omega) | skip)))
    refine K.l_call (Fx.cal rfl) rfl (Backward h1 _ path hv1) (K.pp [] rfl) rfl ?_
    rintro u h' H' - ⟨e, BB, rfl, rfl⟩
    obtain rfl := e.symm
    simp only [List.set_cons_zero, List.set_cons_succ, List.eraseIdx_cons_zero, List.eraseIdx_cons_succ, List.cons_append, List.nil_append]
    (repeat' (first | refine X.rq ?_ | (refine X.rc ?_ ?_ <;> intro hc <;> first | (exfalso; omega) | skip)))
    refine K.a_thenB (K.b_block ?_)
    refine K.WB.closed (K.pp [6, 1, 3, 3, 3, 3] rfl) ?_
    refine K.c_rangeX (h := h1) (Pre := [blk BB 30 [.slice ao path.length ca]]) (F := blk B6 9 [txt s] :: blk B11 55 (cP p0 (.slice ao9 p0.cells.length ca9)) :: F)
      (fun q hq A => ∃ M, A = all (plA B4 B5 B6 B9 B10 Bw gv (.slice ao path.length ca) s M) ∧ PlG hq M ∧ InvS path fs.length q.length M.st ∧ planL G path.length (backQ path) (newS s fs) = planL G path.length ((backQ path).drop q.length) M.st)
      (fun c q hq A => c = .exit 0 ∧ ∃ M, A = all (plA B4 B5 B6 B9 B10 Bw gv (.slice ao path.length ca) s M) ∧ PlG hq M ∧ M.st.imgs.length ≤ 25 ∧ planL G path.length (backQ path) (newS s fs) = .ok M.st)
      (fun v q hq A => (∃ M, A = all (plA B4 B5 B6 B9 B10 Bw gv (.slice ao path.length ca) s M)) ∧ ∃ e, v = failV e ∧ planL G path.length (backQ path) (newS s fs) = .error e)
      (fun x args => [(12, .int .i64 x.1), (13, uV x.2), (4, .pointer (some ⟨B4, 0, none⟩)), (5, .pointer (some ⟨B5, 0, none⟩)), (9, .pointer (some ⟨B9, 0, none⟩)), (10, .pointer (some ⟨B10, 0, none⟩))])
      (BackI h1 _ path BB hv1 (by omega)) rfl (Fx.cal rfl) (fun h x args ⟨e, _⟩ => by rw [e]; rfl) rfl (fun _ _ _ _ hl ⟨M, a, b, c⟩ => ⟨M, a, b.le hl, c⟩) (fun _ _ _ _ _ hl ⟨e, M, a, b, c⟩ => ⟨e, M, a, b.le hl, c⟩) (fun _ _ _ _ _ _ e => e) (List.Perm.swap _ _ _)
      ⟨⟨newS s fs, none, 0, [], .slice fo fs.length fc, [.bool true, .int .u32 0, .slice aos s.length cas]⟩, rfl, ⟨⟨Nat.zero_lt_succ _, by show s.length ≤ _; omega, aos, cas, rfl, hbv1⟩, ⟨rfl, (fun _ h => by cases h), fun j c x h => by simp at h⟩, hf.le le1⟩, inv_new hs (Nat.le_refl _), rfl⟩ ?_ ?_ ?_ ?_ ?_
    · rintro l x h' args A R hle ⟨rfl, hx2⟩
      refine K.r_seq (K.r_region rfl (fun _ _ x => x) ?_)
      refine K.s_pure (K.p_assign rfl) rfl (K.l_nil (K.a_thenR ?_))
      refine K.r_region rfl (fun _ _ x => x) ?_
      refine K.s_pure (K.p_assign rfl) rfl (K.l_nil (K.a_AP (by repeat (first | exact K.Sub.nil _ | refine K.Sub.cons rfl ?_))))
    · rintro l0 q ⟨i, n⟩ h2 args A R hle ⟨r, hr⟩ ⟨rfl, hn⟩ ⟨⟨st, a, cap, rows, fv5, cc⟩, rfl, ⟨hM1, hM2, hM3⟩, hinv, hpl⟩
      simp only at hM1 hM2 hM3 hinv hpl
      have hcc := hM1
      obtain ⟨hk5, hd5, ao5, ca5, rfl, hb5⟩ := hM1
      obtain ⟨hj, hi, hin, hdr⟩ := back_pre ⟨r, hr⟩
      obtain ⟨p, hq, hk⟩ := hpp _ _ hin
      have hk0 : p.kind = 2 ↔ q.length = 0 := hk.trans (by omega)
      rw [hdr] at hpl
      have hg2 := hg1.le hle
      refine K.WR.open ?_
      unfold plA
      simp only [List.set_cons_zero, List.set_cons_succ, List.eraseIdx_cons_zero, List.eraseIdx_cons_succ, List.cons_append, List.nil_append]
      refine K.r_block (K.r_seq (K.r_region rfl (fun _ _ x => x) ?_))
      (repeat' (first | refine X.rq ?_ | (refine X.rc ?_ ?_ <;> intro hc <;> first | (exfalso; omega) | skip)))
      refine K.l_call (Fx.cal rfl) rfl (PGPageOk h2 gv G _ p hg2 hn hq) (K.pp [] rfl) rfl ?_
      rintro u h3 H' - ⟨e3, rfl, cs, rfl, hpc⟩
      obtain rfl := e3.symm
      have hpc0 := hpc
      obtain ⟨hw, cv, rfl, ef, hsl9, hel9, hcs9⟩ := hpc
      obtain ⟨aoq, caq, rfl⟩ := hsl9.len
      rw [hel9] at hsl9 hpc0 ⊢
      simp only [List.set_cons_zero, List.set_cons_succ, List.eraseIdx_cons_zero, List.eraseIdx_cons_succ, List.cons_append, List.nil_append]
      refine K.l_alloc (Fx.zr rfl) rfl rfl (fun B14 => ?_)
      refine X.stw ?_
      simp only [List.set_cons_zero, List.set_cons_succ, List.eraseIdx_cons_zero, List.eraseIdx_cons_succ, List.cons_append, List.nil_append]
      (repeat' (first | refine X.rq ?_ | (refine X.rc ?_ ?_ <;> intro hc <;> first | (exfalso; omega) | skip)))
      have hgd := page_good hq
      have hdat := good_data hgd
      have hc200 := hinv.c200
      have himg := hinv.imgs
      have hrl := hM2.1
      have hcv9 : CellsV h2 (.slice aoq p.cells.length caq) p.cells := by
        obtain ⟨_, cv, e, hc⟩ := hpc0
        obtain rfl : Value.slice aoq p.cells.length caq = cv := by simpa [cP] using e
        exact hc
      have hjm : st.imgs.length ≤ 21 := by omega
      refine K.a_thenR (K.r_seq (K.r_seq (K.r_region rfl (fun _ _ x => x) ?_)))
      (repeat' (first | refine X.rq ?_ | (refine X.rc ?_ ?_ <;> intro hc <;> first | (exfalso; omega) | skip)))
      refine K.l_callV (Fx.cal rfl) rfl (Fits h2 _ p _ st.c hpc0 hcc (good_small hgd) (by omega)) (K.pp [] rfl) rfl rfl ?_
      simp only [List.set_cons_zero, List.set_cons_succ, List.eraseIdx_cons_zero, List.eraseIdx_cons_succ, List.cons_append, List.nil_append]
      (repeat' (first | refine X.rq ?_ | (refine X.rc ?_ ?_ <;> intro hc <;> first | (exfalso; omega) | skip)))
      refine K.a_thenR (K.r_cond rfl (fun hb => ?_) (fun hb => ?_))
      · rw [pl_fits hq hb] at hpl
        refine K.r_seq (K.r_seq (K.r_region rfl (fun _ _ x => x) ?_))
        (repeat' (first | refine X.rq ?_ | (refine X.rc ?_ ?_ <;> intro hc <;> first | (exfalso; omega) | skip)))
        refine K.a_thenR (K.r_condD rfl (fun hc => ?_) (fun hc => ?_))
        · have hk3 : p.kind = 3 := by
            rcases hdat.1 with h | h
            · have := hk.1 h; omega
            · exact h
          refine K.r_seq (K.r_region rfl (fun _ _ x => x) ?_)
          (repeat' (first | refine X.rq ?_ | (refine X.rc ?_ ?_ <;> intro hc <;> first | (exfalso; omega) | skip)))
          refine K.l_call (Fx.cal rfl) rfl (InsertN h2 p.kind _ p.cells _ st.c hcv9 hcc (hdat.2.2.2 hk3).2 (by omega) (fun h => (hdat.2.2.2 h).1) (fun _ => hinv.c4 (by omega))) (K.pp [] rfl) rfl ?_
          rintro u h4 H' hle4 ⟨rfl, rv, rfl, hrv⟩
          have hrv2 := hrv
          obtain ⟨ew, hsw, hew, hcsw⟩ := hrv2
          obtain ⟨ar, car, rfl⟩ := hsw.len
          have hcq : PagC h4 (cP { p with cells := insQ p.kind p.cells st.c } (.slice ar ew.length car)) { p with cells := insQ p.kind p.cells st.c } := ⟨⟨hw.kind, hw.lsn, hw.next, by
            show (insQ p.kind p.cells st.c).length ≤ _
            have h1 : (insQ p.kind p.cells st.c).length = p.cells.length + 1 := by
              have := (List.takeWhile_sublist (l := p.cells) (p := fun y => lt8 (keyQ p.kind y) (keyQ p.kind st.c))).length_le
              unfold insQ
              rw [List.length_append, List.length_take, List.length_cons, List.length_drop]
              unfold atQ
              omega
            rw [h1]; omega⟩, _, rfl, hrv⟩
          have hple4 := hle.trans hle4
          simp only [List.set_cons_zero, List.set_cons_succ, List.eraseIdx_cons_zero, List.eraseIdx_cons_succ, List.cons_append, List.nil_append]
          (repeat' (first | refine X.rq ?_ | (refine X.rc ?_ ?_ <;> intro hc <;> first | (exfalso; omega) | skip)))
          refine X.sto ?_
          simp only [List.set_cons_zero, List.set_cons_succ, List.eraseIdx_cons_zero, List.eraseIdx_cons_succ, List.cons_append, List.nil_append]
          (repeat' (first | refine X.rq ?_ | (refine X.rc ?_ ?_ <;> intro hc <;> first | (exfalso; omega) | skip)))
          refine K.a_thenR (K.r_region rfl (fun _ _ x => x) ?_)
          (repeat' (first | refine X.rq ?_ | (refine X.rc ?_ ?_ <;> intro hc <;> first | (exfalso; omega) | skip)))
          refine K.l_call (Fx.cal rfl) rfl (PutW h4 Bw fv5 st.cnt n { p with cells := insQ p.kind p.cells st.c } (.slice ar ew.length car) a cap rows hcq (by omega)) (K.pp [1, 1] rfl) rfl ?_
          rintro u h5 H' - ⟨e5, a', cap', rfl⟩
          obtain rfl := e5.symm
          simp only [List.set_cons_zero, List.set_cons_succ, List.eraseIdx_cons_zero, List.eraseIdx_cons_succ, List.cons_append, List.nil_append]
          (repeat' (first | refine X.rq ?_ | (refine X.rc ?_ ?_ <;> intro hc <;> first | (exfalso; omega) | skip)))
          refine K.a_thenR (K.r_exit (K.a_then_exit (K.a_block_exit_ne rfl ?_)))
          refine K.AT.closed (K.pp [0, 0, 1, 1, 1, 1] rfl) (K.AT.perm (List.Perm.swap _ _ _) (K.AT.drop (K.a_RXexit hle4 ⟨rfl, ⟨lastS path.length st i n p, a', cap', rows ++ [uV n :: cP { p with cells := insQ p.kind p.cells st.c } (.slice ar ew.length car)], fv5, [.bool st.c.used, .int .u32 st.c.killer, .slice ao5 st.c.data.length ca5]⟩, ?_, ?_, ?_, ?_⟩ (List.Perm.refl _))))
          · rw [List.length_append]
            dsimp only [plA, lastS]
            rw [if_pos (show i + 1 < path.length by omega)]
            simp only [List.length_append, List.length_cons, List.length_nil]
          · dsimp only [lastS]
            rw [if_pos (show i + 1 < path.length by omega)]
            exact ⟨hcc.le hle4, (hM2.le hle4).snoc hn hcq, hM3.le hle4⟩
          · dsimp only [lastS]
            rw [if_pos (show i + 1 < path.length by omega)]
            simp only [List.length_append, List.length_cons, List.length_nil]
            omega
          · rw [hpl]
        · refine K.r_skip (K.a_thenR (K.r_exit (K.a_then_exit (K.a_block_exit_ne rfl ?_))))
          refine K.AT.closed (K.pp [1, 1, 1, 1, 1, 1] rfl) (K.AT.perm (List.Perm.swap _ _ _) (K.AT.drop (K.a_RXexit (K.Base.le.refl _) ⟨rfl, ⟨st, a, cap, rows, fv5, [.bool st.c.used, .int .u32 st.c.killer, .slice ao5 st.c.data.length ca5]⟩, rfl, ⟨hcc, hM2, hM3⟩, by dsimp only; omega, ?_⟩ (List.Perm.refl _))))
          rw [hpl, lastS, if_neg (by omega)]
      · have hdv : DivOk p st.c := div_ok hinv hgd hb (fun h3 => by
          rcases Nat.eq_zero_or_pos q.length with h0 | h0
          · have := hk0.2 h0; omega
          · exact h0)
        refine K.r_skip (K.a_thenR (K.r_seq (K.r_region rfl (fun _ _ x => x) ?_)))
        by_cases hi0 : i = 0
        · (repeat' (first | refine X.rq ?_ | (refine X.rc ?_ ?_ <;> intro hc <;> first | (exfalso; omega) | skip)))
          refine K.l_callX (Fx.cal rfl) rfl (Need h2 _ 4) (K.pp [] rfl) rfl ?_ ?_
          · rintro v h' H' hle5 ⟨e5, rfl, e1, rfl⟩
            obtain rfl := e5.symm
            have e1 := of_decide_eq_false e1
            repeat (first | with_reducible refine K.a_then_panic ?_ | with_reducible refine K.a_block_panic ?_)
            rw [pl_full hq hb ⟨hi0, by omega⟩] at hpl
            refine K.AT.closed (K.pp [1, 1, 1, 1, 1, 1] rfl) (K.AT.perm (List.Perm.swap _ _ _) (K.AT.drop (K.a_RXup (K.Base.le.refl _) ⟨⟨⟨st, a, cap, rows, fv5, [.bool st.c.used, .int .u32 st.c.killer, .slice ao5 st.c.data.length ca5]⟩, rfl⟩, 4, rfl, hpl⟩ (List.Perm.refl _))))
          rintro v h' H' - ⟨e5, rfl, e1⟩
          obtain rfl := e5.symm
          have e1 := of_decide_eq_true e1
          rw [pl_step hq hb (by omega)] at hpl
          simp only [List.set_cons_zero, List.set_cons_succ, List.eraseIdx_cons_zero, List.eraseIdx_cons_succ, List.cons_append, List.nil_append]
          (repeat' (first | refine X.rq ?_ | (refine X.rc ?_ ?_ <;> intro hc <;> first | (exfalso; omega) | skip)))
          refine K.a_thenR (K.r_region rfl (fun _ _ x => x) ?_)
          (repeat' (first | refine X.rq ?_ | (refine X.rc ?_ ?_ <;> intro hc <;> first | (exfalso; omega) | skip)))
          rw [show decide ((i : Int) = 0) = decide (i = 0) from decide_eq_decide.2 (by omega)]
          refine K.l_call (Fx.cal rfl) rfl (Divide h2 Bw n p (.slice aoq p.cells.length caq) _ st.c (decide (i = 0)) a cap rows st.imgs fv5 st.fs st.cnt hpc0 hcc hdv hn hM2 (by omega) hM3 (by have := hinv.fs; omega) (by have := hinv.cnt; omega)) (K.pp [1, 1] rfl) rfl ?_
          rintro u h4 H' hle4 ⟨a', cap', rows', fv', cs', rfl, hcc', hfs', hrow', rfl⟩
          have hcc2 := hcc'
          obtain ⟨hk6, hd6, ao6, ca6, rfl, hb6⟩ := hcc2
          simp only [List.set_cons_zero, List.set_cons_succ, List.eraseIdx_cons_zero, List.eraseIdx_cons_succ, List.cons_append, List.nil_append]
          (repeat' (first | refine X.rq ?_ | (refine X.rc ?_ ?_ <;> intro hc <;> first | (exfalso; omega) | skip)))
          refine X.stw ?_
          simp only [List.set_cons_zero, List.set_cons_succ, List.eraseIdx_cons_zero, List.eraseIdx_cons_succ, List.cons_append, List.nil_append]
          (repeat' (first | refine X.rq ?_ | (refine X.rc ?_ ?_ <;> intro hc <;> first | (exfalso; omega) | skip)))
          refine K.AT.closed (K.pp [0, 0, 1, 1, 1, 1] rfl) (K.AT.perm (List.Perm.swap _ _ _) (K.AT.drop (K.a_RX hle4 ⟨⟨stepS st i n p, a', cap', rows', fv', [.bool (upQ (entQ p st.c) (frQ (decide (i = 0)) st.fs)).used, .int .u32 (upQ (entQ p st.c) (frQ (decide (i = 0)) st.fs)).killer, .slice ao6 (upQ (entQ p st.c) (frQ (decide (i = 0)) st.fs)).data.length ca6]⟩, rfl, ⟨hcc', hrow', hfs'⟩, ?_, ?_⟩ (List.Perm.refl _))))
          · rw [List.length_append]
            exact inv_step hinv hdv (fun h2 => hk0.1 h2)
          · rw [List.length_append]
            exact hpl
        · (repeat' (first | refine X.rq ?_ | (refine X.rc ?_ ?_ <;> intro hc <;> first | (exfalso; omega) | skip)))
          refine K.l_callX (Fx.cal rfl) rfl (Need h2 _ 4) (K.pp [] rfl) rfl ?_ ?_
          · rintro v h' H' hle5 ⟨e5, rfl, e1, rfl⟩
            cases e1
          rintro v h' H' - ⟨e5, rfl, e1⟩
          obtain rfl := e5.symm
          rw [pl_step hq hb (fun h => hi0 h.1)] at hpl
          simp only [List.set_cons_zero, List.set_cons_succ, List.eraseIdx_cons_zero, List.eraseIdx_cons_succ, List.cons_append, List.nil_append]
          (repeat' (first | refine X.rq ?_ | (refine X.rc ?_ ?_ <;> intro hc <;> first | (exfalso; omega) | skip)))
          refine K.a_thenR (K.r_region rfl (fun _ _ x => x) ?_)
          (repeat' (first | refine X.rq ?_ | (refine X.rc ?_ ?_ <;> intro hc <;> first | (exfalso; omega) | skip)))
          rw [show decide ((i : Int) = 0) = decide (i = 0) from decide_eq_decide.2 (by omega)]
          refine K.l_call (Fx.cal rfl) rfl (Divide h2 Bw n p (.slice aoq p.cells.length caq) _ st.c (decide (i = 0)) a cap rows st.imgs fv5 st.fs st.cnt hpc0 hcc hdv hn hM2 (by omega) hM3 (by have := hinv.fs; omega) (by have := hinv.cnt; omega)) (K.pp [1, 1] rfl) rfl ?_
          rintro u h4 H' hle4 ⟨a', cap', rows', fv', cs', rfl, hcc', hfs', hrow', rfl⟩
          have hcc2 := hcc'
          obtain ⟨hk6, hd6, ao6, ca6, rfl, hb6⟩ := hcc2
          simp only [List.set_cons_zero, List.set_cons_succ, List.eraseIdx_cons_zero, List.eraseIdx_cons_succ, List.cons_append, List.nil_append]
          (repeat' (first | refine X.rq ?_ | (refine X.rc ?_ ?_ <;> intro hc <;> first | (exfalso; omega) | skip)))
          refine X.stw ?_
          simp only [List.set_cons_zero, List.set_cons_succ, List.eraseIdx_cons_zero, List.eraseIdx_cons_succ, List.cons_append, List.nil_append]
          (repeat' (first | refine X.rq ?_ | (refine X.rc ?_ ?_ <;> intro hc <;> first | (exfalso; omega) | skip)))
          refine K.AT.closed (K.pp [0, 0, 1, 1, 1, 1] rfl) (K.AT.perm (List.Perm.swap _ _ _) (K.AT.drop (K.a_RX hle4 ⟨⟨stepS st i n p, a', cap', rows', fv', [.bool (upQ (entQ p st.c) (frQ (decide (i = 0)) st.fs)).used, .int .u32 (upQ (entQ p st.c) (frQ (decide (i = 0)) st.fs)).killer, .slice ao6 (upQ (entQ p st.c) (frQ (decide (i = 0)) st.fs)).data.length ca6]⟩, rfl, ⟨hcc', hrow', hfs'⟩, ?_, ?_⟩ (List.Perm.refl _))))
          · rw [List.length_append]
            exact inv_step hinv hdv (fun h2 => hk0.1 h2)
          · rw [List.length_append]
            exact hpl
    · rintro D h2 A' hle ⟨M, rfl, hM, hinv, hpl⟩
      have himg := hinv.imgs
      rw [back_len] at himg
      rw [List.drop_of_length_le (Nat.le_refl _)] at hpl
      refine K.AT.perm (K.pp [2] rfl) (K.AT.open ?_)
      refine K.a_block ?_
      refine K.AT.sel [7, 7, 7] rfl ?_
      exact K.a_joinN hKJ ⟨D, h2, M⟩ ⟨le1.trans hle, hM, by dsimp only; omega, hpl⟩ rfl (by repeat (first | exact K.Sub.nil _ | refine K.Sub.cons rfl ?_)) rfl (K.pp1 6 rfl)
    · rintro D c q h2 A' hle hpref ⟨rfl, M, rfl, hM, himg, hpl⟩
      refine K.WC.perm (K.pp [2] rfl) (K.WC.open ?_)
      refine K.c_exit (K.a_block_exit ?_)
      refine K.AT.sel [7, 7, 7] rfl ?_
      exact K.a_joinN hKJ ⟨D, h2, M⟩ ⟨le1.trans hle, hM, himg, hpl⟩ rfl (by repeat (first | exact K.Sub.nil _ | refine K.Sub.cons rfl ?_)) rfl (K.pp1 6 rfl)
    · rintro D v q h2 A' hle hpref ⟨⟨M, rfl⟩, e, rfl, he⟩
      repeat (first | with_reducible refine K.a_then_panic ?_ | with_reducible refine K.a_block_panic ?_)
      refine K.AT.marks1 (K.upMX (Ds := [D]) rfl (List.Perm.refl _) (le1.trans hle) (D := [_, _, _, _]) (H' := []) rfl ⟨rfl, e, rfl, ?_⟩)
      rw [hplq, he]
end Go.Proofs.Ytahdbncfegedjaa.Nd
