/-
  A table dropped, an index dropped: the code's. Conditions: each theorem's own.
-/
import Derived.Test.YtdjacjhojbkgjaaGreatQ34
namespace Go.Proofs.YtdjacjhojbkgjaaGreat.Ct
open Go Go.K Go.Proofs Go.Proofs.YtdjacjhojbkgjaaGreat Go.Proofs.YtdjacjhojbkgjaaGreat.Rw
set_option linter.unusedVariables false
set_option linter.unusedSimpArgs false
set_option maxRecDepth 10000

theorem DropT1 (h : Base) (B : Nat) (t : PTab) (x : PTab) (c cc : List Value) (hcc : TabC h t cc) (hc : TabC h x c) : TrV Tryz.prog 34 [.agg c.toArray, .pointer (some ⟨B, 0, none⟩)] h [blk B 37 cc] (.bool (decide (x.id ≠ t.id))) [blk B 37 cc] := by
  obtain ⟨v, rfl, hv⟩ := hc
  obtain ⟨av, cv, rfl⟩ := hv.len
  obtain ⟨v2, rfl, hv2⟩ := hcc
  refine K.enter Tryz.func34 rfl (Nat.le_of_ble_eq_true rfl) (fun F => ?_)
  simp only [List.nil_append, List.cons_append]
  have hdd : decide (x.id ≠ t.id) = decide ((x.id : Int) ≠ (t.id : Int)) := by rw [decide_eq_decide]; omega
  rw [hdd]
  (repeat' (first | refine X.rq ?_ | (refine X.rc ?_ ?_ <;> intro hc <;> first | (exfalso; omega) | skip)))
  refine K.l_box rfl rfl rfl (fun B2 => ?_)
  (repeat' (first | refine X.rq ?_ | (refine X.rc ?_ ?_ <;> intro hc <;> first | (exfalso; omega) | skip)))
  refine K.AT.sel [0] rfl ?_
  refine K.done (by first | exact Or.inl rfl | exact Or.inr rfl) rfl (by first | exact K.Base.le.refl _ | assumption) (H' := [_]) rfl ⟨rfl, rfl, rfl⟩
theorem DropT2 (h : Base) (B : Nat) (t : PTab) (x : PIdx) (c cc : List Value) (hcc : TabC h t cc) (hc : IdxC h x c) : TrV Tryz.prog 35 [.agg c.toArray, .pointer (some ⟨B, 0, none⟩)] h [blk B 37 cc] (.bool (decide (x.table ≠ t.id))) [blk B 37 cc] := by
  obtain ⟨v, rfl, hv⟩ := hc
  obtain ⟨av, cv, rfl⟩ := hv.len
  obtain ⟨v2, rfl, hv2⟩ := hcc
  refine K.enter Tryz.func35 rfl (Nat.le_of_ble_eq_true rfl) (fun F => ?_)
  simp only [List.nil_append, List.cons_append]
  have hdd : decide (x.table ≠ t.id) = decide ((x.table : Int) ≠ (t.id : Int)) := by rw [decide_eq_decide]; omega
  rw [hdd]
  (repeat' (first | refine X.rq ?_ | (refine X.rc ?_ ?_ <;> intro hc <;> first | (exfalso; omega) | skip)))
  refine K.l_box rfl rfl rfl (fun B2 => ?_)
  (repeat' (first | refine X.rq ?_ | (refine X.rc ?_ ?_ <;> intro hc <;> first | (exfalso; omega) | skip)))
  refine K.AT.sel [0] rfl ?_
  refine K.done (by first | exact Or.inl rfl | exact Or.inr rfl) rfl (by first | exact K.Base.le.refl _ | assumption) (H' := [_]) rfl ⟨rfl, rfl, rfl⟩
theorem DropX1 (h : Base) (B : Nat) (t : PIdx) (x : PIdx) (c cc : List Value) (hcc : IdxC h t cc) (hc : IdxC h x c) : TrV Tryz.prog 36 [.agg c.toArray, .pointer (some ⟨B, 0, none⟩)] h [blk B 43 cc] (.bool (decide (x.id ≠ t.id))) [blk B 43 cc] := by
  obtain ⟨v, rfl, hv⟩ := hc
  obtain ⟨av, cv, rfl⟩ := hv.len
  obtain ⟨v2, rfl, hv2⟩ := hcc
  refine K.enter Tryz.func36 rfl (Nat.le_of_ble_eq_true rfl) (fun F => ?_)
  simp only [List.nil_append, List.cons_append]
  have hdd : decide (x.id ≠ t.id) = decide ((x.id : Int) ≠ (t.id : Int)) := by rw [decide_eq_decide]; omega
  rw [hdd]
  (repeat' (first | refine X.rq ?_ | (refine X.rc ?_ ?_ <;> intro hc <;> first | (exfalso; omega) | skip)))
  refine K.l_box rfl rfl rfl (fun B2 => ?_)
  (repeat' (first | refine X.rq ?_ | (refine X.rc ?_ ?_ <;> intro hc <;> first | (exfalso; omega) | skip)))
  refine K.AT.sel [0] rfl ?_
  refine K.done (by first | exact Or.inl rfl | exact Or.inr rfl) rfl (by first | exact K.Base.le.refl _ | assumption) (H' := [_]) rfl ⟨rfl, rfl, rfl⟩
theorem TrV.frame {P : Program} {f : FuncId} {args : List Value} {h : Base} {v : Value} {R : List Asrt} (ht : TrV P f args h [] v []) : TrV P f args h R v R := fun F w ok => by
  refine Calls.mono (ht (R ++ F) w ok) ?_
  rintro e w' ⟨u, he, h', H', hle, ⟨rfl, rfl, rfl⟩, ok'⟩
  exact ⟨_, he, _, R, hle, ⟨rfl, rfl, rfl⟩, ok'⟩
theorem AT.freezeRow1 {P : Program} {n : NN} {Q : Exit → Act → World → Prop} {E : Env} {h : Base} {H : List Asrt} {q : Exit} {T sz m : Nat} {a : Option Nat} {cap : Nat} {es : List (List Value)} (hm : m = es.length) (hz : ∀ e ∈ es, e.length = sz) (hk : ∀ h', h.le h' → SL h' sz (bufV a m cap) es → AT P n Q q E h' H) : AT P n Q q E h (bufA T sz a m cap es.flatten :: H) := AT.freezeRowN rfl hm hz hk
set_option maxHeartbeats 4000000 in
theorem DropTable (h : Base) (cs : List Value) (s : PSch) (name : ByteArray) (hs : SchC h s cs) (hw : wfS s) :
    Tr Tryz.prog 11 [.agg cs.toArray, .string name] h [] (fun u h' H' => H' = [] ∧ ∃ cs', u = .tuple #[.agg cs'.toArray, eV (dropTabQ s name).2] ∧ SchF h h' (dropTabQ s name).1 cs') := by
  have hs' := hs
  obtain ⟨vt, vi, ts, is, rfl, hvt, ht, hvi, hi⟩ := hs
  obtain ⟨ao, ca, rfl⟩ := hvt.len
  obtain ⟨ai, ci, rfl⟩ := hvi.len
  refine K.enter Tryz.func11 rfl (Nat.le_of_ble_eq_true rfl) (fun F => ?_)
  simp only [List.nil_append, List.cons_append]
  (repeat' (first | refine X.rq ?_ | (refine X.rc ?_ ?_ <;> intro hc <;> first | (exfalso; omega) | skip)))
  refine K.l_box rfl rfl rfl (fun BS => ?_)
  refine K.l_alloc (Fx.zr rfl) rfl rfl (fun BR => ?_)
  have bad : ∀ (e : Int) (hb : Base) (E : Env) (H2 : List Asrt), dropTabQ s name = (zSch, e) → h.le hb → K.lk E 4 = some (.pointer (some ⟨BR, 0, none⟩)) → K.lk E 5 = some (eV e) →
      AT Tryz.prog Tryz.f11.ntmps (K.post Tryz.prog Tryz.f11 fun v w' => ∃ h' H', h.le h' ∧ (H' = [] ∧ ∃ cs', v = .tuple #[.agg cs'.toArray, eV (dropTabQ s name).2] ∧ SchF h h' (dropTabQ s name).1 cs') ∧ Ok h' (H' ++ F) w') .ret E hb (blk BR 25 [.slice none 0 0, .slice none 0 0] :: (H2 ++ F)) := fun e hb E H2 hq hle hE hE3 => by
    rw [hq]
    exact K.doneC (.inl rfl) (.cell hE (Fx.agg rfl) (Fx.sz rfl) (K.cels_own (pre := []) (post := []) 0 rfl rfl) (.tmp hE3 .nil)) hle (vs := [.agg [Value.slice none 0 0, Value.slice none 0 0].toArray, eV e]) (D := blk BR 25 [.slice none 0 0, .slice none 0 0] :: H2) (H' := []) rfl ⟨rfl, _, rfl, zSch_f h hb⟩
  (repeat' (first | refine X.rq ?_ | (refine X.rc ?_ ?_ <;> intro hc <;> first | (exfalso; omega) | skip)))
  refine K.l_call (Fx.cal rfl) rfl (MayS h _ s hs' hw) (K.pp [] rfl) rfl ?_
  rintro u h1 H' hle1 ⟨rfl, rfl⟩
  simp only [List.set_cons_zero, List.set_cons_succ, List.eraseIdx_cons_zero, List.eraseIdx_cons_succ, List.cons_append, List.nil_append]
  cases hm : mayS s with
  | false =>
    have hq : dropTabQ s name = (zSch, 1) := by rw [dropTabQ, if_pos hm]
    (repeat' (first | refine X.rq ?_ | (refine X.rc ?_ ?_ <;> intro hc <;> first | (exfalso; omega) | skip)))
    refine X.stw ?_
    simp only [List.set_cons_zero, List.set_cons_succ, List.eraseIdx_cons_zero, List.eraseIdx_cons_succ, List.cons_append, List.nil_append]
    (repeat' (first | refine X.rq ?_ | (refine X.rc ?_ ?_ <;> intro hc <;> first | (exfalso; omega) | skip)))
    exact bad 1 h1 _ [_] hq hle1 rfl rfl
  | true =>
    have hq0 : dropTabQ s name = match s.tabs.find? fun t => decide (t.name = name) with
        | none => (zSch, 200)
        | some t => (⟨s.tabs.filter fun u => decide (u.id ≠ t.id), s.idxs.filter fun x => decide (x.table ≠ t.id)⟩, 0) := by rw [dropTabQ, if_neg (by rw [hm]; decide)]; rfl
    (repeat' (first | refine X.rq ?_ | (refine X.rc ?_ ?_ <;> intro hc <;> first | (exfalso; omega) | skip)))
    refine K.l_call (Fx.cal rfl) rfl (Named h1 _ s name (hs'.le hle1) hw) (K.pp [] rfl) rfl ?_
    rintro u h3 H' hle3 ⟨rfl, v3, rfl, hv3, _⟩
    have hle3 := hle1.trans hle3
    simp only [List.set_cons_zero, List.set_cons_succ, List.eraseIdx_cons_zero, List.eraseIdx_cons_succ, List.cons_append, List.nil_append]
    generalize (s.tabs.find? fun t => decide (t.name = name)) = o at hq0 hv3 ⊢
    obtain ⟨a3, c3, rfl⟩ := hv3.len
    (repeat' (first | refine X.rq ?_ | (refine X.rc ?_ ?_ <;> intro hc <;> first | (exfalso; omega) | skip)))
    refine K.l_alloc (Fx.zr rfl) rfl rfl (fun B11 => ?_)
    refine X.stw ?_
    simp only [List.set_cons_zero, List.set_cons_succ, List.eraseIdx_cons_zero, List.eraseIdx_cons_succ, List.cons_append, List.nil_append]
    cases o with
    | none =>
      simp only at hq0
      simp only [Option.isSome_none]
      (repeat' (first | refine X.rq ?_ | (refine X.rc ?_ ?_ <;> intro hc <;> first | (exfalso; omega) | skip)))
      refine X.stw ?_
      simp only [List.set_cons_zero, List.set_cons_succ, List.eraseIdx_cons_zero, List.eraseIdx_cons_succ, List.cons_append, List.nil_append]
      (repeat' (first | refine X.rq ?_ | (refine X.rc ?_ ?_ <;> intro hc <;> first | (exfalso; omega) | skip)))
      refine K.AT.perm (K.pp [1] rfl) ?_
      simp only [List.set_cons_zero, List.set_cons_succ, List.eraseIdx_cons_zero, List.eraseIdx_cons_succ, List.cons_append, List.nil_append]
      exact bad 200 h3 _ [_, _] hq0 hle3 rfl rfl
    | some t =>
      simp only at hq0
      simp only [Option.isSome_some, Option.getD_some]
      simp only [Option.getD_some] at hv3
      have htc : TabC h3 t _ := ⟨_, rfl, hv3⟩
      (repeat' (first | refine X.rq ?_ | (refine X.rc ?_ ?_ <;> intro hc <;> first | (exfalso; omega) | skip)))
      refine K.s_pure (K.p_makeFunc rfl) rfl (K.s_pure (K.p_makeFunc rfl) rfl ?_)
      refine K.l_call (Fx.cal rfl) rfl (Own h3 [blk B11 37 _] 34 35 [.pointer (some ⟨B11, 0, none⟩)] [.pointer (some ⟨B11, 0, none⟩)] (Fx.cal rfl) (Fx.cal rfl) _ s (fun u => decide (u.id ≠ t.id)) (fun x => decide (x.table ≠ t.id)) (hs'.le hle3) hw (fun h1 x c hl hc => DropT1 h1 B11 t x c _ (htc.le hl) hc) (fun h1 x c hl hc => DropT2 h1 B11 t x c _ (htc.le hl) hc)) (K.pp [0] rfl) rfl ?_
      rintro u h4 H' hle4 ⟨oa, ok, oa2, ok2, es, es2, rfl, hes, hes2, rfl⟩
      simp only [List.set_cons_zero, List.set_cons_succ, List.eraseIdx_cons_zero, List.eraseIdx_cons_succ, List.cons_append, List.nil_append]
      (repeat' (first | refine X.rq ?_ | (refine X.rc ?_ ?_ <;> intro hc <;> first | (exfalso; omega) | skip)))
      refine X.stw ?_
      simp only [List.set_cons_zero, List.set_cons_succ, List.eraseIdx_cons_zero, List.eraseIdx_cons_succ, List.cons_append, List.nil_append]
      (repeat' (first | refine X.rq ?_ | (refine X.rc ?_ ?_ <;> intro hc <;> first | (exfalso; omega) | skip)))
      rw [hq0]
      refine AT.freezeRow1 hes.len.symm (Each.all hes fun x c hc => hc.four) (fun h5 hle5 hs5 => ?_)
      refine AT.freezeRow1 hes2.len.symm (Each.all hes2 fun x c hc => hc.six) (fun h6 hle6 hs6 => ?_)
      refine K.doneC (.inl rfl) (.cell rfl (Fx.agg rfl) (Fx.sz rfl) (K.cels_own (pre := []) (post := []) 1 rfl rfl) (.tmp rfl .nil)) (hle3.trans (hle4.trans (hle5.trans hle6))) (vs := [.agg [bufV oa _ ok, bufV oa2 _ ok2].toArray, eV 0]) (D := [_, _, _]) (H' := []) rfl ⟨rfl, _, rfl, _, _, _, _, rfl, hs5.le hle6, hes.mono fun x c hc => hc.le hle3 (hle5.trans hle6), hs6, hes2.mono fun x c hc => hc.le hle3 (hle5.trans hle6)⟩
set_option maxHeartbeats 4000000 in
theorem DropIndex (h : Base) (cs : List Value) (s : PSch) (name : ByteArray) (hs : SchC h s cs) (hw : wfS s) :
    Tr Tryz.prog 12 [.agg cs.toArray, .string name] h [] (fun u h' H' => H' = [] ∧ ∃ cs', u = .tuple #[.agg cs'.toArray, eV (dropIdxQ s name).2] ∧ SchF h h' (dropIdxQ s name).1 cs') := by
  have hs' := hs
  obtain ⟨vt, vi, ts, is, rfl, hvt, ht, hvi, hi⟩ := hs
  obtain ⟨ao, ca, rfl⟩ := hvt.len
  obtain ⟨ai, ci, rfl⟩ := hvi.len
  refine K.enter Tryz.func12 rfl (Nat.le_of_ble_eq_true rfl) (fun F => ?_)
  simp only [List.nil_append, List.cons_append]
  (repeat' (first | refine X.rq ?_ | (refine X.rc ?_ ?_ <;> intro hc <;> first | (exfalso; omega) | skip)))
  refine K.l_box rfl rfl rfl (fun BS => ?_)
  refine K.l_alloc (Fx.zr rfl) rfl rfl (fun BR => ?_)
  have bad : ∀ (e : Int) (hb : Base) (E : Env) (H2 : List Asrt), dropIdxQ s name = (zSch, e) → h.le hb → K.lk E 4 = some (.pointer (some ⟨BR, 0, none⟩)) → K.lk E 5 = some (eV e) →
      AT Tryz.prog Tryz.f12.ntmps (K.post Tryz.prog Tryz.f12 fun v w' => ∃ h' H', h.le h' ∧ (H' = [] ∧ ∃ cs', v = .tuple #[.agg cs'.toArray, eV (dropIdxQ s name).2] ∧ SchF h h' (dropIdxQ s name).1 cs') ∧ Ok h' (H' ++ F) w') .ret E hb (blk BR 25 [.slice none 0 0, .slice none 0 0] :: (H2 ++ F)) := fun e hb E H2 hq hle hE hE3 => by
    rw [hq]
    exact K.doneC (.inl rfl) (.cell hE (Fx.agg rfl) (Fx.sz rfl) (K.cels_own (pre := []) (post := []) 0 rfl rfl) (.tmp hE3 .nil)) hle (vs := [.agg [Value.slice none 0 0, Value.slice none 0 0].toArray, eV e]) (D := blk BR 25 [.slice none 0 0, .slice none 0 0] :: H2) (H' := []) rfl ⟨rfl, _, rfl, zSch_f h hb⟩
  (repeat' (first | refine X.rq ?_ | (refine X.rc ?_ ?_ <;> intro hc <;> first | (exfalso; omega) | skip)))
  refine K.l_call (Fx.cal rfl) rfl (MayS h _ s hs' hw) (K.pp [] rfl) rfl ?_
  rintro u h1 H' hle1 ⟨rfl, rfl⟩
  simp only [List.set_cons_zero, List.set_cons_succ, List.eraseIdx_cons_zero, List.eraseIdx_cons_succ, List.cons_append, List.nil_append]
  cases hm : mayS s with
  | false =>
    have hq : dropIdxQ s name = (zSch, 1) := by rw [dropIdxQ, if_pos hm]
    (repeat' (first | refine X.rq ?_ | (refine X.rc ?_ ?_ <;> intro hc <;> first | (exfalso; omega) | skip)))
    refine X.stw ?_
    simp only [List.set_cons_zero, List.set_cons_succ, List.eraseIdx_cons_zero, List.eraseIdx_cons_succ, List.cons_append, List.nil_append]
    (repeat' (first | refine X.rq ?_ | (refine X.rc ?_ ?_ <;> intro hc <;> first | (exfalso; omega) | skip)))
    exact bad 1 h1 _ [_] hq hle1 rfl rfl
  | true =>
    have hq0 : dropIdxQ s name = match s.idxs.find? fun t => decide (t.name = name) with
        | none => (zSch, 202)
        | some t => (⟨s.tabs, s.idxs.filter fun y => decide (y.id ≠ t.id)⟩, 0) := by rw [dropIdxQ, if_neg (by rw [hm]; decide)]; rfl
    (repeat' (first | refine X.rq ?_ | (refine X.rc ?_ ?_ <;> intro hc <;> first | (exfalso; omega) | skip)))
    refine K.l_call (Fx.cal rfl) rfl (Index h1 _ s name (hs'.le hle1) hw) (K.pp [] rfl) rfl ?_
    rintro u h3 H' hle3 ⟨rfl, v3, rfl, hv3, _⟩
    have hle3 := hle1.trans hle3
    simp only [List.set_cons_zero, List.set_cons_succ, List.eraseIdx_cons_zero, List.eraseIdx_cons_succ, List.cons_append, List.nil_append]
    generalize (s.idxs.find? fun t => decide (t.name = name)) = o at hq0 hv3 ⊢
    obtain ⟨a3, c3, rfl⟩ := hv3.len
    (repeat' (first | refine X.rq ?_ | (refine X.rc ?_ ?_ <;> intro hc <;> first | (exfalso; omega) | skip)))
    refine K.l_alloc (Fx.zr rfl) rfl rfl (fun B11 => ?_)
    refine X.stw ?_
    simp only [List.set_cons_zero, List.set_cons_succ, List.eraseIdx_cons_zero, List.eraseIdx_cons_succ, List.cons_append, List.nil_append]
    cases o with
    | none =>
      simp only at hq0
      simp only [Option.isSome_none]
      (repeat' (first | refine X.rq ?_ | (refine X.rc ?_ ?_ <;> intro hc <;> first | (exfalso; omega) | skip)))
      refine X.stw ?_
      simp only [List.set_cons_zero, List.set_cons_succ, List.eraseIdx_cons_zero, List.eraseIdx_cons_succ, List.cons_append, List.nil_append]
      (repeat' (first | refine X.rq ?_ | (refine X.rc ?_ ?_ <;> intro hc <;> first | (exfalso; omega) | skip)))
      refine K.AT.perm (K.pp [1] rfl) ?_
      simp only [List.set_cons_zero, List.set_cons_succ, List.eraseIdx_cons_zero, List.eraseIdx_cons_succ, List.cons_append, List.nil_append]
      exact bad 202 h3 _ [_, _] hq0 hle3 rfl rfl
    | some t =>
      simp only at hq0
      simp only [Option.isSome_some, Option.getD_some]
      simp only [Option.getD_some] at hv3
      have htc : IdxC h3 t _ := ⟨_, rfl, hv3⟩
      (repeat' (first | refine X.rq ?_ | (refine X.rc ?_ ?_ <;> intro hc <;> first | (exfalso; omega) | skip)))
      refine K.s_pure (K.p_makeFunc rfl) rfl ?_
      refine K.l_call (Fx.cal rfl) rfl (Own h3 [blk B11 43 _] 29 36 [] [.pointer (some ⟨B11, 0, none⟩)] (Fx.cal rfl) (Fx.cal rfl) _ s (fun _ => true) (fun x => decide (x.id ≠ t.id)) (hs'.le hle3) hw (fun h1 x c hl hc => TrV.frame (AnyTable h1 x c hc)) (fun h1 x c hl hc => DropX1 h1 B11 t x c _ (htc.le hl) hc)) (K.pp [0] rfl) rfl ?_
      rintro u h4 H' hle4 ⟨oa, ok, oa2, ok2, es, es2, rfl, hes, hes2, rfl⟩
      rw [filter_all] at hes
      simp only [filter_all]
      simp only [List.set_cons_zero, List.set_cons_succ, List.eraseIdx_cons_zero, List.eraseIdx_cons_succ, List.cons_append, List.nil_append]
      (repeat' (first | refine X.rq ?_ | (refine X.rc ?_ ?_ <;> intro hc <;> first | (exfalso; omega) | skip)))
      refine X.stw ?_
      simp only [List.set_cons_zero, List.set_cons_succ, List.eraseIdx_cons_zero, List.eraseIdx_cons_succ, List.cons_append, List.nil_append]
      (repeat' (first | refine X.rq ?_ | (refine X.rc ?_ ?_ <;> intro hc <;> first | (exfalso; omega) | skip)))
      rw [hq0]
      refine AT.freezeRow1 hes.len.symm (Each.all hes fun x c hc => hc.four) (fun h5 hle5 hs5 => ?_)
      refine AT.freezeRow1 hes2.len.symm (Each.all hes2 fun x c hc => hc.six) (fun h6 hle6 hs6 => ?_)
      refine K.doneC (.inl rfl) (.cell rfl (Fx.agg rfl) (Fx.sz rfl) (K.cels_own (pre := []) (post := []) 1 rfl rfl) (.tmp rfl .nil)) (hle3.trans (hle4.trans (hle5.trans hle6))) (vs := [.agg [bufV oa _ ok, bufV oa2 _ ok2].toArray, eV 0]) (D := [_, _, _]) (H' := []) rfl ⟨rfl, _, rfl, _, _, _, _, rfl, hs5.le hle6, hes.mono fun x c hc => hc.le hle3 (hle5.trans hle6), hs6, hes2.mono fun x c hc => hc.le hle3 (hle5.trans hle6)⟩
end Go.Proofs.YtdjacjhojbkgjaaGreat.Ct
