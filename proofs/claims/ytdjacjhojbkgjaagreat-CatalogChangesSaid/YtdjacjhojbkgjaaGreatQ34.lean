/-
  A table added, a table dropped: the code's. Conditions: each theorem's own.
-/
import Derived.Test.YtdjacjhojbkgjaaGreatQ33
namespace Go.Proofs.YtdjacjhojbkgjaaGreat.Ct
open Go Go.K Go.Proofs Go.Proofs.YtdjacjhojbkgjaaGreat Go.Proofs.YtdjacjhojbkgjaaGreat.Rw
set_option linter.unusedVariables false
set_option linter.unusedSimpArgs false
set_option maxRecDepth 10000

/-! ### What comes of it -/
def lastT (l : List PTab) : Nat := match l.getLast? with
  | some t => t.id
  | none => 0
def lastX (l : List PIdx) : Nat := match l.getLast? with
  | some t => t.id
  | none => 0
def addTabQ (s : PSch) (name : ByteArray) (cols : List Col) (head : Nat) : PSch × Nat × Int :=
  if ¬ (mayS s = true ∧ nameB name.data.toList = true ∧ mayB cols = true ∧ ¬ (head ∈ pagesQ s ∨ head = 0)) then (zSch, 0, 1)
  else if (s.tabs.find? fun t => decide (t.name = name)).isSome then (zSch, 0, 200)
  else if s.tabs.length = 32 ∨ lastT s.tabs = 4294967295 then (zSch, 0, 4)
  else (⟨s.tabs ++ [⟨lastT s.tabs + 1, name, cols, head⟩], s.idxs⟩, lastT s.tabs + 1, 0)
def dropTabQ (s : PSch) (name : ByteArray) : PSch × Int :=
  if mayS s = false then (zSch, 1)
  else match s.tabs.find? fun t => decide (t.name = name) with
    | none => (zSch, 200)
    | some t => (⟨s.tabs.filter fun u => decide (u.id ≠ t.id), s.idxs.filter fun x => decide (x.table ≠ t.id)⟩, 0)
def addIdxQ (s : PSch) (name table : ByteArray) (cols : List Int) (uniq : Bool) (root : Nat) : PSch × Nat × Int :=
  if ¬ (mayS s = true ∧ nameB name.data.toList = true ∧ 0 < cols.length ∧ cols.length ≤ 16 ∧ ¬ (root ∈ pagesQ s ∨ root = 0)) then (zSch, 0, 1)
  else match s.tabs.find? fun t => decide (t.name = table) with
    | none => (zSch, 0, 200)
    | some t => if (s.idxs.find? fun t => decide (t.name = name)).isSome then (zSch, 0, 202)
      else if placesB t.cols.length cols = false then (zSch, 0, 201)
      else if s.idxs.length = 64 ∨ lastX s.idxs = 4294967295 then (zSch, 0, 4)
      else (⟨s.tabs, s.idxs ++ [⟨lastX s.idxs + 1, t.id, name, cols, uniq, root⟩]⟩, lastX s.idxs + 1, 0)
def dropIdxQ (s : PSch) (name : ByteArray) : PSch × Int :=
  if mayS s = false then (zSch, 1)
  else match s.idxs.find? fun t => decide (t.name = name) with
    | none => (zSch, 202)
    | some x => (⟨s.tabs, s.idxs.filter fun y => decide (y.id ≠ x.id)⟩, 0)
def SchF (h0 h : Base) (s : PSch) (cs : List Value) : Prop := ∃ vt vi ts is, cs = [vt, vi] ∧ SL h 4 vt ts ∧ Each (TabF h0 h) ts s.tabs ∧ SL h 6 vi is ∧ Each (IdxF h0 h) is s.idxs
theorem SchF.c {h0 h : Base} {s : PSch} {cs : List Value} (hs : SchF h0 h s cs) : SchC h s cs := by
  obtain ⟨vt, vi, ts, is, e, h1, h2, h3, h4⟩ := hs
  exact ⟨vt, vi, ts, is, e, h1, h2.mono fun _ _ h => h.c, h3, h4.mono fun _ _ h => h.c⟩
theorem SchF.le {h0 h0' h h' : Base} {s : PSch} {cs : List Value} (hs : SchF h0 h s cs) (g1 : h0'.le h0) (g2 : h.le h') : SchF h0' h' s cs := by
  obtain ⟨vt, vi, ts, is, e, h1, h2, h3, h4⟩ := hs
  exact ⟨vt, vi, ts, is, e, h1.le g2, h2.mono fun _ _ h => h.le g1 g2, h3.le g2, h4.mono fun _ _ h => h.le g1 g2⟩
theorem zSch_f (h0 h : Base) : SchF h0 h zSch [.slice none 0 0, .slice none 0 0] := ⟨_, _, [], [], rfl, .inl ⟨none, 0, rfl, rfl⟩, Each.nil, .inl ⟨none, 0, rfl, rfl⟩, Each.nil⟩
theorem filter_all {α : Type} (l : List α) : l.filter (fun _ => true) = l := List.filter_eq_self.2 fun _ _ => rfl
theorem lastT_at {l : List PTab} {t : PTab} (h : l[l.length - 1]? = some t) : lastT l = t.id := by
  rw [lastT, List.getLast?_eq_getElem?, h]
theorem lastX_at {l : List PIdx} {t : PIdx} (h : l[l.length - 1]? = some t) : lastX l = t.id := by
  rw [lastX, List.getLast?_eq_getElem?, h]
theorem lastT_lt {s : PSch} (hw : wfS s) : lastT s.tabs < 4294967296 := by
  rw [lastT]
  split
  · rename_i t ht
    exact (hw.tabs t (List.mem_of_getLast? ht)).id
  · decide
theorem lastX_lt {s : PSch} (hw : wfS s) : lastX s.idxs < 4294967296 := by
  rw [lastX]
  split
  · rename_i t ht
    exact (hw.idxs t (List.mem_of_getLast? ht)).id
  · decide
theorem AT.freezeRowN {P : Program} {n : NN} {Q : Exit → Act → World → Prop} {E : Env} {h : Base} {H : List Asrt} {q : Exit} {T sz m : Nat} {a : Option Nat} {cap : Nat} {cs : List Value} {es : List (List Value)} (hc : cs = es.flatten) (hm : m = es.length) (hz : ∀ e ∈ es, e.length = sz) (hk : ∀ h', h.le h' → SL h' sz (bufV a m cap) es → AT P n Q q E h' H) : AT P n Q q E h (bufA T sz a m cap cs :: H) := by
  subst hm; subst hc
  exact K.AT.freezeRow hz fun h' h1 h2 _ => hk h' h1 h2
set_option maxHeartbeats 4000000 in
theorem AddTable (h : Base) (cs : List Value) (s : PSch) (name : ByteArray) (v : Value) (cols : List Col) (head : Nat) (hs : SchC h s cs) (hw : wfS s) (hv : SL h 3 v (cols.map cC)) (hn : name.size ≤ 9223372036854775807) (hcw : ∀ c ∈ cols, wfC c) (hcl : cols.length ≤ 4398046511104) :
    Tr Tryz.prog 9 [.agg cs.toArray, .string name, v, .int .u32 head] h [] (fun u h' H' => H' = [] ∧ ∃ cs', u = .tuple #[.agg cs'.toArray, .int .u32 (addTabQ s name cols head).2.1, eV (addTabQ s name cols head).2.2] ∧ SchF h h' (addTabQ s name cols head).1 cs') := by
  have hs' := hs
  obtain ⟨vt, vi, ts, is, rfl, hvt, ht, hvi, hi⟩ := hs
  have hvl := hv.len
  obtain ⟨av, cv, rfl⟩ := hvl
  obtain ⟨ao, ca, rfl⟩ := hvt.len
  rw [ht.len] at hvt hs' ⊢
  obtain ⟨ai, ci, rfl⟩ := hvi.len
  have hlt := hw.lt
  have hlid := lastT_lt hw
  refine K.enter Tryz.func9 rfl (Nat.le_of_ble_eq_true rfl) (fun F => ?_)
  simp only [List.nil_append, List.cons_append]
  (repeat' (first | refine X.rq ?_ | (refine X.rc ?_ ?_ <;> intro hc <;> first | (exfalso; omega) | skip)))
  refine K.l_box rfl rfl rfl (fun BS => ?_)
  refine K.l_alloc (Fx.zr rfl) rfl rfl (fun BR => ?_)
  have bad : ∀ (e : Int) (hb : Base) (E : Env) (H2 : List Asrt), addTabQ s name cols head = (zSch, 0, e) → h.le hb → K.lk E 8 = some (.pointer (some ⟨BR, 0, none⟩)) → K.lk E 9 = some (.int .u32 0) → K.lk E 10 = some (eV e) →
      AT Tryz.prog Tryz.f9.ntmps (K.post Tryz.prog Tryz.f9 fun v w' => ∃ h' H', h.le h' ∧ (H' = [] ∧ ∃ cs', v = .tuple #[.agg cs'.toArray, .int .u32 (addTabQ s name cols head).2.1, eV (addTabQ s name cols head).2.2] ∧ SchF h h' (addTabQ s name cols head).1 cs') ∧ Ok h' (H' ++ F) w') .ret E hb (blk BR 25 [.slice none 0 0, .slice none 0 0] :: (H2 ++ F)) := fun e hb E H2 hq hle hE hE2 hE3 => by
    rw [hq]
    exact K.doneC (.inl rfl) (.cell hE (Fx.agg rfl) (Fx.sz rfl) (K.cels_own (pre := []) (post := []) 0 rfl rfl) (.tmp hE2 (.tmp hE3 .nil))) hle (vs := [.agg [Value.slice none 0 0, Value.slice none 0 0].toArray, .int .u32 0, eV e]) (D := blk BR 25 [.slice none 0 0, .slice none 0 0] :: H2) (H' := []) rfl ⟨rfl, _, rfl, zSch_f h hb⟩
  (repeat' (first | refine X.rq ?_ | (refine X.rc ?_ ?_ <;> intro hc <;> first | (exfalso; omega) | skip)))
  refine K.l_call (Fx.cal rfl) rfl (MayS h _ s hs' hw) (K.pp [] rfl) rfl ?_
  rintro u h1 H' hle1 ⟨rfl, rfl⟩
  simp only [List.set_cons_zero, List.set_cons_succ, List.eraseIdx_cons_zero, List.eraseIdx_cons_succ, List.cons_append, List.nil_append]
  cases hm : mayS s with
  | false =>
    have hq : addTabQ s name cols head = (zSch, 0, 1) := by rw [addTabQ, if_pos (by rw [hm]; simp)]
    (repeat' (first | refine X.rq ?_ | (refine X.rc ?_ ?_ <;> intro hc <;> first | (exfalso; omega) | skip)))
    refine X.stw ?_
    simp only [List.set_cons_zero, List.set_cons_succ, List.eraseIdx_cons_zero, List.eraseIdx_cons_succ, List.cons_append, List.nil_append]
    (repeat' (first | refine X.rq ?_ | (refine X.rc ?_ ?_ <;> intro hc <;> first | (exfalso; omega) | skip)))
    exact bad 1 h1 _ [_] hq hle1 rfl rfl rfl
  | true =>
    (repeat' (first | refine X.rq ?_ | (refine X.rc ?_ ?_ <;> intro hc <;> first | (exfalso; omega) | skip)))
    refine K.l_callV (Fx.cal rfl) rfl (Name h1 name hn) (K.pp [] rfl) rfl rfl ?_
    simp only [List.nil_append]
    cases hnb : nameB name.data.toList with
    | false =>
      have hq : addTabQ s name cols head = (zSch, 0, 1) := by rw [addTabQ, if_pos (by rw [hnb]; simp)]
      (repeat' (first | refine X.rq ?_ | (refine X.rc ?_ ?_ <;> intro hc <;> first | (exfalso; omega) | skip)))
      refine X.stw ?_
      simp only [List.set_cons_zero, List.set_cons_succ, List.eraseIdx_cons_zero, List.eraseIdx_cons_succ, List.cons_append, List.nil_append]
      (repeat' (first | refine X.rq ?_ | (refine X.rc ?_ ?_ <;> intro hc <;> first | (exfalso; omega) | skip)))
      exact bad 1 h1 _ [_] hq hle1 rfl rfl rfl
    | true =>
      (repeat' (first | refine X.rq ?_ | (refine X.rc ?_ ?_ <;> intro hc <;> first | (exfalso; omega) | skip)))
      refine K.l_callV (Fx.cal rfl) rfl (May h1 _ cols (hv.le hle1) hcw (Nat.le_trans hcl (by decide))) (K.pp [] rfl) rfl rfl ?_
      simp only [List.nil_append]
      cases hmb : mayB cols with
      | false =>
        have hq : addTabQ s name cols head = (zSch, 0, 1) := by rw [addTabQ, if_pos (by rw [hmb]; simp)]
        (repeat' (first | refine X.rq ?_ | (refine X.rc ?_ ?_ <;> intro hc <;> first | (exfalso; omega) | skip)))
        refine X.stw ?_
        simp only [List.set_cons_zero, List.set_cons_succ, List.eraseIdx_cons_zero, List.eraseIdx_cons_succ, List.cons_append, List.nil_append]
        (repeat' (first | refine X.rq ?_ | (refine X.rc ?_ ?_ <;> intro hc <;> first | (exfalso; omega) | skip)))
        exact bad 1 h1 _ [_] hq hle1 rfl rfl rfl
      | true =>
        (repeat' (first | refine X.rq ?_ | (refine X.rc ?_ ?_ <;> intro hc <;> first | (exfalso; omega) | skip)))
        refine K.l_call (Fx.cal rfl) rfl (Taken h1 _ s head (hs'.le hle1) hw) (K.pp [] rfl) rfl ?_
        rintro u h2 H' hle2 ⟨rfl, rfl⟩
        have hle2 := hle1.trans hle2
        simp only [List.set_cons_zero, List.set_cons_succ, List.eraseIdx_cons_zero, List.eraseIdx_cons_succ, List.cons_append, List.nil_append]
        by_cases htk : head ∈ pagesQ s ∨ head = 0
        · have hq : addTabQ s name cols head = (zSch, 0, 1) := by rw [addTabQ, if_pos (fun h => h.2.2.2 htk)]
          rw [decide_eq_true htk]
          (repeat' (first | refine X.rq ?_ | (refine X.rc ?_ ?_ <;> intro hc <;> first | (exfalso; omega) | skip)))
          refine X.stw ?_
          simp only [List.set_cons_zero, List.set_cons_succ, List.eraseIdx_cons_zero, List.eraseIdx_cons_succ, List.cons_append, List.nil_append]
          (repeat' (first | refine X.rq ?_ | (refine X.rc ?_ ?_ <;> intro hc <;> first | (exfalso; omega) | skip)))
          exact bad 1 h2 _ [_] hq hle2 rfl rfl rfl
        · rw [decide_eq_false htk]
          have hq0 : addTabQ s name cols head = if (s.tabs.find? fun t => decide (t.name = name)).isSome then (zSch, 0, 200)
              else if s.tabs.length = 32 ∨ lastT s.tabs = 4294967295 then (zSch, 0, 4)
              else (⟨s.tabs ++ [⟨lastT s.tabs + 1, name, cols, head⟩], s.idxs⟩, lastT s.tabs + 1, 0) := by rw [addTabQ, if_neg (fun h => h ⟨hm, hnb, hmb, htk⟩)]
          (repeat' (first | refine X.rq ?_ | (refine X.rc ?_ ?_ <;> intro hc <;> first | (exfalso; omega) | skip)))
          refine K.l_call (Fx.cal rfl) rfl (Named h2 _ s name (hs'.le hle2) hw) (K.pp [] rfl) rfl ?_
          rintro u h3 H' hle3 ⟨rfl, v3, rfl, hv3, _⟩
          have hle3 := hle2.trans hle3
          simp only [List.set_cons_zero, List.set_cons_succ, List.eraseIdx_cons_zero, List.eraseIdx_cons_succ, List.cons_append, List.nil_append]
          generalize (s.tabs.find? fun t => decide (t.name = name)) = o at hq0 hv3 ⊢
          obtain ⟨a3, c3, rfl⟩ := hv3.len
          (repeat' (first | refine X.rq ?_ | (refine X.rc ?_ ?_ <;> intro hc <;> first | (exfalso; omega) | skip)))
          refine K.l_alloc (Fx.zr rfl) rfl rfl (fun B11 => ?_)
          refine X.stw ?_
          simp only [List.set_cons_zero, List.set_cons_succ, List.eraseIdx_cons_zero, List.eraseIdx_cons_succ, List.cons_append, List.nil_append]
          cases o with
          | some t =>
            rw [if_pos (by simp)] at hq0
            simp only [Option.isSome_some]
            (repeat' (first | refine X.rq ?_ | (refine X.rc ?_ ?_ <;> intro hc <;> first | (exfalso; omega) | skip)))
            refine X.stw ?_
            simp only [List.set_cons_zero, List.set_cons_succ, List.eraseIdx_cons_zero, List.eraseIdx_cons_succ, List.cons_append, List.nil_append]
            (repeat' (first | refine X.rq ?_ | (refine X.rc ?_ ?_ <;> intro hc <;> first | (exfalso; omega) | skip)))
            refine K.AT.perm (K.pp [1] rfl) ?_
            simp only [List.set_cons_zero, List.set_cons_succ, List.eraseIdx_cons_zero, List.eraseIdx_cons_succ, List.cons_append, List.nil_append]
            exact bad 200 h3 _ [_, _] hq0 hle3 rfl rfl rfl
          | none =>
            rw [if_neg (by simp)] at hq0
            simp only [Option.isSome_none]
            have h32 := (may0 hm).lt
            have hlc : (cols.map cC).length = cols.length := List.length_map ..
            by_cases hn0 : s.tabs.length = 0
            · have hl0 : lastT s.tabs = 0 := by
                rw [List.eq_nil_of_length_eq_zero hn0]; rfl
              rw [if_neg (by rw [hl0, hn0]; decide), hl0] at hq0
              (repeat' (first | refine X.rq ?_ | (refine X.rc ?_ ?_ <;> intro hc <;> first | (exfalso; omega) | skip)))
              all_goals first | (exfalso; omega) | skip
              refine K.l_call (Fx.cal rfl) rfl (Own h3 [] 29 30 [] [] (Fx.cal rfl) (Fx.cal rfl) _ s (fun _ => true) (fun _ => true) (hs'.le hle3) hw (fun h1 x c _ hc => AnyTable h1 x c hc) (fun h1 x c _ hc => AnyIndex h1 x c hc)) (K.pp [] rfl) rfl ?_
              rintro u h4 H' hle4 ⟨oa, ok, oa2, ok2, es, es2, rfl, hes, hes2, rfl⟩
              rw [filter_all] at hes hes2
              simp only [filter_all]
              simp only [List.set_cons_zero, List.set_cons_succ, List.eraseIdx_cons_zero, List.eraseIdx_cons_succ, List.cons_append, List.nil_append]
              (repeat' (first | refine X.rq ?_ | (refine X.rc ?_ ?_ <;> intro hc <;> first | (exfalso; omega) | skip)))
              refine K.l_alloc (Fx.zr rfl) rfl rfl (fun BO => ?_)
              refine X.stw ?_
              simp only [List.set_cons_zero, List.set_cons_succ, List.eraseIdx_cons_zero, List.eraseIdx_cons_succ, List.cons_append, List.nil_append]
              (repeat' (first | refine X.rq ?_ | (refine X.rc ?_ ?_ <;> intro hc <;> first | (exfalso; omega) | skip)))
              refine X.draw ([blk BO 25 [bufV oa s.tabs.length ok, bufV oa2 s.idxs.length ok2]]) [11] (.pu 0 (.pu 2 (.pu 3 (.pu 4 (.pu 6 (.st 1 (.on 5 (.pu 7 (.on 8 (.on 9 (.pu 10 (.cl 11 .nil)))))))))))) ?_
              refine K.d_pu rfl (fun _ _ => X.fa) rfl ?_
              refine K.d_pu rfl (fun _ _ => X.mv) rfl ?_
              refine K.d_pu rfl (fun _ _ => X.mv) rfl ?_
              refine K.d_pu rfl (fun _ _ => X.mv) rfl ?_
              refine K.d_pu rfl (fun _ _ => X.mv) rfl ?_
              refine K.d_st rfl X.ld rfl ?_
              refine K.d_on rfl (fun KK hKK => ?_)
              refine K.l_call (Fx.cal rfl) rfl (CloneC h4 _ cols (hv.le (hle3.trans hle4)) hcl) (K.pp [] rfl) rfl ?_
              rintro u h' H' - ⟨e, a5, k5, rfl, rfl⟩
              obtain rfl := e.symm
              simp only [List.set_cons_zero, List.set_cons_succ, List.eraseIdx_cons_zero, List.eraseIdx_cons_succ, List.cons_append, List.nil_append]
              rw [← hlc]
              refine WL.freezeRowF (three _) (fun h5 hle5 hs5 _ hf5 => ?_)
              refine K.l_nil ?_
              refine X.onE hKK ?_
              refine K.d_pu rfl (fun _ _ => X.bd) rfl ?_
              refine K.d_on rfl (fun KK hKK => ?_)
              refine X.bs (fun B => ?_)
              refine K.l_nil ?_
              refine X.onE hKK ?_
              refine K.d_on rfl (fun KK hKK => ?_)
              refine K.l_append_at 2 rfl (Fx.und rfl) (Fx.und rfl) rfl (Fx.sz rfl) (Fx.zr rfl) rfl (Fx.byt rfl) rfl rfl (K.src_cells (K.cels_own (pre := []) (cs := cTab ⟨1, name, cols, head⟩ (bufV a5 (cols.map cC).length k5)) (post := []) 0 rfl rfl) rfl (by simp [oneCell, cTab, bufV])) (by omega) (by omega) rfl (fun a6 k6 => ?_)
              simp only [List.set_cons_zero, List.set_cons_succ, List.eraseIdx_cons_zero, List.eraseIdx_cons_succ, List.cons_append, List.nil_append]
              refine K.l_nil ?_
              refine X.onE hKK ?_
              refine K.d_pu rfl (fun _ _ => X.fa) rfl ?_
              refine K.d_cl rfl (fun KK hKK => ?_)
              refine X.sto ?_
              simp only [List.set_cons_zero, List.set_cons_succ, List.eraseIdx_cons_zero, List.eraseIdx_cons_succ, List.cons_append, List.nil_append]
              refine K.l_nil ?_
              refine K.d_clE hKK ?_
              refine K.d_nil ?_
              (repeat' (first | refine X.rq ?_ | (refine X.rc ?_ ?_ <;> intro hc <;> first | (exfalso; omega) | skip)))
              refine X.stw ?_
              simp only [List.set_cons_zero, List.set_cons_succ, List.eraseIdx_cons_zero, List.eraseIdx_cons_succ, List.cons_append, List.nil_append]
              (repeat' (first | refine X.rq ?_ | (refine X.rc ?_ ?_ <;> intro hc <;> first | (exfalso; omega) | skip)))
              have hle5 := hle3.trans (hle4.trans hle5)
              have hee : Each (TabF h h5) (es ++ [cTab ⟨1, name, cols, head⟩ (bufV a5 (cols.map cC).length k5)]) (s.tabs ++ [⟨1, name, cols, head⟩]) := Each.snoc (hes.mono fun x c hc => hc.le hle3 (by assumption)) ⟨_, rfl, hs5, hf5.le (hle3.trans hle4) (K.Base.le.refl _)⟩
              refine K.AT.perm (K.pp [2] rfl) (AT.freezeRowN (es := es ++ [cTab ⟨1, name, cols, head⟩ (bufV a5 (cols.map cC).length k5)]) (by simp) (by simp [hes.len]) (Each.all hee fun x c hc => hc.four) (fun h6 hle6 hs6 => ?_))
              simp only [List.set_cons_zero, List.set_cons_succ, List.eraseIdx_cons_zero, List.eraseIdx_cons_succ, List.cons_append, List.nil_append]
              refine K.AT.perm (K.pp [2] rfl) (AT.freezeRowN (es := es2) rfl hes2.len.symm (Each.all hes2 fun x c hc => hc.six) (fun h7 hle7 hs7 => ?_))
              rw [hq0]
              refine K.doneC (.inl rfl) (.cell rfl (Fx.agg rfl) (Fx.sz rfl) (K.cels_own (pre := []) (post := []) 3 rfl rfl) (.tmp rfl (.tmp rfl .nil))) (hle5.trans (hle6.trans hle7)) (vs := [.agg [bufV a6 (s.tabs.length + 1) k6, bufV oa2 s.idxs.length ok2].toArray, .int .u32 1, eV 0]) (D := [_, _, _, _, _]) (H' := []) rfl ⟨rfl, _, rfl, _, _, _, _, rfl, hs6.le hle7, hee.mono fun x c hc => hc.le (K.Base.le.refl _) (hle6.trans hle7), hs7, hes2.mono fun x c hc => hc.le hle3 ((by assumption : h4.le h5).trans (hle6.trans hle7))⟩

            · have hx1 : s.tabs[s.tabs.length - 1]? = some (s.tabs[s.tabs.length - 1]'(by omega)) := List.getElem?_eq_getElem (by omega)
              generalize s.tabs[s.tabs.length - 1]'(by omega) = t at hx1
              have hla := lastT_at hx1
              obtain ⟨c, hc0, v1, rfl, hcv1⟩ := ht.get hx1
              obtain ⟨bb, oo, rfl, hcx⟩ := (hvt.le hle3).at hc0
              have hin : ((s.tabs.length : Int) - 1).toNat = s.tabs.length - 1 := by omega
              by_cases h32' : s.tabs.length = 32
              · rw [if_pos (.inl h32')] at hq0
                (repeat' (first | refine X.rq ?_ | (refine X.rc ?_ ?_ <;> intro hc <;> first | (exfalso; omega) | skip)))
                all_goals first | (exfalso; omega) | skip
                refine X.stw ?_
                simp only [List.set_cons_zero, List.set_cons_succ, List.eraseIdx_cons_zero, List.eraseIdx_cons_succ, List.cons_append, List.nil_append]
                (repeat' (first | refine X.rq ?_ | (refine X.rc ?_ ?_ <;> intro hc <;> first | (exfalso; omega) | skip)))
                refine K.AT.perm (K.pp [1] rfl) ?_
                simp only [List.set_cons_zero, List.set_cons_succ, List.eraseIdx_cons_zero, List.eraseIdx_cons_succ, List.cons_append, List.nil_append]
                exact bad 4 h3 _ [_, _] hq0 hle3 rfl rfl rfl
              · (repeat' (first | refine X.rq ?_ | (refine X.rc ?_ ?_ <;> intro hc <;> first | (exfalso; omega) | skip)))
                all_goals first | (exfalso; omega) | skip
                refine K.s_pure (K.p_load (v := .int .u32 t.id) (Fx.agg rfl) rfl (by rw [hin]; exact (Cels.up hcx).1)) rfl ?_
                by_cases hmx : t.id = 4294967295
                · rw [if_pos (.inr (hla.trans hmx))] at hq0
                  (repeat' (first | refine X.rq ?_ | (refine X.rc ?_ ?_ <;> intro hc <;> first | (exfalso; omega) | skip)))
                  all_goals first | (exfalso; omega) | skip
                  refine X.stw ?_
                  simp only [List.set_cons_zero, List.set_cons_succ, List.eraseIdx_cons_zero, List.eraseIdx_cons_succ, List.cons_append, List.nil_append]
                  (repeat' (first | refine X.rq ?_ | (refine X.rc ?_ ?_ <;> intro hc <;> first | (exfalso; omega) | skip)))
                  refine K.AT.perm (K.pp [1] rfl) ?_
                  simp only [List.set_cons_zero, List.set_cons_succ, List.eraseIdx_cons_zero, List.eraseIdx_cons_succ, List.cons_append, List.nil_append]
                  exact bad 4 h3 _ [_, _] hq0 hle3 rfl rfl rfl
                · rw [if_neg (fun h => h.elim h32' (fun e => hmx (hla.symm.trans e))), hla] at hq0
                  rw [hla] at hlid
                  (repeat' (first | refine X.rq ?_ | (refine X.rc ?_ ?_ <;> intro hc <;> first | (exfalso; omega) | skip)))
                  all_goals first | (exfalso; omega) | skip
                  refine K.s_pure (K.p_load (v := .int .u32 t.id) (Fx.agg rfl) rfl (by rw [hin]; exact (Cels.up hcx).1)) rfl ?_
                  refine K.s_pure (K.p_add (c := ((t.id + 1 : Nat) : Int)) rfl rfl (by rw [K.wr_u32 (by omega) (by omega)]; omega)) rfl ?_
                  (repeat' (first | refine X.rq ?_ | (refine X.rc ?_ ?_ <;> intro hc <;> first | (exfalso; omega) | skip)))
                  refine K.l_call (Fx.cal rfl) rfl (Own h3 [] 29 30 [] [] (Fx.cal rfl) (Fx.cal rfl) _ s (fun _ => true) (fun _ => true) (hs'.le hle3) hw (fun h1 x c _ hc => AnyTable h1 x c hc) (fun h1 x c _ hc => AnyIndex h1 x c hc)) (K.pp [] rfl) rfl ?_
                  rintro u h4 H' hle4 ⟨oa, ok, oa2, ok2, es, es2, rfl, hes, hes2, rfl⟩
                  rw [filter_all] at hes hes2
                  simp only [filter_all]
                  simp only [List.set_cons_zero, List.set_cons_succ, List.eraseIdx_cons_zero, List.eraseIdx_cons_succ, List.cons_append, List.nil_append]
                  (repeat' (first | refine X.rq ?_ | (refine X.rc ?_ ?_ <;> intro hc <;> first | (exfalso; omega) | skip)))
                  refine K.l_alloc (Fx.zr rfl) rfl rfl (fun BO => ?_)
                  refine X.stw ?_
                  simp only [List.set_cons_zero, List.set_cons_succ, List.eraseIdx_cons_zero, List.eraseIdx_cons_succ, List.cons_append, List.nil_append]
                  (repeat' (first | refine X.rq ?_ | (refine X.rc ?_ ?_ <;> intro hc <;> first | (exfalso; omega) | skip)))
                  refine X.draw ([blk BO 25 [bufV oa s.tabs.length ok, bufV oa2 s.idxs.length ok2]]) [11] (.pu 0 (.pu 2 (.pu 3 (.pu 4 (.pu 6 (.st 1 (.on 5 (.pu 7 (.on 8 (.on 9 (.pu 10 (.cl 11 .nil)))))))))))) ?_
                  refine K.d_pu rfl (fun _ _ => X.fa) rfl ?_
                  refine K.d_pu rfl (fun _ _ => X.mv) rfl ?_
                  refine K.d_pu rfl (fun _ _ => X.mv) rfl ?_
                  refine K.d_pu rfl (fun _ _ => X.mv) rfl ?_
                  refine K.d_pu rfl (fun _ _ => X.mv) rfl ?_
                  refine K.d_st rfl X.ld rfl ?_
                  refine K.d_on rfl (fun KK hKK => ?_)
                  refine K.l_call (Fx.cal rfl) rfl (CloneC h4 _ cols (hv.le (hle3.trans hle4)) hcl) (K.pp [] rfl) rfl ?_
                  rintro u h' H' - ⟨e, a5, k5, rfl, rfl⟩
                  obtain rfl := e.symm
                  simp only [List.set_cons_zero, List.set_cons_succ, List.eraseIdx_cons_zero, List.eraseIdx_cons_succ, List.cons_append, List.nil_append]
                  rw [← hlc]
                  refine WL.freezeRowF (three _) (fun h5 hle5 hs5 _ hf5 => ?_)
                  refine K.l_nil ?_
                  refine X.onE hKK ?_
                  refine K.d_pu rfl (fun _ _ => X.bd) rfl ?_
                  refine K.d_on rfl (fun KK hKK => ?_)
                  refine X.bs (fun B => ?_)
                  refine K.l_nil ?_
                  refine X.onE hKK ?_
                  refine K.d_on rfl (fun KK hKK => ?_)
                  refine K.l_append_at 2 rfl (Fx.und rfl) (Fx.und rfl) rfl (Fx.sz rfl) (Fx.zr rfl) rfl (Fx.byt rfl) rfl rfl (K.src_cells (K.cels_own (pre := []) (cs := cTab ⟨(t.id + 1), name, cols, head⟩ (bufV a5 (cols.map cC).length k5)) (post := []) 0 rfl rfl) rfl (by simp [oneCell, cTab, bufV])) (by omega) (by omega) rfl (fun a6 k6 => ?_)
                  simp only [List.set_cons_zero, List.set_cons_succ, List.eraseIdx_cons_zero, List.eraseIdx_cons_succ, List.cons_append, List.nil_append]
                  refine K.l_nil ?_
                  refine X.onE hKK ?_
                  refine K.d_pu rfl (fun _ _ => X.fa) rfl ?_
                  refine K.d_cl rfl (fun KK hKK => ?_)
                  refine X.sto ?_
                  simp only [List.set_cons_zero, List.set_cons_succ, List.eraseIdx_cons_zero, List.eraseIdx_cons_succ, List.cons_append, List.nil_append]
                  refine K.l_nil ?_
                  refine K.d_clE hKK ?_
                  refine K.d_nil ?_
                  (repeat' (first | refine X.rq ?_ | (refine X.rc ?_ ?_ <;> intro hc <;> first | (exfalso; omega) | skip)))
                  refine X.stw ?_
                  simp only [List.set_cons_zero, List.set_cons_succ, List.eraseIdx_cons_zero, List.eraseIdx_cons_succ, List.cons_append, List.nil_append]
                  (repeat' (first | refine X.rq ?_ | (refine X.rc ?_ ?_ <;> intro hc <;> first | (exfalso; omega) | skip)))
                  have hle5 := hle3.trans (hle4.trans hle5)
                  have hee : Each (TabF h h5) (es ++ [cTab ⟨(t.id + 1), name, cols, head⟩ (bufV a5 (cols.map cC).length k5)]) (s.tabs ++ [⟨(t.id + 1), name, cols, head⟩]) := Each.snoc (hes.mono fun x c hc => hc.le hle3 (by assumption)) ⟨_, rfl, hs5, hf5.le (hle3.trans hle4) (K.Base.le.refl _)⟩
                  refine K.AT.perm (K.pp [2] rfl) (AT.freezeRowN (es := es ++ [cTab ⟨(t.id + 1), name, cols, head⟩ (bufV a5 (cols.map cC).length k5)]) (by simp) (by simp [hes.len]) (Each.all hee fun x c hc => hc.four) (fun h6 hle6 hs6 => ?_))
                  simp only [List.set_cons_zero, List.set_cons_succ, List.eraseIdx_cons_zero, List.eraseIdx_cons_succ, List.cons_append, List.nil_append]
                  refine K.AT.perm (K.pp [2] rfl) (AT.freezeRowN (es := es2) rfl hes2.len.symm (Each.all hes2 fun x c hc => hc.six) (fun h7 hle7 hs7 => ?_))
                  rw [hq0]
                  refine K.doneC (.inl rfl) (.cell rfl (Fx.agg rfl) (Fx.sz rfl) (K.cels_own (pre := []) (post := []) 3 rfl rfl) (.tmp rfl (.tmp rfl .nil))) (hle5.trans (hle6.trans hle7)) (vs := [.agg [bufV a6 (s.tabs.length + 1) k6, bufV oa2 s.idxs.length ok2].toArray, .int .u32 (t.id + 1), eV 0]) (D := [_, _, _, _, _]) (H' := []) rfl ⟨rfl, _, rfl, _, _, _, _, rfl, hs6.le hle7, hee.mono fun x c hc => hc.le (K.Base.le.refl _) (hle6.trans hle7), hs7, hes2.mono fun x c hc => hc.le hle3 ((by assumption : h4.le h5).trans (hle6.trans hle7))⟩

end Go.Proofs.YtdjacjhojbkgjaaGreat.Ct
