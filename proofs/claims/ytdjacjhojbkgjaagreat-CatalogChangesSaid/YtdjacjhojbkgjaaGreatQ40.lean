/-
  An index added: the code's. Conditions: each theorem's own.
-/
import Derived.Test.YtdjacjhojbkgjaaGreatQ39
namespace Go.Proofs.YtdjacjhojbkgjaaGreat.Ct
open Go Go.K Go.Proofs Go.Proofs.YtdjacjhojbkgjaaGreat Go.Proofs.YtdjacjhojbkgjaaGreat.Rw
set_option linter.unusedVariables false
set_option linter.unusedSimpArgs false
set_option maxRecDepth 10000

set_option maxHeartbeats 8000000 in
theorem AddIndex (h : Base) (cs : List Value) (s : PSch) (name table : ByteArray) (v : Value) (cols : List Int) (uniq : Bool) (root : Nat) (hs : SchC h s cs) (hw : wfS s) (hv : SL h 1 v (rowN cols)) (hn : name.size ≤ 9223372036854775807) (hcl : cols.length ≤ 17592186044416) :
    Tr Tryz.prog 10 [.agg cs.toArray, .string name, .string table, v, .bool uniq, .int .u32 root] h [] (fun u h' H' => H' = [] ∧ ∃ cs', u = .tuple #[.agg cs'.toArray, .int .u32 (addIdxQ s name table cols uniq root).2.1, eV (addIdxQ s name table cols uniq root).2.2] ∧ SchF h h' (addIdxQ s name table cols uniq root).1 cs') := by
  have hs' := hs
  obtain ⟨vt, vi, ts, is, rfl, hvt, ht, hvi, hi⟩ := hs
  have hvl := hv.len
  have hlc : (rowN cols).length = cols.length := List.length_map ..
  obtain ⟨av, cv, rfl⟩ := hvl
  obtain ⟨ao, ca, rfl⟩ := hvt.len
  obtain ⟨ai, ci, rfl⟩ := hvi.len
  rw [hi.len] at hvi hs' ⊢
  have hlt := hw.li
  have hlid := lastX_lt hw
  refine K.enter Tryz.func10 rfl (Nat.le_of_ble_eq_true rfl) (fun F => ?_)
  simp only [List.nil_append, List.cons_append]
  (repeat' (first | refine X.rq ?_ | (refine X.rc ?_ ?_ <;> intro hc <;> first | (exfalso; omega) | skip)))
  refine K.l_box rfl rfl rfl (fun BS => ?_)
  refine K.l_alloc (Fx.zr rfl) rfl rfl (fun BR => ?_)
  have bad : ∀ (e : Int) (hb : Base) (E : Env) (H2 : List Asrt), addIdxQ s name table cols uniq root = (zSch, 0, e) → h.le hb → K.lk E 12 = some (.pointer (some ⟨BR, 0, none⟩)) → K.lk E 13 = some (.int .u32 0) → K.lk E 14 = some (eV e) →
      AT Tryz.prog Tryz.f10.ntmps (K.post Tryz.prog Tryz.f10 fun v w' => ∃ h' H', h.le h' ∧ (H' = [] ∧ ∃ cs', v = .tuple #[.agg cs'.toArray, .int .u32 (addIdxQ s name table cols uniq root).2.1, eV (addIdxQ s name table cols uniq root).2.2] ∧ SchF h h' (addIdxQ s name table cols uniq root).1 cs') ∧ Ok h' (H' ++ F) w') .ret E hb (blk BR 25 [.slice none 0 0, .slice none 0 0] :: (H2 ++ F)) := fun e hb E H2 hq hle hE hE2 hE3 => by
    rw [hq]
    exact K.doneC (.inl rfl) (.cell hE (Fx.agg rfl) (Fx.sz rfl) (K.cels_own (pre := []) (post := []) 0 rfl rfl) (.tmp hE2 (.tmp hE3 .nil))) hle (vs := [.agg [Value.slice none 0 0, Value.slice none 0 0].toArray, .int .u32 0, eV e]) (D := blk BR 25 [.slice none 0 0, .slice none 0 0] :: H2) (H' := []) rfl ⟨rfl, _, rfl, zSch_f h hb⟩
  (repeat' (first | refine X.rq ?_ | (refine X.rc ?_ ?_ <;> intro hc <;> first | (exfalso; omega) | skip)))
  refine K.l_call (Fx.cal rfl) rfl (MayS h _ s hs' hw) (K.pp [] rfl) rfl ?_
  rintro u h1 H' hle1 ⟨rfl, rfl⟩
  simp only [List.set_cons_zero, List.set_cons_succ, List.eraseIdx_cons_zero, List.eraseIdx_cons_succ, List.cons_append, List.nil_append]
  cases hm : mayS s with
  | false =>
    have hq : addIdxQ s name table cols uniq root = (zSch, 0, 1) := by rw [addIdxQ, if_pos (by rw [hm]; simp)]
    (repeat' (first | refine X.rq ?_ | (refine X.rc ?_ ?_ <;> intro hc <;> first | (exfalso; omega) | skip)))
    refine X.stw ?_
    simp only [List.set_cons_zero, List.set_cons_succ, List.eraseIdx_cons_zero, List.eraseIdx_cons_succ, List.cons_append, List.nil_append]
    (repeat' (first | refine X.rq ?_ | (refine X.rc ?_ ?_ <;> intro hc <;> first | (exfalso; omega) | skip)))
    exact bad 1 h1 _ [_] hq hle1 rfl rfl rfl
  | true =>
    (repeat' (first | refine X.rq ?_ | (refine X.rc ?_ ?_ <;> intro hc <;> first | (exfalso; omega) | skip)))
    refine K.l_callV (Fx.cal rfl) rfl (Name h1 name hn) (K.pp [] rfl) rfl rfl ?_
    simp only [List.nil_append]
    cases hnb : nameB name.data.toList with
    | false =>
      have hq : addIdxQ s name table cols uniq root = (zSch, 0, 1) := by rw [addIdxQ, if_pos (by rw [hnb]; simp)]
      (repeat' (first | refine X.rq ?_ | (refine X.rc ?_ ?_ <;> intro hc <;> first | (exfalso; omega) | skip)))
      refine X.stw ?_
      simp only [List.set_cons_zero, List.set_cons_succ, List.eraseIdx_cons_zero, List.eraseIdx_cons_succ, List.cons_append, List.nil_append]
      (repeat' (first | refine X.rq ?_ | (refine X.rc ?_ ?_ <;> intro hc <;> first | (exfalso; omega) | skip)))
      exact bad 1 h1 _ [_] hq hle1 rfl rfl rfl
    | true =>
      by_cases hl0 : 0 < cols.length ∧ cols.length ≤ 16
      case neg =>
        have hq : addIdxQ s name table cols uniq root = (zSch, 0, 1) := by rw [addIdxQ, if_pos (fun h => hl0 ⟨h.2.2.1, h.2.2.2.1⟩)]
        (repeat' (first | refine X.rq ?_ | (refine X.rc ?_ ?_ <;> intro hc <;> first | (exfalso; omega) | skip)))
        all_goals first | (exfalso; omega) | skip
        all_goals
          refine X.stw ?_
          simp only [List.set_cons_zero, List.set_cons_succ, List.eraseIdx_cons_zero, List.eraseIdx_cons_succ, List.cons_append, List.nil_append]
          (repeat' (first | refine X.rq ?_ | (refine X.rc ?_ ?_ <;> intro hc <;> first | (exfalso; omega) | skip)))
          exact bad 1 h1 _ [_] hq hle1 rfl rfl rfl
      case pos =>
        (repeat' (first | refine X.rq ?_ | (refine X.rc ?_ ?_ <;> intro hc <;> first | (exfalso; omega) | skip)))
        all_goals first | (exfalso; omega) | skip
        refine K.l_call (Fx.cal rfl) rfl (Taken h1 _ s root (hs'.le hle1) hw) (K.pp [] rfl) rfl ?_
        rintro u h2 H' hle2 ⟨rfl, rfl⟩
        have hle2 := hle1.trans hle2
        simp only [List.set_cons_zero, List.set_cons_succ, List.eraseIdx_cons_zero, List.eraseIdx_cons_succ, List.cons_append, List.nil_append]
        by_cases htk : root ∈ pagesQ s ∨ root = 0
        · have hq : addIdxQ s name table cols uniq root = (zSch, 0, 1) := by rw [addIdxQ, if_pos (fun h => h.2.2.2.2 htk)]
          rw [decide_eq_true htk]
          (repeat' (first | refine X.rq ?_ | (refine X.rc ?_ ?_ <;> intro hc <;> first | (exfalso; omega) | skip)))
          refine X.stw ?_
          simp only [List.set_cons_zero, List.set_cons_succ, List.eraseIdx_cons_zero, List.eraseIdx_cons_succ, List.cons_append, List.nil_append]
          (repeat' (first | refine X.rq ?_ | (refine X.rc ?_ ?_ <;> intro hc <;> first | (exfalso; omega) | skip)))
          exact bad 1 h2 _ [_] hq hle2 rfl rfl rfl
        · rw [decide_eq_false htk]
          have hq0 : addIdxQ s name table cols uniq root = match s.tabs.find? fun t => decide (t.name = table) with
              | none => (zSch, 0, 200)
              | some t => if (s.idxs.find? fun t => decide (t.name = name)).isSome then (zSch, 0, 202)
                else if placesB t.cols.length cols = false then (zSch, 0, 201)
                else if s.idxs.length = 64 ∨ lastX s.idxs = 4294967295 then (zSch, 0, 4)
                else (⟨s.tabs, s.idxs ++ [⟨lastX s.idxs + 1, t.id, name, cols, uniq, root⟩]⟩, lastX s.idxs + 1, 0) := by rw [addIdxQ, if_neg (fun h => h ⟨hm, hnb, hl0.1, hl0.2, htk⟩)]; rfl
          (repeat' (first | refine X.rq ?_ | (refine X.rc ?_ ?_ <;> intro hc <;> first | (exfalso; omega) | skip)))
          refine K.l_call (Fx.cal rfl) rfl (Named h2 _ s table (hs'.le hle2) hw) (K.pp [] rfl) rfl ?_
          rintro u h3 H' hle3 ⟨rfl, v3, rfl, hv3, _⟩
          have hle3 := hle2.trans hle3
          simp only [List.set_cons_zero, List.set_cons_succ, List.eraseIdx_cons_zero, List.eraseIdx_cons_succ, List.cons_append, List.nil_append]
          have hot := got_len hw fun t => decide (t.name = table)
          generalize (s.tabs.find? fun t => decide (t.name = table)) = o at hq0 hv3 hot ⊢
          obtain ⟨a3, c3, rfl⟩ := hv3.len
          (repeat' (first | refine X.rq ?_ | (refine X.rc ?_ ?_ <;> intro hc <;> first | (exfalso; omega) | skip)))
          refine K.l_alloc (Fx.zr rfl) rfl rfl (fun B11 => ?_)
          refine X.stw ?_
          simp only [List.set_cons_zero, List.set_cons_succ, List.eraseIdx_cons_zero, List.eraseIdx_cons_succ, List.cons_append, List.nil_append]
          cases o with
          | none =>
            simp only at hq0
            simp only [Option.isSome_none]
            (repeat' (first | refine X.rq ?_ | (refine X.rc ?_ ?_ <;> intro hc <;> first | (exfalso; omega) | skip)))
            refine X.stw ?_
            simp only [List.set_cons_zero, List.set_cons_succ, List.eraseIdx_cons_zero, List.eraseIdx_cons_succ, List.cons_append, List.nil_append]
            (repeat' (first | refine X.rq ?_ | (refine X.rc ?_ ?_ <;> intro hc <;> first | (exfalso; omega) | skip)))
            refine K.AT.perm (K.pp [1] rfl) ?_
            simp only [List.set_cons_zero, List.set_cons_succ, List.eraseIdx_cons_zero, List.eraseIdx_cons_succ, List.cons_append, List.nil_append]
            exact bad 200 h3 _ [_, _] hq0 hle3 rfl rfl rfl
          | some tt =>
            simp only at hq0
            simp only [Option.getD_some] at hot hv3
            simp only [Option.isSome_some, Option.getD_some]
            (repeat' (first | refine X.rq ?_ | (refine X.rc ?_ ?_ <;> intro hc <;> first | (exfalso; omega) | skip)))
            refine K.l_call (Fx.cal rfl) rfl (Index h3 _ s name (hs'.le hle3) hw) (K.pp [] rfl) rfl ?_
            rintro u h4 H' hle4 ⟨rfl, v4, rfl, hv4, _⟩
            have hv3 := hv3.le hle4
            have hle4 := hle3.trans hle4
            simp only [List.set_cons_zero, List.set_cons_succ, List.eraseIdx_cons_zero, List.eraseIdx_cons_succ, List.cons_append, List.nil_append]
            generalize (s.idxs.find? fun t => decide (t.name = name)) = o at hq0 hv4 ⊢
            obtain ⟨a4, c4, rfl⟩ := hv4.len
            (repeat' (first | refine X.rq ?_ | (refine X.rc ?_ ?_ <;> intro hc <;> first | (exfalso; omega) | skip)))
            refine K.l_alloc (Fx.zr rfl) rfl rfl (fun B12 => ?_)
            refine X.stw ?_
            simp only [List.set_cons_zero, List.set_cons_succ, List.eraseIdx_cons_zero, List.eraseIdx_cons_succ, List.cons_append, List.nil_append]
            cases o with
            | some xx =>
              rw [if_pos (by simp)] at hq0
              simp only [Option.isSome_some]
              (repeat' (first | refine X.rq ?_ | (refine X.rc ?_ ?_ <;> intro hc <;> first | (exfalso; omega) | skip)))
              refine X.stw ?_
              simp only [List.set_cons_zero, List.set_cons_succ, List.eraseIdx_cons_zero, List.eraseIdx_cons_succ, List.cons_append, List.nil_append]
              (repeat' (first | refine X.rq ?_ | (refine X.rc ?_ ?_ <;> intro hc <;> first | (exfalso; omega) | skip)))
              refine K.AT.perm (K.pp [2] rfl) ?_
              simp only [List.set_cons_zero, List.set_cons_succ, List.eraseIdx_cons_zero, List.eraseIdx_cons_succ, List.cons_append, List.nil_append]
              exact bad 202 h4 _ [_, _, _] hq0 hle4 rfl rfl rfl
            | none =>
              rw [if_neg (by simp)] at hq0
              simp only [Option.isSome_none]
              (repeat' (first | refine X.rq ?_ | (refine X.rc ?_ ?_ <;> intro hc <;> first | (exfalso; omega) | skip)))
              refine K.l_callV (Fx.cal rfl) rfl (Places h4 tt _ _ cols ⟨_, rfl, hv3⟩ hot (hv.le hle4) (Nat.le_trans hcl (by decide))) (K.pp [] rfl) rfl rfl ?_
              simp only [List.nil_append]
              cases hpb : placesB tt.cols.length cols with
              | false =>
                rw [if_pos hpb] at hq0
                (repeat' (first | refine X.rq ?_ | (refine X.rc ?_ ?_ <;> intro hc <;> first | (exfalso; omega) | skip)))
                refine X.stw ?_
                simp only [List.set_cons_zero, List.set_cons_succ, List.eraseIdx_cons_zero, List.eraseIdx_cons_succ, List.cons_append, List.nil_append]
                (repeat' (first | refine X.rq ?_ | (refine X.rc ?_ ?_ <;> intro hc <;> first | (exfalso; omega) | skip)))
                refine K.AT.perm (K.pp [2] rfl) ?_
                simp only [List.set_cons_zero, List.set_cons_succ, List.eraseIdx_cons_zero, List.eraseIdx_cons_succ, List.cons_append, List.nil_append]
                exact bad 201 h4 _ [_, _, _] hq0 hle4 rfl rfl rfl
              | true =>
                rw [if_neg (by rw [hpb]; decide)] at hq0
                have h32 := (may0 hm).li
                by_cases hn0 : s.idxs.length = 0
                · have hl0 : lastX s.idxs = 0 := by
                    rw [List.eq_nil_of_length_eq_zero hn0]; rfl
                  rw [if_neg (by rw [hl0, hn0]; decide), hl0] at hq0
                  (repeat' (first | refine X.rq ?_ | (refine X.rc ?_ ?_ <;> intro hc <;> first | (exfalso; omega) | skip)))
                  all_goals first | (exfalso; omega) | skip
                  refine K.l_call (Fx.cal rfl) rfl (Own h4 [] 29 30 [] [] (Fx.cal rfl) (Fx.cal rfl) _ s (fun _ => true) (fun _ => true) (hs'.le hle4) hw (fun h1 x c _ hc => AnyTable h1 x c hc) (fun h1 x c _ hc => AnyIndex h1 x c hc)) (K.pp [] rfl) rfl ?_
                  rintro u h5 H' hle5 ⟨oa, ok, oa2, ok2, es, es2, rfl, hes, hes2, rfl⟩
                  rw [filter_all] at hes hes2
                  simp only [filter_all]
                  simp only [List.set_cons_zero, List.set_cons_succ, List.eraseIdx_cons_zero, List.eraseIdx_cons_succ, List.cons_append, List.nil_append]
                  (repeat' (first | refine X.rq ?_ | (refine X.rc ?_ ?_ <;> intro hc <;> first | (exfalso; omega) | skip)))
                  refine K.l_alloc (Fx.zr rfl) rfl rfl (fun BO => ?_)
                  refine X.stw ?_
                  simp only [List.set_cons_zero, List.set_cons_succ, List.eraseIdx_cons_zero, List.eraseIdx_cons_succ, List.cons_append, List.nil_append]
                  (repeat' (first | refine X.rq ?_ | (refine X.rc ?_ ?_ <;> intro hc <;> first | (exfalso; omega) | skip)))
                  refine X.draw ([blk BO 25 [bufV oa s.tabs.length ok, bufV oa2 s.idxs.length ok2], blk B11 37 (cTab tt (.slice a3 (tt.cols.map cC).length c3))]) [14] (.pu 0 (.pu 2 (.pu 3 (.pu 5 (.pu 6 (.pu 8 (.pu 9 (.st 1 (.st 4 (.on 7 (.pu 10 (.on 11 (.on 12 (.pu 13 (.cl 14 .nil))))))))))))))) ?_
                  refine K.d_pu rfl (fun _ _ => X.fa) rfl ?_
                  refine K.d_pu rfl (fun _ _ => X.mv) rfl ?_
                  refine K.d_pu rfl (fun _ _ => X.fa) rfl ?_
                  refine K.d_pu rfl (fun _ _ => X.mv) rfl ?_
                  refine K.d_pu rfl (fun _ _ => X.mv) rfl ?_
                  refine K.d_pu rfl (fun _ _ => X.mv) rfl ?_
                  refine K.d_pu rfl (fun _ _ => X.mv) rfl ?_
                  refine K.d_st rfl X.ld rfl ?_
                  refine K.d_st rfl X.ld rfl ?_
                  refine K.d_on rfl (fun KK hKK => ?_)
                  refine K.l_call (Fx.cal rfl) rfl (CloneN h5 _ cols (hv.le (hle4.trans hle5)) hcl) (K.pp [] rfl) rfl ?_
                  rintro u h' H' - ⟨e, a5, k5, rfl, rfl⟩
                  obtain rfl := e.symm
                  simp only [List.set_cons_zero, List.set_cons_succ, List.eraseIdx_cons_zero, List.eraseIdx_cons_succ, List.cons_append, List.nil_append]
                  rw [← hlc]
                  refine WL.freezeRowF (oneN _) (fun h6 hle6 hs6 _ hf6 => ?_)
                  refine K.l_nil ?_
                  refine X.onE hKK ?_
                  refine K.d_pu rfl (fun _ _ => X.bd) rfl ?_
                  refine K.d_on rfl (fun KK hKK => ?_)
                  refine X.bs (fun B => ?_)
                  refine K.l_nil ?_
                  refine X.onE hKK ?_
                  refine K.d_on rfl (fun KK hKK => ?_)
                  refine K.l_append_at 3 rfl (Fx.und rfl) (Fx.und rfl) rfl (Fx.sz rfl) (Fx.zr rfl) rfl (Fx.byt rfl) rfl rfl (K.src_cells (K.cels_own (pre := []) (cs := cIdx ⟨1, tt.id, name, cols, uniq, root⟩ (bufV a5 (rowN cols).length k5)) (post := []) 0 rfl rfl) rfl (by simp [oneCell, cIdx, bufV])) (by omega) (by omega) rfl (fun a6 k6 => ?_)
                  simp only [List.set_cons_zero, List.set_cons_succ, List.eraseIdx_cons_zero, List.eraseIdx_cons_succ, List.cons_append, List.nil_append]
                  refine K.l_nil ?_
                  refine X.onE hKK ?_
                  refine K.d_pu rfl (fun _ _ => X.fa) rfl ?_
                  refine K.d_cl rfl (fun KK hKK => ?_)
                  refine X.sto ?_
                  simp only [List.set_cons_zero, List.set_cons_succ, List.eraseIdx_cons_zero, List.eraseIdx_cons_succ, List.cons_append, List.nil_append]
                  refine K.l_nil ?_
                  refine K.d_clE hKK ?_
                  refine K.d_nil ?_
                  (repeat' (first | refine X.rq ?_ | (refine X.rc ?_ ?_ <;> intro hc <;> first | (exfalso; omega) | skip)))
                  refine X.stw ?_
                  simp only [List.set_cons_zero, List.set_cons_succ, List.eraseIdx_cons_zero, List.eraseIdx_cons_succ, List.cons_append, List.nil_append]
                  (repeat' (first | refine X.rq ?_ | (refine X.rc ?_ ?_ <;> intro hc <;> first | (exfalso; omega) | skip)))
                  have hle7 := hle4.trans (hle5.trans hle6)
                  have hee : Each (IdxF h h6) (es2 ++ [cIdx ⟨1, tt.id, name, cols, uniq, root⟩ (bufV a5 (rowN cols).length k5)]) (s.idxs ++ [⟨1, tt.id, name, cols, uniq, root⟩]) := Each.snoc (hes2.mono fun x c hc => hc.le hle4 hle6) ⟨_, rfl, hs6, hf6.le (hle4.trans hle5) (K.Base.le.refl _)⟩
                  refine K.AT.perm (K.pp [2] rfl) (AT.freezeRowN (es := es) rfl hes.len.symm (Each.all hes fun x c hc => hc.four) (fun h8 hle8 hs8 => ?_))
                  simp only [List.set_cons_zero, List.set_cons_succ, List.eraseIdx_cons_zero, List.eraseIdx_cons_succ, List.cons_append, List.nil_append]
                  refine K.AT.perm (K.pp [2] rfl) (AT.freezeRowN (es := es2 ++ [cIdx ⟨1, tt.id, name, cols, uniq, root⟩ (bufV a5 (rowN cols).length k5)]) (by simp) (by simp [hes2.len]) (Each.all hee fun x c hc => hc.six) (fun h9 hle9 hs9 => ?_))
                  rw [hq0]
                  refine K.doneC (.inl rfl) (.cell rfl (Fx.agg rfl) (Fx.sz rfl) (K.cels_own (pre := []) (post := []) 4 rfl rfl) (.tmp rfl (.tmp rfl .nil))) (hle7.trans (hle8.trans hle9)) (vs := [.agg [bufV oa s.tabs.length ok, bufV a6 (s.idxs.length + 1) k6].toArray, .int .u32 1, eV 0]) (D := [_, _, _, _, _, _]) (H' := []) rfl ⟨rfl, _, rfl, _, _, _, _, rfl, hs8.le hle9, hes.mono fun x c hc => hc.le hle4 (hle6.trans (hle8.trans hle9)), hs9, hee.mono fun x c hc => hc.le (K.Base.le.refl _) (hle8.trans hle9)⟩

                · have hx1 : s.idxs[s.idxs.length - 1]? = some (s.idxs[s.idxs.length - 1]'(by omega)) := List.getElem?_eq_getElem (by omega)
                  generalize s.idxs[s.idxs.length - 1]'(by omega) = t at hx1
                  have hla := lastX_at hx1
                  obtain ⟨c, hc0, v1, rfl, hcv1⟩ := hi.get hx1
                  obtain ⟨bb, oo, rfl, hcx⟩ := (hvi.le hle4).at hc0
                  have hin : ((s.idxs.length : Int) - 1).toNat = s.idxs.length - 1 := by omega
                  by_cases h32' : s.idxs.length = 64
                  · rw [if_pos (.inl h32')] at hq0
                    (repeat' (first | refine X.rq ?_ | (refine X.rc ?_ ?_ <;> intro hc <;> first | (exfalso; omega) | skip)))
                    all_goals first | (exfalso; omega) | skip
                    refine X.stw ?_
                    simp only [List.set_cons_zero, List.set_cons_succ, List.eraseIdx_cons_zero, List.eraseIdx_cons_succ, List.cons_append, List.nil_append]
                    (repeat' (first | refine X.rq ?_ | (refine X.rc ?_ ?_ <;> intro hc <;> first | (exfalso; omega) | skip)))
                    refine K.AT.perm (K.pp [2] rfl) ?_
                    simp only [List.set_cons_zero, List.set_cons_succ, List.eraseIdx_cons_zero, List.eraseIdx_cons_succ, List.cons_append, List.nil_append]
                    exact bad 4 h4 _ [_, _, _] hq0 hle4 rfl rfl rfl
                  · (repeat' (first | refine X.rq ?_ | (refine X.rc ?_ ?_ <;> intro hc <;> first | (exfalso; omega) | skip)))
                    all_goals first | (exfalso; omega) | skip
                    refine K.s_pure (K.p_load (v := .int .u32 t.id) (Fx.agg rfl) rfl (by rw [hin]; exact (Cels.up hcx).1)) rfl ?_
                    by_cases hmx : t.id = 4294967295
                    · rw [if_pos (.inr (hla.trans hmx))] at hq0
                      (repeat' (first | refine X.rq ?_ | (refine X.rc ?_ ?_ <;> intro hc <;> first | (exfalso; omega) | skip)))
                      all_goals first | (exfalso; omega) | skip
                      refine X.stw ?_
                      simp only [List.set_cons_zero, List.set_cons_succ, List.eraseIdx_cons_zero, List.eraseIdx_cons_succ, List.cons_append, List.nil_append]
                      (repeat' (first | refine X.rq ?_ | (refine X.rc ?_ ?_ <;> intro hc <;> first | (exfalso; omega) | skip)))
                      refine K.AT.perm (K.pp [2] rfl) ?_
                      simp only [List.set_cons_zero, List.set_cons_succ, List.eraseIdx_cons_zero, List.eraseIdx_cons_succ, List.cons_append, List.nil_append]
                      exact bad 4 h4 _ [_, _, _] hq0 hle4 rfl rfl rfl
                    · rw [if_neg (fun h => h.elim h32' (fun e => hmx (hla.symm.trans e))), hla] at hq0
                      rw [hla] at hlid
                      (repeat' (first | refine X.rq ?_ | (refine X.rc ?_ ?_ <;> intro hc <;> first | (exfalso; omega) | skip)))
                      all_goals first | (exfalso; omega) | skip
                      refine K.s_pure (K.p_load (v := .int .u32 t.id) (Fx.agg rfl) rfl (by rw [hin]; exact (Cels.up hcx).1)) rfl ?_
                      refine K.s_pure (K.p_add (c := ((t.id + 1 : Nat) : Int)) rfl rfl (by rw [K.wr_u32 (by omega) (by omega)]; omega)) rfl ?_
                      (repeat' (first | refine X.rq ?_ | (refine X.rc ?_ ?_ <;> intro hc <;> first | (exfalso; omega) | skip)))
                      refine K.l_call (Fx.cal rfl) rfl (Own h4 [] 29 30 [] [] (Fx.cal rfl) (Fx.cal rfl) _ s (fun _ => true) (fun _ => true) (hs'.le hle4) hw (fun h1 x c _ hc => AnyTable h1 x c hc) (fun h1 x c _ hc => AnyIndex h1 x c hc)) (K.pp [] rfl) rfl ?_
                      rintro u h5 H' hle5 ⟨oa, ok, oa2, ok2, es, es2, rfl, hes, hes2, rfl⟩
                      rw [filter_all] at hes hes2
                      simp only [filter_all]
                      simp only [List.set_cons_zero, List.set_cons_succ, List.eraseIdx_cons_zero, List.eraseIdx_cons_succ, List.cons_append, List.nil_append]
                      (repeat' (first | refine X.rq ?_ | (refine X.rc ?_ ?_ <;> intro hc <;> first | (exfalso; omega) | skip)))
                      refine K.l_alloc (Fx.zr rfl) rfl rfl (fun BO => ?_)
                      refine X.stw ?_
                      simp only [List.set_cons_zero, List.set_cons_succ, List.eraseIdx_cons_zero, List.eraseIdx_cons_succ, List.cons_append, List.nil_append]
                      (repeat' (first | refine X.rq ?_ | (refine X.rc ?_ ?_ <;> intro hc <;> first | (exfalso; omega) | skip)))
                      refine X.draw ([blk BO 25 [bufV oa s.tabs.length ok, bufV oa2 s.idxs.length ok2], blk B11 37 (cTab tt (.slice a3 (tt.cols.map cC).length c3))]) [14] (.pu 0 (.pu 2 (.pu 3 (.pu 5 (.pu 6 (.pu 8 (.pu 9 (.st 1 (.st 4 (.on 7 (.pu 10 (.on 11 (.on 12 (.pu 13 (.cl 14 .nil))))))))))))))) ?_
                      refine K.d_pu rfl (fun _ _ => X.fa) rfl ?_
                      refine K.d_pu rfl (fun _ _ => X.mv) rfl ?_
                      refine K.d_pu rfl (fun _ _ => X.fa) rfl ?_
                      refine K.d_pu rfl (fun _ _ => X.mv) rfl ?_
                      refine K.d_pu rfl (fun _ _ => X.mv) rfl ?_
                      refine K.d_pu rfl (fun _ _ => X.mv) rfl ?_
                      refine K.d_pu rfl (fun _ _ => X.mv) rfl ?_
                      refine K.d_st rfl X.ld rfl ?_
                      refine K.d_st rfl X.ld rfl ?_
                      refine K.d_on rfl (fun KK hKK => ?_)
                      refine K.l_call (Fx.cal rfl) rfl (CloneN h5 _ cols (hv.le (hle4.trans hle5)) hcl) (K.pp [] rfl) rfl ?_
                      rintro u h' H' - ⟨e, a5, k5, rfl, rfl⟩
                      obtain rfl := e.symm
                      simp only [List.set_cons_zero, List.set_cons_succ, List.eraseIdx_cons_zero, List.eraseIdx_cons_succ, List.cons_append, List.nil_append]
                      rw [← hlc]
                      refine WL.freezeRowF (oneN _) (fun h6 hle6 hs6 _ hf6 => ?_)
                      refine K.l_nil ?_
                      refine X.onE hKK ?_
                      refine K.d_pu rfl (fun _ _ => X.bd) rfl ?_
                      refine K.d_on rfl (fun KK hKK => ?_)
                      refine X.bs (fun B => ?_)
                      refine K.l_nil ?_
                      refine X.onE hKK ?_
                      refine K.d_on rfl (fun KK hKK => ?_)
                      refine K.l_append_at 3 rfl (Fx.und rfl) (Fx.und rfl) rfl (Fx.sz rfl) (Fx.zr rfl) rfl (Fx.byt rfl) rfl rfl (K.src_cells (K.cels_own (pre := []) (cs := cIdx ⟨(t.id + 1), tt.id, name, cols, uniq, root⟩ (bufV a5 (rowN cols).length k5)) (post := []) 0 rfl rfl) rfl (by simp [oneCell, cIdx, bufV])) (by omega) (by omega) rfl (fun a6 k6 => ?_)
                      simp only [List.set_cons_zero, List.set_cons_succ, List.eraseIdx_cons_zero, List.eraseIdx_cons_succ, List.cons_append, List.nil_append]
                      refine K.l_nil ?_
                      refine X.onE hKK ?_
                      refine K.d_pu rfl (fun _ _ => X.fa) rfl ?_
                      refine K.d_cl rfl (fun KK hKK => ?_)
                      refine X.sto ?_
                      simp only [List.set_cons_zero, List.set_cons_succ, List.eraseIdx_cons_zero, List.eraseIdx_cons_succ, List.cons_append, List.nil_append]
                      refine K.l_nil ?_
                      refine K.d_clE hKK ?_
                      refine K.d_nil ?_
                      (repeat' (first | refine X.rq ?_ | (refine X.rc ?_ ?_ <;> intro hc <;> first | (exfalso; omega) | skip)))
                      refine X.stw ?_
                      simp only [List.set_cons_zero, List.set_cons_succ, List.eraseIdx_cons_zero, List.eraseIdx_cons_succ, List.cons_append, List.nil_append]
                      (repeat' (first | refine X.rq ?_ | (refine X.rc ?_ ?_ <;> intro hc <;> first | (exfalso; omega) | skip)))
                      have hle7 := hle4.trans (hle5.trans hle6)
                      have hee : Each (IdxF h h6) (es2 ++ [cIdx ⟨(t.id + 1), tt.id, name, cols, uniq, root⟩ (bufV a5 (rowN cols).length k5)]) (s.idxs ++ [⟨(t.id + 1), tt.id, name, cols, uniq, root⟩]) := Each.snoc (hes2.mono fun x c hc => hc.le hle4 hle6) ⟨_, rfl, hs6, hf6.le (hle4.trans hle5) (K.Base.le.refl _)⟩
                      refine K.AT.perm (K.pp [2] rfl) (AT.freezeRowN (es := es) rfl hes.len.symm (Each.all hes fun x c hc => hc.four) (fun h8 hle8 hs8 => ?_))
                      simp only [List.set_cons_zero, List.set_cons_succ, List.eraseIdx_cons_zero, List.eraseIdx_cons_succ, List.cons_append, List.nil_append]
                      refine K.AT.perm (K.pp [2] rfl) (AT.freezeRowN (es := es2 ++ [cIdx ⟨(t.id + 1), tt.id, name, cols, uniq, root⟩ (bufV a5 (rowN cols).length k5)]) (by simp) (by simp [hes2.len]) (Each.all hee fun x c hc => hc.six) (fun h9 hle9 hs9 => ?_))
                      rw [hq0]
                      refine K.doneC (.inl rfl) (.cell rfl (Fx.agg rfl) (Fx.sz rfl) (K.cels_own (pre := []) (post := []) 4 rfl rfl) (.tmp rfl (.tmp rfl .nil))) (hle7.trans (hle8.trans hle9)) (vs := [.agg [bufV oa s.tabs.length ok, bufV a6 (s.idxs.length + 1) k6].toArray, .int .u32 (t.id + 1), eV 0]) (D := [_, _, _, _, _, _]) (H' := []) rfl ⟨rfl, _, rfl, _, _, _, _, rfl, hs8.le hle9, hes.mono fun x c hc => hc.le hle4 (hle6.trans (hle8.trans hle9)), hs9, hee.mono fun x c hc => hc.le (K.Base.le.refl _) (hle8.trans hle9)⟩

end Go.Proofs.YtdjacjhojbkgjaaGreat.Ct
