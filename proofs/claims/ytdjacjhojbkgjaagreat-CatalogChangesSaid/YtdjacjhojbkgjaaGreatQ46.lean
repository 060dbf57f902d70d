/-
  An index added: the document's. Conditions: each theorem's own.
-/
import Derived.Test.YtdjacjhojbkgjaaGreatQ45
namespace Go.Proofs.YtdjacjhojbkgjaaGreat.Ct
open Go Go.K Go.Proofs Go.Proofs.YtdjacjhojbkgjaaGreat Go.Proofs.YtdjacjhojbkgjaaGreat.Rw
set_option linter.unusedVariables false
set_option linter.unusedSimpArgs false
set_option maxRecDepth 10000

set_option maxHeartbeats 8000000 in
theorem RAddIndex (h : Base) (cs : List Value) (s : PSch) (name table : ByteArray) (v : Value) (cols : List Int) (uniq : Bool) (root : Nat) (hs : SchC h s cs) (hw : wfS s) (hv : SL h 1 v (rowN cols)) (hn : name.size ≤ 9223372036854775807) (hcl : cols.length ≤ 17592186044416) :
    Tr Tryz.prog 14 [.agg cs.toArray, .string name, .string table, v, .bool uniq, .int .u32 root] h [] (fun u h' H' => H' = [] ∧ ∃ cs', u = .tuple #[.agg cs'.toArray, .int .u32 (addIdxQ s name table cols uniq root).2.1, eV (addIdxQ s name table cols uniq root).2.2] ∧ SchC h' (addIdxQ s name table cols uniq root).1 cs') := by
  have hs' := hs
  obtain ⟨vt, vi, ts, is, rfl, hvt, ht, hvi, hi⟩ := hs
  have hvl := hv.len
  have hlc : (rowN cols).length = cols.length := List.length_map ..
  have hsrc : ∀ hb KK, h.le hb → Src Tryz.prog hb KK 1 v cols.length (rowN cols).flatten := fun hb KK hle => by
    have := K.SL.src (P := Tryz.prog) (K := KK) (hv.le hle) (fun e he => by
      obtain ⟨x, _, rfl⟩ := List.mem_map.1 he
      rfl)
    rwa [hlc] at this
  obtain ⟨av, cv, rfl⟩ := hvl
  rw [hlc] at hv hsrc ⊢
  obtain ⟨ao, ca, rfl⟩ := hvt.len
  rw [ht.len] at hvt hs' ⊢
  obtain ⟨ai, ci, rfl⟩ := hvi.len
  rw [hi.len] at hvi hs' ⊢
  have hlt := hw.li
  have hlid := lastX_lt hw
  refine K.enter Tryz.func14 rfl (Nat.le_of_ble_eq_true rfl) (fun F => ?_)
  simp only [List.nil_append, List.cons_append]
  (repeat' (first | refine X.rq ?_ | (refine X.rc ?_ ?_ <;> intro hc <;> first | (exfalso; omega) | skip)))
  refine K.l_box rfl rfl rfl (fun BS => ?_)
  refine K.l_alloc (Fx.zr rfl) rfl rfl (fun BR => ?_)
  have bad : ∀ (e : Int) (hb : Base) (E : Env) (H2 : List Asrt), addIdxQ s name table cols uniq root = (zSch, 0, e) → h.le hb → K.lk E 12 = some (.pointer (some ⟨BR, 0, none⟩)) → K.lk E 13 = some (.int .u32 0) → K.lk E 14 = some (eV e) →
      AT Tryz.prog Tryz.f14.ntmps (K.post Tryz.prog Tryz.f14 fun v w' => ∃ h' H', h.le h' ∧ (H' = [] ∧ ∃ cs', v = .tuple #[.agg cs'.toArray, .int .u32 (addIdxQ s name table cols uniq root).2.1, eV (addIdxQ s name table cols uniq root).2.2] ∧ SchC h' (addIdxQ s name table cols uniq root).1 cs') ∧ Ok h' (H' ++ F) w') .ret E hb (blk BR 25 [.slice none 0 0, .slice none 0 0] :: (H2 ++ F)) := fun e hb E H2 hq hle hE hE2 hE3 => by
    rw [hq]
    exact K.doneC (.inl rfl) (.cell hE (Fx.agg rfl) (Fx.sz rfl) (K.cels_own (pre := []) (post := []) 0 rfl rfl) (.tmp hE2 (.tmp hE3 .nil))) hle (vs := [.agg [Value.slice none 0 0, Value.slice none 0 0].toArray, .int .u32 0, eV e]) (D := blk BR 25 [.slice none 0 0, .slice none 0 0] :: H2) (H' := []) rfl ⟨rfl, _, rfl, zSch_c hb⟩
  (repeat' (first | refine X.rq ?_ | (refine X.rc ?_ ?_ <;> intro hc <;> first | (exfalso; omega) | skip)))
  refine K.l_call (Fx.cal rfl) rfl (RMay h _ s hs' hw) (K.pp [] rfl) rfl ?_
  rintro u h1 H' hle1 ⟨rfl, rfl⟩
  simp only [List.set_cons_zero, List.set_cons_succ, List.eraseIdx_cons_zero, List.eraseIdx_cons_succ, List.cons_append, List.nil_append]
  cases hm : mayS s with
  | false =>
    have hq : addIdxQ s name table cols uniq root = (zSch, 0, 1) := by rw [addIdxQ, if_pos (by rw [hm]; simp)]
    (repeat' (first | refine X.rq ?_ | (refine X.rc ?_ ?_ <;> intro hc <;> first | (exfalso; omega) | skip)))
    refine X.stw ?_
    simp only [List.set_cons_zero, List.set_cons_succ, List.eraseIdx_cons_zero, List.eraseIdx_cons_succ, List.cons_append, List.nil_append]
    (repeat' (first | refine X.rq ?_ | (refine X.rc ?_ ?_ <;> intro hc <;> first | (exfalso; omega) | skip)))
    exact bad 1 h1 _ [_] hq hle1 rfl rfl rfl
  | true =>
    (repeat' (first | refine X.rq ?_ | (refine X.rc ?_ ?_ <;> intro hc <;> first | (exfalso; omega) | skip)))
    refine K.l_callV (Fx.cal rfl) rfl (RefName h1 name hn) (K.pp [] rfl) rfl rfl ?_
    simp only [List.nil_append]
    cases hnb : nameB name.data.toList with
    | false =>
      have hq : addIdxQ s name table cols uniq root = (zSch, 0, 1) := by rw [addIdxQ, if_pos (by rw [hnb]; simp)]
      (repeat' (first | refine X.rq ?_ | (refine X.rc ?_ ?_ <;> intro hc <;> first | (exfalso; omega) | skip)))
      refine X.stw ?_
      simp only [List.set_cons_zero, List.set_cons_succ, List.eraseIdx_cons_zero, List.eraseIdx_cons_succ, List.cons_append, List.nil_append]
      (repeat' (first | refine X.rq ?_ | (refine X.rc ?_ ?_ <;> intro hc <;> first | (exfalso; omega) | skip)))
      exact bad 1 h1 _ [_] hq hle1 rfl rfl rfl
    | true =>
      by_cases hl0 : 0 < cols.length ∧ cols.length ≤ 16
      case neg =>
        have hq : addIdxQ s name table cols uniq root = (zSch, 0, 1) := by rw [addIdxQ, if_pos (fun h => hl0 ⟨h.2.2.1, h.2.2.2.1⟩)]
        (repeat' (first | refine X.rq ?_ | (refine X.rc ?_ ?_ <;> intro hc <;> first | (exfalso; omega) | skip)))
        all_goals first | (exfalso; omega) | skip
        all_goals
          refine X.stw ?_
          simp only [List.set_cons_zero, List.set_cons_succ, List.eraseIdx_cons_zero, List.eraseIdx_cons_succ, List.cons_append, List.nil_append]
          (repeat' (first | refine X.rq ?_ | (refine X.rc ?_ ?_ <;> intro hc <;> first | (exfalso; omega) | skip)))
          exact bad 1 h1 _ [_] hq hle1 rfl rfl rfl
      case pos =>
        (repeat' (first | refine X.rq ?_ | (refine X.rc ?_ ?_ <;> intro hc <;> first | (exfalso; omega) | skip)))
        all_goals first | (exfalso; omega) | skip
        refine K.l_call (Fx.cal rfl) rfl (RTaken h1 _ s root (hs'.le hle1) hw) (K.pp [] rfl) rfl ?_
        rintro u h2 H' hle2 ⟨rfl, rfl⟩
        have hle2 := hle1.trans hle2
        simp only [List.set_cons_zero, List.set_cons_succ, List.eraseIdx_cons_zero, List.eraseIdx_cons_succ, List.cons_append, List.nil_append]
        by_cases htk : root ∈ pagesQ s ∨ root = 0
        · have hq : addIdxQ s name table cols uniq root = (zSch, 0, 1) := by rw [addIdxQ, if_pos (fun h => h.2.2.2.2 htk)]
          rw [decide_eq_true htk]
          (repeat' (first | refine X.rq ?_ | (refine X.rc ?_ ?_ <;> intro hc <;> first | (exfalso; omega) | skip)))
          refine X.stw ?_
          simp only [List.set_cons_zero, List.set_cons_succ, List.eraseIdx_cons_zero, List.eraseIdx_cons_succ, List.cons_append, List.nil_append]
          (repeat' (first | refine X.rq ?_ | (refine X.rc ?_ ?_ <;> intro hc <;> first | (exfalso; omega) | skip)))
          exact bad 1 h2 _ [_] hq hle2 rfl rfl rfl
        · rw [decide_eq_false htk]
          have hq0 : addIdxQ s name table cols uniq root = match s.tabs.find? fun t => decide (t.name = table) with
              | none => (zSch, 0, 200)
              | some t => if (s.idxs.find? fun t => decide (t.name = name)).isSome then (zSch, 0, 202)
                else if placesB t.cols.length cols = false then (zSch, 0, 201)
                else if s.idxs.length = 64 ∨ lastX s.idxs = 4294967295 then (zSch, 0, 4)
                else (⟨s.tabs, s.idxs ++ [⟨lastX s.idxs + 1, t.id, name, cols, uniq, root⟩]⟩, lastX s.idxs + 1, 0) := by rw [addIdxQ, if_neg (fun h => h ⟨hm, hnb, hl0.1, hl0.2, htk⟩)]; rfl
          (repeat' (first | refine X.rq ?_ | (refine X.rc ?_ ?_ <;> intro hc <;> first | (exfalso; omega) | skip)))
          refine K.l_call (Fx.cal rfl) rfl (RNamed h2 _ s table (hs'.le hle2) hw) (K.pp [] rfl) rfl ?_
          rintro u h' H' - ⟨e, rfl, c3, rfl, hc3⟩
          obtain rfl := e.symm
          simp only [List.set_cons_zero, List.set_cons_succ, List.eraseIdx_cons_zero, List.eraseIdx_cons_succ, List.cons_append, List.nil_append]
          have hot := got_len hw fun t => decide (t.name = table)
          generalize (s.tabs.find? fun t => decide (t.name = table)) = o at hq0 hc3 hot ⊢
          obtain ⟨v3, rfl, hv3⟩ := hc3
          obtain ⟨a3, c3, rfl⟩ := hv3.len
          rw [List.length_map] at hv3 ⊢
          (repeat' (first | refine X.rq ?_ | (refine X.rc ?_ ?_ <;> intro hc <;> first | (exfalso; omega) | skip)))
          refine K.l_alloc (Fx.zr rfl) rfl rfl (fun B15 => ?_)
          refine X.stw ?_
          simp only [List.set_cons_zero, List.set_cons_succ, List.eraseIdx_cons_zero, List.eraseIdx_cons_succ, List.cons_append, List.nil_append]
          cases o with
          | none =>
            simp only at hq0
            simp only [Option.isSome_none]
            (repeat' (first | refine X.rq ?_ | (refine X.rc ?_ ?_ <;> intro hc <;> first | (exfalso; omega) | skip)))
            refine X.stw ?_
            simp only [List.set_cons_zero, List.set_cons_succ, List.eraseIdx_cons_zero, List.eraseIdx_cons_succ, List.cons_append, List.nil_append]
            (repeat' (first | refine X.rq ?_ | (refine X.rc ?_ ?_ <;> intro hc <;> first | (exfalso; omega) | skip)))
            refine K.AT.perm (K.pp [1] rfl) ?_
            simp only [List.set_cons_zero, List.set_cons_succ, List.eraseIdx_cons_zero, List.eraseIdx_cons_succ, List.cons_append, List.nil_append]
            exact bad 200 h2 _ [_, _] hq0 hle2 rfl rfl rfl
          | some tt =>
            simp only at hq0
            simp only [Option.getD_some] at hot hv3
            simp only [Option.isSome_some, Option.getD_some]
            (repeat' (first | refine X.rq ?_ | (refine X.rc ?_ ?_ <;> intro hc <;> first | (exfalso; omega) | skip)))
            refine K.l_call (Fx.cal rfl) rfl (RIndex h2 _ s name (hs'.le hle2) hw) (K.pp [] rfl) rfl ?_
            rintro u h' H' - ⟨e, rfl, c4, rfl, hc4⟩
            obtain rfl := e.symm
            simp only [List.set_cons_zero, List.set_cons_succ, List.eraseIdx_cons_zero, List.eraseIdx_cons_succ, List.cons_append, List.nil_append]
            generalize (s.idxs.find? fun t => decide (t.name = name)) = o at hq0 hc4 ⊢
            obtain ⟨v4, rfl, hv4⟩ := hc4
            obtain ⟨a4, c4, rfl⟩ := hv4.len
            (repeat' (first | refine X.rq ?_ | (refine X.rc ?_ ?_ <;> intro hc <;> first | (exfalso; omega) | skip)))
            refine K.l_alloc (Fx.zr rfl) rfl rfl (fun B17 => ?_)
            refine X.stw ?_
            simp only [List.set_cons_zero, List.set_cons_succ, List.eraseIdx_cons_zero, List.eraseIdx_cons_succ, List.cons_append, List.nil_append]
            cases o with
            | some xx =>
              rw [if_pos (by simp)] at hq0
              simp only [Option.isSome_some]
              (repeat' (first | refine X.rq ?_ | (refine X.rc ?_ ?_ <;> intro hc <;> first | (exfalso; omega) | skip)))
              refine X.stw ?_
              simp only [List.set_cons_zero, List.set_cons_succ, List.eraseIdx_cons_zero, List.eraseIdx_cons_succ, List.cons_append, List.nil_append]
              (repeat' (first | refine X.rq ?_ | (refine X.rc ?_ ?_ <;> intro hc <;> first | (exfalso; omega) | skip)))
              refine K.AT.perm (K.pp [2] rfl) ?_
              simp only [List.set_cons_zero, List.set_cons_succ, List.eraseIdx_cons_zero, List.eraseIdx_cons_succ, List.cons_append, List.nil_append]
              exact bad 202 h2 _ [_, _, _] hq0 hle2 rfl rfl rfl
            | none =>
              rw [if_neg (by simp)] at hq0
              simp only [Option.isSome_none]
              (repeat' (first | refine X.rq ?_ | (refine X.rc ?_ ?_ <;> intro hc <;> first | (exfalso; omega) | skip)))
              refine K.l_callV (Fx.cal rfl) rfl (RPlaces h2 tt.cols.length _ cols (Nat.le_trans hot (by decide)) (hv.le hle2) (Nat.le_trans hcl (by decide))) (K.pp [] rfl) rfl rfl ?_
              simp only [List.nil_append]
              cases hpb : placesB tt.cols.length cols with
              | false =>
                rw [if_pos hpb] at hq0
                (repeat' (first | refine X.rq ?_ | (refine X.rc ?_ ?_ <;> intro hc <;> first | (exfalso; omega) | skip)))
                refine X.stw ?_
                simp only [List.set_cons_zero, List.set_cons_succ, List.eraseIdx_cons_zero, List.eraseIdx_cons_succ, List.cons_append, List.nil_append]
                (repeat' (first | refine X.rq ?_ | (refine X.rc ?_ ?_ <;> intro hc <;> first | (exfalso; omega) | skip)))
                refine K.AT.perm (K.pp [2] rfl) ?_
                simp only [List.set_cons_zero, List.set_cons_succ, List.eraseIdx_cons_zero, List.eraseIdx_cons_succ, List.cons_append, List.nil_append]
                exact bad 201 h2 _ [_, _, _] hq0 hle2 rfl rfl rfl
              | true =>
                rw [if_neg (by rw [hpb]; decide)] at hq0
                have h64 := (may0 hm).li
                have hpw := (may0 hm).xid
                generalize (List.map cC zTab.cols).length = zn
                (repeat' (first | refine X.rq ?_ | (refine X.rc ?_ ?_ <;> intro hc <;> first | (exfalso; omega) | skip)))
                refine K.WC.sel [0] rfl ?_
                refine K.c_loop (σ := Nat) (fun j => [(1, .string name), (3, .slice av cols.length cv), (4, .bool uniq), (5, .int .u32 root), (6, .pointer (some ⟨BS, 0, none⟩)), (12, .pointer (some ⟨BR, 0, none⟩)), (15, .pointer (some ⟨B15, 0, none⟩)), (19, .int .u32 (lastX (s.idxs.take j))), (20, .int .i64 j)]) (fun _ => h2)
                  (fun _ => blk B15 37 (cTab tt (.slice a3 tt.cols.length c3)) :: blk BR 25 [.slice none 0 0, .slice none 0 0] :: blk BS 25 [.slice ao s.tabs.length ca, .slice ai s.idxs.length ci] :: F)
                  (fun j => j ≤ s.idxs.length) (fun j => s.idxs.length - j) 0 (Nat.zero_le _) (by repeat (first | exact K.Sub.nil _ | refine K.Sub.cons rfl ?_)) rfl rfl ?_
                rintro j hj KL hKL
                by_cases hjl : j < s.idxs.length
                · have hx1 : s.idxs[j]? = some s.idxs[j] := List.getElem?_eq_getElem hjl
                  generalize s.idxs[j] = t at hx1
                  obtain ⟨hl1, hl2⟩ := lastX_step hpw hx1
                  obtain ⟨c, hc0, v1, rfl, hcv1⟩ := hi.get hx1
                  obtain ⟨bb, oo, rfl, hcx⟩ := (hvi.le hle2).at hc0
                  (repeat' (first | refine X.rq ?_ | (refine X.rc ?_ ?_ <;> intro hc <;> first | (exfalso; omega) | skip)))
                  refine K.s_pure (K.p_load (v := .int .u32 t.id) (Fx.agg rfl) rfl (Cels.up hcx).1) rfl ?_
                  refine K.s_pure (K.p_max (c := (t.id : Int)) rfl rfl (by omega)) rfl ?_
                  (repeat' (first | refine X.rq ?_ | (refine X.rc ?_ ?_ <;> intro hc <;> first | (exfalso; omega) | skip)))
                  refine K.a_round hKL (j + 1) (by omega) (by rw [hl1]; exact (by repeat (first | exact K.Sub.nil _ | refine K.Sub.cons rfl ?_))) rfl rfl (by omega)
                obtain rfl : j = s.idxs.length := by omega
                rw [List.take_length]
                generalize hla : lastX s.idxs = m at hq0 hlid
                by_cases hful : s.idxs.length = 64 ∨ m = 4294967295
                · rw [if_pos hful] at hq0
                  (repeat' (first | refine X.rq ?_ | (refine X.rc ?_ ?_ <;> intro hc <;> first | (exfalso; omega) | skip)))
                  all_goals first | (exfalso; omega) | skip
                  all_goals
                    refine X.stw ?_
                    simp only [List.set_cons_zero, List.set_cons_succ, List.eraseIdx_cons_zero, List.eraseIdx_cons_succ, List.cons_append, List.nil_append]
                    (repeat' (first | refine X.rq ?_ | (refine X.rc ?_ ?_ <;> intro hc <;> first | (exfalso; omega) | skip)))
                    refine K.AT.perm (K.pp [1] rfl) ?_
                    simp only [List.set_cons_zero, List.set_cons_succ, List.eraseIdx_cons_zero, List.eraseIdx_cons_succ, List.cons_append, List.nil_append]
                    exact bad 4 h2 _ [_, _] hq0 hle2 rfl rfl rfl
                rw [if_neg hful] at hq0
                (repeat' (first | refine X.rq ?_ | (refine X.rc ?_ ?_ <;> intro hc <;> first | (exfalso; omega) | skip)))
                all_goals first | (exfalso; omega) | skip
                refine K.l_call (Fx.cal rfl) rfl (RCopy h2 _ s (hs'.le hle2) hw) (K.pp [] rfl) rfl ?_
                rintro u h4 H' hle4 ⟨oa, ok, oa2, ok2, es, es2, rfl, hes, hes2, rfl⟩
                simp only [List.set_cons_zero, List.set_cons_succ, List.eraseIdx_cons_zero, List.eraseIdx_cons_succ, List.cons_append, List.nil_append]
                (repeat' (first | refine X.rq ?_ | (refine X.rc ?_ ?_ <;> intro hc <;> first | (exfalso; omega) | skip)))
                refine K.l_alloc (Fx.zr rfl) rfl rfl (fun BO => ?_)
                refine X.stw ?_
                simp only [List.set_cons_zero, List.set_cons_succ, List.eraseIdx_cons_zero, List.eraseIdx_cons_succ, List.cons_append, List.nil_append]
                (repeat' (first | refine X.rq ?_ | (refine X.rc ?_ ?_ <;> intro hc <;> first | (exfalso; omega) | skip)))
                refine X.draw ([blk BO 25 [bufV oa s.tabs.length ok, bufV oa2 s.idxs.length ok2], blk B15 37 (cTab tt (.slice a3 tt.cols.length c3))]) [16] (.pu 0 (.pu 2 (.pu 3 (.pu 4 (.pu 6 (.pu 8 (.pu 10 (.pu 11 (.st 1 (.st 5 (.on 7 (.on 9 (.pu 12 (.on 13 (.on 14 (.pu 15 (.cl 16 .nil))))))))))))))))) ?_ (hQ := by repeat (first | with_reducible refine K.NoPanic.then ?_ | with_reducible refine K.NoPanic.inBlock ?_ | with_reducible exact K.post_noPanic _ _ | exact K.post_noPanic _ _))
                refine K.d_pu rfl (fun _ _ => X.fa) rfl ?_
                refine K.d_pu rfl (fun _ _ => X.mv) rfl ?_
                refine K.d_pu rfl (fun _ _ => K.p_add (c := ((m + 1 : Nat) : Int)) rfl rfl (by rw [K.wr_u32 (by omega) (by omega)]; omega)) rfl ?_
                refine K.d_pu rfl (fun _ _ => X.fa) rfl ?_
                refine K.d_pu rfl (fun _ _ => X.mv) rfl ?_
                refine K.d_pu rfl (fun _ _ => X.mv) rfl ?_
                refine K.d_pu rfl (fun _ _ => X.mv) rfl ?_
                refine K.d_pu rfl (fun _ _ => X.mv) rfl ?_
                refine K.d_st rfl X.ld rfl ?_
                refine K.d_st rfl X.ld rfl ?_
                refine K.d_on rfl (fun KK hKK => ?_)
                refine K.l_buildSlice (Fx.und rfl) (Fx.sz rfl) rfl (Fx.zr rfl) rfl rfl rfl rfl rfl (fun B0 => ?_)
                refine K.WL.bufOf (m := 0) (s := 1) rfl (by unfold maxLen; omega) ?_
                refine K.l_nil ?_
                refine X.onE hKK ?_
                refine K.d_on rfl (fun KK hKK => ?_)
                refine K.l_append_at 0 rfl (Fx.und rfl) (Fx.und rfl) rfl (Fx.sz rfl) (Fx.zr rfl) rfl (Fx.byt rfl) rfl rfl (hsrc _ _ (hle2.trans hle4)) (by omega) (by omega) rfl (fun a5 k5 => ?_)
                simp only [List.set_cons_zero, List.set_cons_succ, List.eraseIdx_cons_zero, List.eraseIdx_cons_succ, List.cons_append, List.nil_append]
                simp only [Nat.zero_add, cellsL, List.nil_append]
                rw [← hlc]
                refine K.WL.freezeRow (oneN _) (fun h5 hle5 hs5 _ => ?_)
                refine K.l_nil ?_
                refine X.onE hKK ?_
                refine K.d_pu rfl (fun _ _ => X.bd) rfl ?_
                refine K.d_on rfl (fun KK hKK => ?_)
                refine X.bs (fun B => ?_)
                refine K.l_nil ?_
                refine X.onE hKK ?_
                refine K.d_on rfl (fun KK hKK => ?_)
                refine K.l_append_at 3 rfl (Fx.und rfl) (Fx.und rfl) rfl (Fx.sz rfl) (Fx.zr rfl) rfl (Fx.byt rfl) rfl rfl (K.src_cells (K.cels_own (pre := []) (cs := cIdx ⟨(m + 1), tt.id, name, cols, uniq, root⟩ (bufV a5 (rowN cols).length k5)) (post := []) 0 rfl rfl) rfl (by simp [oneCell, cIdx, bufV])) (by omega) (by omega) rfl (fun a6 k6 => ?_)
                simp only [List.set_cons_zero, List.set_cons_succ, List.eraseIdx_cons_zero, List.eraseIdx_cons_succ, List.cons_append, List.nil_append]
                refine K.l_nil ?_
                refine X.onE hKK ?_
                refine K.d_pu rfl (fun _ _ => X.fa) rfl ?_
                refine K.d_cl rfl (fun KK hKK => ?_)
                refine X.sto ?_
                simp only [List.set_cons_zero, List.set_cons_succ, List.eraseIdx_cons_zero, List.eraseIdx_cons_succ, List.cons_append, List.nil_append]
                refine K.l_nil ?_
                refine K.d_clE hKK ?_
                refine K.d_nil ?_
                (repeat' (first | refine X.rq ?_ | (refine X.rc ?_ ?_ <;> intro hc <;> first | (exfalso; omega) | skip)))
                refine X.stw ?_
                simp only [List.set_cons_zero, List.set_cons_succ, List.eraseIdx_cons_zero, List.eraseIdx_cons_succ, List.cons_append, List.nil_append]
                (repeat' (first | refine X.rq ?_ | (refine X.rc ?_ ?_ <;> intro hc <;> first | (exfalso; omega) | skip)))
                have hle25 := hle2.trans (hle4.trans hle5)
                have hee : Each (IdxC h5) (es2 ++ [cIdx ⟨m + 1, tt.id, name, cols, uniq, root⟩ (bufV a5 (rowN cols).length k5)]) (s.idxs ++ [⟨m + 1, tt.id, name, cols, uniq, root⟩]) := Each.snoc (hes2.mono fun x c hc => hc.le hle5) ⟨_, rfl, hs5⟩
                refine K.AT.perm (K.pp [2] rfl) (AT.freezeRowN (es := es) rfl hes.len.symm (Each.all hes fun x c hc => hc.four) (fun h6 hle6 hs6 => ?_))
                simp only [List.set_cons_zero, List.set_cons_succ, List.eraseIdx_cons_zero, List.eraseIdx_cons_succ, List.cons_append, List.nil_append]
                refine K.AT.perm (K.pp [2] rfl) (AT.freezeRowN (es := es2 ++ [cIdx ⟨m + 1, tt.id, name, cols, uniq, root⟩ (bufV a5 (rowN cols).length k5)]) (by simp) (by simp [hes2.len]) (Each.all hee fun x c hc => hc.six) (fun h7 hle7 hs7 => ?_))
                rw [hq0]
                refine K.doneC (.inl rfl) (.cell rfl (Fx.agg rfl) (Fx.sz rfl) (K.cels_own (pre := []) (post := []) 3 rfl rfl) (.tmp rfl (.tmp rfl .nil))) (hle25.trans (hle6.trans hle7)) (vs := [.agg [bufV oa s.tabs.length ok, bufV a6 (s.idxs.length + 1) k6].toArray, .int .u32 (m + 1), eV 0]) (D := [_, _, _, _, _]) (H' := []) rfl ⟨rfl, _, rfl, _, _, _, _, rfl, hs6.le hle7, hes.mono fun x c hc => hc.le (hle5.trans (hle6.trans hle7)), hs7, hee.mono fun x c hc => hc.le (hle6.trans hle7)⟩
end Go.Proofs.YtdjacjhojbkgjaaGreat.Ct
