/-
  A table dropped, an index dropped: the document's. Conditions: each theorem's own.
-/
import Derived.Test.YtdjacjhojbkgjaaGreatQ43
namespace Go.Proofs.YtdjacjhojbkgjaaGreat.Ct
open Go Go.K Go.Proofs Go.Proofs.YtdjacjhojbkgjaaGreat Go.Proofs.YtdjacjhojbkgjaaGreat.Rw
set_option linter.unusedVariables false
set_option linter.unusedSimpArgs false
set_option maxRecDepth 10000

structure DrS where
  j : Nat
  a : Option Nat
  k : Nat
  es : List (List Value)
set_option maxHeartbeats 8000000 in
theorem RDropTable (h : Base) (cs : List Value) (s : PSch) (name : ByteArray) (hs : SchC h s cs) (hw : wfS s) :
    Tr Tryz.prog 15 [.agg cs.toArray, .string name] h [] (fun u h' H' => H' = [] ∧ ∃ cs', u = .tuple #[.agg cs'.toArray, eV (dropTabQ s name).2] ∧ SchC h' (dropTabQ s name).1 cs') := by
  obtain ⟨a, k, a2, k2, rfl⟩ := hs.shape
  have hlt := hw.lt
  have hli := hw.li
  refine K.enter Tryz.func15 rfl (Nat.le_of_ble_eq_true rfl) (fun F => ?_)
  simp only [List.nil_append, List.cons_append]
  (repeat' (first | refine X.rq ?_ | (refine X.rc ?_ ?_ <;> intro hc <;> first | (exfalso; omega) | skip)))
  refine K.l_box rfl rfl rfl (fun BS => ?_)
  refine K.l_alloc (Fx.zr rfl) rfl rfl (fun BR => ?_)
  have bad : ∀ (e : Int) (hb : Base) (E : Env) (H2 : List Asrt), dropTabQ s name = (zSch, e) → h.le hb → K.lk E 4 = some (.pointer (some ⟨BR, 0, none⟩)) → K.lk E 5 = some (eV e) →
      AT Tryz.prog Tryz.f15.ntmps (K.post Tryz.prog Tryz.f15 fun v w' => ∃ h' H', h.le h' ∧ (H' = [] ∧ ∃ cs', v = .tuple #[.agg cs'.toArray, eV (dropTabQ s name).2] ∧ SchC h' (dropTabQ s name).1 cs') ∧ Ok h' (H' ++ F) w') .ret E hb (blk BR 25 [.slice none 0 0, .slice none 0 0] :: (H2 ++ F)) := fun e hb E H2 hq hle hE hE3 => by
    rw [hq]
    exact K.doneC (.inl rfl) (.cell hE (Fx.agg rfl) (Fx.sz rfl) (K.cels_own (pre := []) (post := []) 0 rfl rfl) (.tmp hE3 .nil)) hle (vs := [.agg [Value.slice none 0 0, Value.slice none 0 0].toArray, eV e]) (D := blk BR 25 [.slice none 0 0, .slice none 0 0] :: H2) (H' := []) rfl ⟨rfl, _, rfl, zSch_c hb⟩
  (repeat' (first | refine X.rq ?_ | (refine X.rc ?_ ?_ <;> intro hc <;> first | (exfalso; omega) | skip)))
  refine K.l_call (Fx.cal rfl) rfl (RMay h _ s hs hw) (K.pp [] rfl) rfl ?_
  rintro u h1 H' hle1 ⟨rfl, rfl⟩
  simp only [List.set_cons_zero, List.set_cons_succ, List.eraseIdx_cons_zero, List.eraseIdx_cons_succ, List.cons_append, List.nil_append]
  cases hm : mayS s with
  | false =>
    have hq : dropTabQ s name = (zSch, 1) := by rw [dropTabQ, if_pos hm]
    (repeat' (first | refine X.rq ?_ | (refine X.rc ?_ ?_ <;> intro hc <;> first | (exfalso; omega) | skip)))
    refine X.stw ?_
    simp only [List.set_cons_zero, List.set_cons_succ, List.eraseIdx_cons_zero, List.eraseIdx_cons_succ, List.cons_append, List.nil_append]
    (repeat' (first | refine X.rq ?_ | (refine X.rc ?_ ?_ <;> intro hc <;> first | (exfalso; omega) | skip)))
    exact bad 1 h1 _ [_] hq hle1 rfl rfl
  | true =>
    have hq0 : dropTabQ s name = match s.tabs.find? fun t => decide (t.name = name) with
      | none => (zSch, 200)
      | some t => (⟨s.tabs.filter fun u => decide (u.id ≠ t.id), s.idxs.filter fun x => decide (x.table ≠ t.id)⟩, 0) := by rw [dropTabQ, if_neg (by rw [hm]; decide)]; rfl
    (repeat' (first | refine X.rq ?_ | (refine X.rc ?_ ?_ <;> intro hc <;> first | (exfalso; omega) | skip)))
    refine K.l_call (Fx.cal rfl) rfl (RNamed h1 _ s name (hs.le hle1) hw) (K.pp [] rfl) rfl ?_
    rintro u h' H' - ⟨e, rfl, c3, rfl, hc3⟩
    obtain rfl := e.symm
    simp only [List.set_cons_zero, List.set_cons_succ, List.eraseIdx_cons_zero, List.eraseIdx_cons_succ, List.cons_append, List.nil_append]
    generalize (s.tabs.find? fun t => decide (t.name = name)) = o at hq0 hc3 ⊢
    obtain ⟨v3, rfl, hv3⟩ := hc3
    obtain ⟨a3, c3, rfl⟩ := hv3.len
    (repeat' (first | refine X.rq ?_ | (refine X.rc ?_ ?_ <;> intro hc <;> first | (exfalso; omega) | skip)))
    refine K.l_alloc (Fx.zr rfl) rfl rfl (fun B6 => ?_)
    refine X.stw ?_
    simp only [List.set_cons_zero, List.set_cons_succ, List.eraseIdx_cons_zero, List.eraseIdx_cons_succ, List.cons_append, List.nil_append]
    cases o with
    | none =>
      simp only [Option.isSome_none] at hq0 ⊢
      (repeat' (first | refine X.rq ?_ | (refine X.rc ?_ ?_ <;> intro hc <;> first | (exfalso; omega) | skip)))
      refine X.stw ?_
      simp only [List.set_cons_zero, List.set_cons_succ, List.eraseIdx_cons_zero, List.eraseIdx_cons_succ, List.cons_append, List.nil_append]
      (repeat' (first | refine X.rq ?_ | (refine X.rc ?_ ?_ <;> intro hc <;> first | (exfalso; omega) | skip)))
      refine K.AT.perm (K.pp [1] rfl) ?_
      simp only [List.set_cons_zero, List.set_cons_succ, List.eraseIdx_cons_zero, List.eraseIdx_cons_succ, List.cons_append, List.nil_append]
      exact bad 200 h1 _ [_, _] hq0 hle1 rfl rfl
    | some t =>
      simp only [Option.isSome_some, Option.getD_some] at hq0 ⊢
      generalize (t.cols.map cC).length = tn
      (repeat' (first | refine X.rq ?_ | (refine X.rc ?_ ?_ <;> intro hc <;> first | (exfalso; omega) | skip)))
      refine K.l_call (Fx.cal rfl) rfl (RCopy h1 _ s (hs.le hle1) hw) (K.pp [] rfl) rfl ?_
      rintro u h2 H' hle2 ⟨oa, ok, oa2, ok2, es, es2, rfl, hes, hes2, rfl⟩
      simp only [List.set_cons_zero, List.set_cons_succ, List.eraseIdx_cons_zero, List.eraseIdx_cons_succ, List.cons_append, List.nil_append]
      refine K.WL.freezeRowN hes.len.symm (Each.all hes fun x c hc => hc.four) (fun h3 hle3 hs3 => ?_)
      refine K.WL.freezeRowN hes2.len.symm (Each.all hes2 fun x c hc => hc.six) (fun h4 hle4 hs4 => ?_)
      have hle := hle1.trans (hle2.trans (hle3.trans hle4))
      replace hs3 := hs3.le hle4
      replace hes : Each (TabC h4) es s.tabs := hes.mono fun x c hc => hc.le (hle3.trans hle4)
      replace hes2 : Each (IdxC h4) es2 s.idxs := hes2.mono fun x c hc => hc.le (hle3.trans hle4)
      (repeat' (first | refine X.rq ?_ | (refine X.rc ?_ ?_ <;> intro hc <;> first | (exfalso; omega) | skip)))
      refine K.l_alloc (Fx.zr rfl) rfl rfl (fun BO => ?_)
      refine X.stw ?_
      simp only [List.set_cons_zero, List.set_cons_succ, List.eraseIdx_cons_zero, List.eraseIdx_cons_succ, List.cons_append, List.nil_append]
      (repeat' (first | refine X.rq ?_ | (refine X.rc ?_ ?_ <;> intro hc <;> first | (exfalso; omega) | skip)))
      refine K.l_alloc (Fx.zr rfl) rfl rfl (fun BN => ?_)
      (repeat' (first | refine X.rq ?_ | (refine X.rc ?_ ?_ <;> intro hc <;> first | (exfalso; omega) | skip)))
      refine K.WC.nilBuf 37 4 ?_
      refine K.c_loop (σ := DrS) (fun q => [(4, .pointer (some ⟨BR, 0, none⟩)), (6, .pointer (some ⟨B6, 0, none⟩)), (8, .pointer (some ⟨BO, 0, none⟩)), (9, .pointer (some ⟨BN, 0, none⟩)), (10, .int .i64 q.j)]) (fun _ => h4)
        (fun q => bufA 37 4 q.a ((s.tabs.take q.j).filter fun u => decide (u.id ≠ t.id)).length q.k q.es.flatten :: blk BN 25 [bufV q.a ((s.tabs.take q.j).filter fun u => decide (u.id ≠ t.id)).length q.k, .slice none 0 0] :: blk BO 25 [bufV oa s.tabs.length ok, bufV oa2 s.idxs.length ok2] :: blk B6 37 (cTab t (.slice a3 tn c3)) :: blk BR 25 [.slice none 0 0, .slice none 0 0] :: blk BS 25 [.slice a s.tabs.length k, .slice a2 s.idxs.length k2] :: F)
        (fun q => q.j ≤ s.tabs.length ∧ Each (TabC h4) q.es ((s.tabs.take q.j).filter fun u => decide (u.id ≠ t.id))) (fun q => s.tabs.length - q.j) ⟨0, none, 0, []⟩ ⟨Nat.zero_le _, Each.nil⟩ (by repeat (first | exact K.Sub.nil _ | refine K.Sub.cons rfl ?_)) rfl rfl ?_
      rintro ⟨j, ta, tk, tes⟩ ⟨hj, htes⟩ KL hKL
      simp only at hj htes ⊢
      by_cases hjl : j < s.tabs.length
      · have hx1 : s.tabs[j]? = some s.tabs[j] := List.getElem?_eq_getElem hjl
        generalize s.tabs[j] = x at hx1
        have hft := filter_take hx1 fun u => decide (u.id ≠ t.id)
        obtain ⟨_, hc0, v1, rfl, hcv⟩ := hes.get hx1
        obtain ⟨av, cv, rfl⟩ := hcv.len
        obtain ⟨bb, oo, e, hcx⟩ := hs3.at hc0
        have hja : j * 4 = ((j : Nat) : Int).toNat * 4 := by rw [Int.toNat_natCast]
        obtain ⟨ob, rfl⟩ : ∃ ob, oa = some ob := by
          cases oa with
          | none => cases e
          | some ob => exact ⟨_, rfl⟩
        cases e
        rw [hja] at hcx
        have hcy := hcx
        rw [Nat.zero_add] at hcy
        have hfl := List.length_filter_le (fun u : PTab => decide (u.id ≠ t.id)) (s.tabs.take j)
        rw [take_len hj] at hfl
        by_cases hxt : x.id = t.id
        · rw [if_neg (by simp [hxt]), List.append_nil] at hft
          (repeat' (first | refine X.rq ?_ | (refine X.rc ?_ ?_ <;> intro hc <;> first | (exfalso; omega) | skip)))
          all_goals first | (exfalso; omega) | skip
          refine X.draw ([blk BO 25 [bufV (some bb) s.tabs.length ok, bufV oa2 s.idxs.length ok2], blk B6 37 (cTab t (.slice a3 tn c3))]) [] (.pu 0 (.pu 2 (.pu 6 (.st 1 (.pu 3 (.pu 4 (.st 5 (.st 7 (.pu 8 .nil))))))))) ?_ (hQ := by repeat (first | with_reducible refine K.NoPanic.then ?_ | with_reducible refine K.NoPanic.inBlock ?_ | with_reducible exact K.post_noPanic _ _ | exact K.post_noPanic _ _))
          refine K.d_pu rfl (fun _ _ => X.fa) rfl ?_
          refine K.d_pu rfl (fun _ _ => X.mv) rfl ?_
          refine K.d_pu rfl (fun _ _ => X.fa) rfl ?_
          refine K.d_st rfl X.ld rfl ?_
          refine K.d_pu rfl (fun _ _ => X.ia) rfl ?_
          refine K.d_pu rfl (fun _ _ => X.fa) rfl ?_
          refine K.d_st rfl (K.p_load (v := .int .u32 x.id) (Fx.agg rfl) rfl (Cels.up hcy).1) rfl ?_
          refine K.d_st rfl X.ld rfl ?_
          refine K.d_pu rfl (fun _ _ => X.bneq) rfl ?_
          rw [decide_eq_false (show ¬ ((x.id : Int) ≠ (t.id : Int)) by omega)]
          refine K.d_nil ?_
          (repeat' (first | refine X.rq ?_ | (refine X.rc ?_ ?_ <;> intro hc <;> first | (exfalso; omega) | skip)))
          refine K.a_round hKL ⟨j + 1, ta, tk, tes⟩ ⟨by simp only; omega, by simp only; rw [hft]; exact htes⟩ (by repeat (first | exact K.Sub.nil _ | refine K.Sub.cons rfl ?_)) rfl (by simp only; rw [hft]) (by simp only; omega)
        · rw [if_pos (decide_eq_true hxt)] at hft
          (repeat' (first | refine X.rq ?_ | (refine X.rc ?_ ?_ <;> intro hc <;> first | (exfalso; omega) | skip)))
          all_goals first | (exfalso; omega) | skip
          refine X.draw ([blk BO 25 [bufV (some bb) s.tabs.length ok, bufV oa2 s.idxs.length ok2], blk B6 37 (cTab t (.slice a3 tn c3))]) [] (.pu 0 (.pu 2 (.pu 6 (.st 1 (.pu 3 (.pu 4 (.st 5 (.st 7 (.pu 8 .nil))))))))) ?_ (hQ := by repeat (first | with_reducible refine K.NoPanic.then ?_ | with_reducible refine K.NoPanic.inBlock ?_ | with_reducible exact K.post_noPanic _ _ | exact K.post_noPanic _ _))
          refine K.d_pu rfl (fun _ _ => X.fa) rfl ?_
          refine K.d_pu rfl (fun _ _ => X.mv) rfl ?_
          refine K.d_pu rfl (fun _ _ => X.fa) rfl ?_
          refine K.d_st rfl X.ld rfl ?_
          refine K.d_pu rfl (fun _ _ => X.ia) rfl ?_
          refine K.d_pu rfl (fun _ _ => X.fa) rfl ?_
          refine K.d_st rfl (K.p_load (v := .int .u32 x.id) (Fx.agg rfl) rfl (Cels.up hcy).1) rfl ?_
          refine K.d_st rfl X.ld rfl ?_
          refine K.d_pu rfl (fun _ _ => X.bneq) rfl ?_
          rw [decide_eq_true (show ((x.id : Int) ≠ (t.id : Int)) by omega)]
          refine K.d_nil ?_
          have hee : Each (TabC h4) (tes ++ [cTab x (.slice av (x.cols.map cC).length cv)]) (((s.tabs.take j).filter fun u => decide (u.id ≠ t.id)) ++ [x]) := Each.snoc htes ⟨_, rfl, hcv⟩
          generalize hm' : ((s.tabs.take j).filter fun u => decide (u.id ≠ t.id)).length = m at hfl ⊢
          (repeat' (first | refine X.rq ?_ | (refine X.rc ?_ ?_ <;> intro hc <;> first | (exfalso; omega) | skip)))
          refine X.draw ([blk BN 25 [bufV ta m tk, .slice none 0 0], blk BO 25 [bufV (some bb) s.tabs.length ok, bufV oa2 s.idxs.length ok2]]) [10] (.pu 0 (.pu 2 (.pu 4 (.st 1 (.st 3 (.pu 5 (.st 6 (.on 7 (.on 8 (.pu 9 (.cl 10 .nil))))))))))) ?_ (hQ := by repeat (first | with_reducible refine K.NoPanic.then ?_ | with_reducible refine K.NoPanic.inBlock ?_ | with_reducible exact K.post_noPanic _ _ | exact K.post_noPanic _ _))
          refine K.d_pu rfl (fun _ _ => X.fa) rfl ?_
          refine K.d_pu rfl (fun _ _ => X.fa) rfl ?_
          refine K.d_pu rfl (fun _ _ => X.mv) rfl ?_
          refine K.d_st rfl X.ld rfl ?_
          refine K.d_st rfl X.ld rfl ?_
          refine K.d_pu rfl (fun _ _ => X.ia) rfl ?_
          refine K.d_st rfl (K.p_loadM (Fx.agg rfl) rfl (Cels.up hcx) (Fx.sz rfl) rfl) rfl ?_
          refine K.d_on rfl (fun KK hKK => ?_)
          refine X.bs (fun B => ?_)
          refine K.l_nil ?_
          refine X.onE hKK ?_
          refine K.d_on rfl (fun KK hKK => ?_)
          refine K.l_append_at 1 rfl (Fx.und rfl) (Fx.und rfl) rfl (Fx.sz rfl) (Fx.zr rfl) rfl (Fx.byt rfl) rfl rfl (K.src_cells (K.cels_own (pre := []) (cs := cTab x (.slice av (x.cols.map cC).length cv)) (post := []) 0 rfl rfl) rfl (by simp [oneCell, cTab])) (by omega) (by omega) rfl (fun a6 k6 => ?_)
          simp only [List.set_cons_zero, List.set_cons_succ, List.eraseIdx_cons_zero, List.eraseIdx_cons_succ, List.cons_append, List.nil_append]
          refine K.l_nil ?_
          refine X.onE hKK ?_
          refine K.d_pu rfl (fun _ _ => X.fa) rfl ?_
          refine K.d_cl rfl (fun KK hKK => ?_)
          refine X.sto ?_
          simp only [List.set_cons_zero, List.set_cons_succ, List.eraseIdx_cons_zero, List.eraseIdx_cons_succ, List.cons_append, List.nil_append]
          refine K.l_nil ?_
          refine K.d_clE hKK ?_
          refine K.d_nil ?_
          (repeat' (first | refine X.rq ?_ | (refine X.rc ?_ ?_ <;> intro hc <;> first | (exfalso; omega) | skip)))
          refine K.AT.sel [0] rfl ?_
          refine K.a_round hKL ⟨j + 1, a6, k6, tes ++ [cTab x (.slice av (x.cols.map cC).length cv)]⟩ ⟨by simp only; omega, by simp only; rw [hft]; exact hee⟩ (by repeat (first | exact K.Sub.nil _ | refine K.Sub.cons rfl ?_)) rfl (by simp only; rw [hft, List.length_append, hm', List.flatten_append]; simp only [List.flatten_cons, List.flatten_nil, List.append_nil]; rfl) (by simp only; omega)
      obtain rfl : j = s.tabs.length := by omega
      rw [List.take_length] at htes ⊢
      (repeat' (first | refine X.rq ?_ | (refine X.rc ?_ ?_ <;> intro hc <;> first | (exfalso; omega) | skip)))
      all_goals first | (exfalso; omega) | skip
      generalize hlT : (s.tabs.filter fun u => decide (u.id ≠ t.id)) = lT at hq0 htes ⊢
      refine K.WC.nilBuf 43 6 ?_
      refine K.c_loop (σ := DrS) (fun q => [(4, .pointer (some ⟨BR, 0, none⟩)), (6, .pointer (some ⟨B6, 0, none⟩)), (8, .pointer (some ⟨BO, 0, none⟩)), (9, .pointer (some ⟨BN, 0, none⟩)), (11, .int .i64 q.j)]) (fun _ => h4)
        (fun q => bufA 43 6 q.a ((s.idxs.take q.j).filter fun u => decide (u.table ≠ t.id)).length q.k q.es.flatten :: bufA 37 4 ta lT.length tk tes.flatten :: blk BN 25 [bufV ta lT.length tk, bufV q.a ((s.idxs.take q.j).filter fun u => decide (u.table ≠ t.id)).length q.k] :: blk BO 25 [bufV oa s.tabs.length ok, bufV oa2 s.idxs.length ok2] :: blk B6 37 (cTab t (.slice a3 tn c3)) :: blk BR 25 [.slice none 0 0, .slice none 0 0] :: blk BS 25 [.slice a s.tabs.length k, .slice a2 s.idxs.length k2] :: F)
        (fun q => q.j ≤ s.idxs.length ∧ Each (IdxC h4) q.es ((s.idxs.take q.j).filter fun u => decide (u.table ≠ t.id))) (fun q => s.idxs.length - q.j) ⟨0, none, 0, []⟩ ⟨Nat.zero_le _, Each.nil⟩ (by repeat (first | exact K.Sub.nil _ | refine K.Sub.cons rfl ?_)) rfl rfl ?_
      clear hKL hj hjl
      rintro ⟨j, xa, xk, xes⟩ ⟨hj, hxes⟩ KM hKM
      simp only at hj hxes ⊢
      by_cases hjl : j < s.idxs.length
      · have hx1 : s.idxs[j]? = some s.idxs[j] := List.getElem?_eq_getElem hjl
        generalize s.idxs[j] = x at hx1
        have hft := filter_take hx1 fun u => decide (u.table ≠ t.id)
        obtain ⟨_, hc0, v1, rfl, hcv⟩ := hes2.get hx1
        obtain ⟨av, cv, rfl⟩ := hcv.len
        obtain ⟨bb, oo, e, hcx⟩ := hs4.at hc0
        have hja : j * 6 = ((j : Nat) : Int).toNat * 6 := by rw [Int.toNat_natCast]
        obtain ⟨ob, rfl⟩ : ∃ ob, oa2 = some ob := by
          cases oa2 with
          | none => cases e
          | some ob => exact ⟨_, rfl⟩
        cases e
        rw [hja] at hcx
        have hcy := hcx
        rw [Nat.zero_add] at hcy
        have hfl := List.length_filter_le (fun u : PIdx => decide (u.table ≠ t.id)) (s.idxs.take j)
        rw [take_len hj] at hfl
        by_cases hxt : x.table = t.id
        · rw [if_neg (by simp [hxt]), List.append_nil] at hft
          (repeat' (first | refine X.rq ?_ | (refine X.rc ?_ ?_ <;> intro hc <;> first | (exfalso; omega) | skip)))
          all_goals first | (exfalso; omega) | skip
          refine X.draw ([blk BO 25 [bufV oa s.tabs.length ok, bufV (some bb) s.idxs.length ok2], blk B6 37 (cTab t (.slice a3 tn c3))]) [] (.pu 0 (.pu 2 (.pu 6 (.st 1 (.pu 3 (.pu 4 (.st 5 (.st 7 (.pu 8 .nil))))))))) ?_ (hQ := by repeat (first | with_reducible refine K.NoPanic.then ?_ | with_reducible refine K.NoPanic.inBlock ?_ | with_reducible exact K.post_noPanic _ _ | exact K.post_noPanic _ _))
          refine K.d_pu rfl (fun _ _ => X.fa) rfl ?_
          refine K.d_pu rfl (fun _ _ => X.mv) rfl ?_
          refine K.d_pu rfl (fun _ _ => X.fa) rfl ?_
          refine K.d_st rfl X.ld rfl ?_
          refine K.d_pu rfl (fun _ _ => X.ia) rfl ?_
          refine K.d_pu rfl (fun _ _ => X.fa) rfl ?_
          refine K.d_st rfl (K.p_load (v := .int .u32 x.table) (Fx.agg rfl) rfl (Cels.up hcx).2.1) rfl ?_
          refine K.d_st rfl X.ld rfl ?_
          refine K.d_pu rfl (fun _ _ => X.bneq) rfl ?_
          rw [decide_eq_false (show ¬ ((x.table : Int) ≠ (t.id : Int)) by omega)]
          refine K.d_nil ?_
          (repeat' (first | refine X.rq ?_ | (refine X.rc ?_ ?_ <;> intro hc <;> first | (exfalso; omega) | skip)))
          refine K.a_round hKM ⟨j + 1, xa, xk, xes⟩ ⟨by simp only; omega, by simp only; rw [hft]; exact hxes⟩ (by repeat (first | exact K.Sub.nil _ | refine K.Sub.cons rfl ?_)) rfl (by simp only; rw [hft]) (by simp only; omega)
        · rw [if_pos (decide_eq_true hxt)] at hft
          (repeat' (first | refine X.rq ?_ | (refine X.rc ?_ ?_ <;> intro hc <;> first | (exfalso; omega) | skip)))
          all_goals first | (exfalso; omega) | skip
          refine X.draw ([blk BO 25 [bufV oa s.tabs.length ok, bufV (some bb) s.idxs.length ok2], blk B6 37 (cTab t (.slice a3 tn c3))]) [] (.pu 0 (.pu 2 (.pu 6 (.st 1 (.pu 3 (.pu 4 (.st 5 (.st 7 (.pu 8 .nil))))))))) ?_ (hQ := by repeat (first | with_reducible refine K.NoPanic.then ?_ | with_reducible refine K.NoPanic.inBlock ?_ | with_reducible exact K.post_noPanic _ _ | exact K.post_noPanic _ _))
          refine K.d_pu rfl (fun _ _ => X.fa) rfl ?_
          refine K.d_pu rfl (fun _ _ => X.mv) rfl ?_
          refine K.d_pu rfl (fun _ _ => X.fa) rfl ?_
          refine K.d_st rfl X.ld rfl ?_
          refine K.d_pu rfl (fun _ _ => X.ia) rfl ?_
          refine K.d_pu rfl (fun _ _ => X.fa) rfl ?_
          refine K.d_st rfl (K.p_load (v := .int .u32 x.table) (Fx.agg rfl) rfl (Cels.up hcx).2.1) rfl ?_
          refine K.d_st rfl X.ld rfl ?_
          refine K.d_pu rfl (fun _ _ => X.bneq) rfl ?_
          rw [decide_eq_true (show ((x.table : Int) ≠ (t.id : Int)) by omega)]
          refine K.d_nil ?_
          have hee : Each (IdxC h4) (xes ++ [cIdx x (.slice av (rowN x.cols).length cv)]) (((s.idxs.take j).filter fun u => decide (u.table ≠ t.id)) ++ [x]) := Each.snoc hxes ⟨_, rfl, hcv⟩
          generalize hm' : ((s.idxs.take j).filter fun u => decide (u.table ≠ t.id)).length = m at hfl ⊢
          (repeat' (first | refine X.rq ?_ | (refine X.rc ?_ ?_ <;> intro hc <;> first | (exfalso; omega) | skip)))
          refine X.draw ([blk BN 25 [bufV ta lT.length tk, bufV xa m xk], blk BO 25 [bufV oa s.tabs.length ok, bufV (some bb) s.idxs.length ok2]]) [10] (.pu 0 (.pu 2 (.pu 4 (.st 1 (.st 3 (.pu 5 (.st 6 (.on 7 (.on 8 (.pu 9 (.cl 10 .nil))))))))))) ?_ (hQ := by repeat (first | with_reducible refine K.NoPanic.then ?_ | with_reducible refine K.NoPanic.inBlock ?_ | with_reducible exact K.post_noPanic _ _ | exact K.post_noPanic _ _))
          refine K.d_pu rfl (fun _ _ => X.fa) rfl ?_
          refine K.d_pu rfl (fun _ _ => X.fa) rfl ?_
          refine K.d_pu rfl (fun _ _ => X.mv) rfl ?_
          refine K.d_st rfl X.ld rfl ?_
          refine K.d_st rfl X.ld rfl ?_
          refine K.d_pu rfl (fun _ _ => X.ia) rfl ?_
          refine K.d_st rfl (K.p_loadM (Fx.agg rfl) rfl (Cels.up hcx) (Fx.sz rfl) rfl) rfl ?_
          refine K.d_on rfl (fun KK hKK => ?_)
          refine X.bs (fun B => ?_)
          refine K.l_nil ?_
          refine X.onE hKK ?_
          refine K.d_on rfl (fun KK hKK => ?_)
          refine K.l_append_at 1 rfl (Fx.und rfl) (Fx.und rfl) rfl (Fx.sz rfl) (Fx.zr rfl) rfl (Fx.byt rfl) rfl rfl (K.src_cells (K.cels_own (pre := []) (cs := cIdx x (.slice av (rowN x.cols).length cv)) (post := []) 0 rfl rfl) rfl (by simp [oneCell, cIdx])) (by omega) (by omega) rfl (fun a6 k6 => ?_)
          simp only [List.set_cons_zero, List.set_cons_succ, List.eraseIdx_cons_zero, List.eraseIdx_cons_succ, List.cons_append, List.nil_append]
          refine K.l_nil ?_
          refine X.onE hKK ?_
          refine K.d_pu rfl (fun _ _ => X.fa) rfl ?_
          refine K.d_cl rfl (fun KK hKK => ?_)
          refine X.sto ?_
          simp only [List.set_cons_zero, List.set_cons_succ, List.eraseIdx_cons_zero, List.eraseIdx_cons_succ, List.cons_append, List.nil_append]
          refine K.l_nil ?_
          refine K.d_clE hKK ?_
          refine K.d_nil ?_
          (repeat' (first | refine X.rq ?_ | (refine X.rc ?_ ?_ <;> intro hc <;> first | (exfalso; omega) | skip)))
          refine K.AT.sel [0] rfl ?_
          refine K.a_round hKM ⟨j + 1, a6, k6, xes ++ [cIdx x (.slice av (rowN x.cols).length cv)]⟩ ⟨by simp only; omega, by simp only; rw [hft]; exact hee⟩ (by repeat (first | exact K.Sub.nil _ | refine K.Sub.cons rfl ?_)) rfl (by simp only; rw [hft, List.length_append, hm', List.flatten_append]; simp only [List.flatten_cons, List.flatten_nil, List.append_nil]; rfl) (by simp only; omega)
      obtain rfl : j = s.idxs.length := by omega
      rw [List.take_length] at hxes ⊢
      generalize (s.idxs.filter fun u => decide (u.table ≠ t.id)) = lX at hq0 hxes ⊢
      refine K.WC.sel [4] rfl ?_
      simp only [List.set_cons_zero, List.set_cons_succ, List.eraseIdx_cons_zero, List.eraseIdx_cons_succ, List.cons_append, List.nil_append]
      (repeat' (first | refine X.rq ?_ | (refine X.rc ?_ ?_ <;> intro hc <;> first | (exfalso; omega) | skip)))
      all_goals first | (exfalso; omega) | skip
      refine X.stw ?_
      simp only [List.set_cons_zero, List.set_cons_succ, List.eraseIdx_cons_zero, List.eraseIdx_cons_succ, List.cons_append, List.nil_append]
      (repeat' (first | refine X.rq ?_ | (refine X.rc ?_ ?_ <;> intro hc <;> first | (exfalso; omega) | skip)))
      refine K.AT.perm (K.pp [1] rfl) (AT.freezeRowN (es := tes) rfl htes.len.symm (Each.all htes fun x c hc => hc.four) (fun h6 hle6 hs6 => ?_))
      simp only [List.set_cons_zero, List.set_cons_succ, List.eraseIdx_cons_zero, List.eraseIdx_cons_succ, List.cons_append, List.nil_append]
      refine AT.freezeRowN (es := xes) rfl hxes.len.symm (Each.all hxes fun x c hc => hc.six) (fun h7 hle7 hs7 => ?_)
      rw [hq0]
      refine K.doneC (.inl rfl) (.cell rfl (Fx.agg rfl) (Fx.sz rfl) (K.cels_own (pre := []) (post := []) 2 rfl rfl) (.tmp rfl .nil)) (hle.trans (hle6.trans hle7)) (vs := [.agg [bufV ta lT.length tk, bufV xa lX.length xk].toArray, eV 0]) (D := [_, _, _, _]) (H' := []) rfl ⟨rfl, _, rfl, _, _, _, _, rfl, hs6.le hle7, htes.mono fun x c hc => hc.le (hle6.trans hle7), hs7, hxes.mono fun x c hc => hc.le (hle6.trans hle7)⟩
end Go.Proofs.YtdjacjhojbkgjaaGreat.Ct
