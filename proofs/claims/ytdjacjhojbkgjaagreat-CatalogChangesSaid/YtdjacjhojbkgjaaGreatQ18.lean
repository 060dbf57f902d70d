/-
  A schema in memory of its own, of such tables and indexes; a table's indexes: the code's. Conditions: each theorem's own.
-/
import Derived.Test.YtdjacjhojbkgjaaGreatQ17
namespace Go.Proofs.YtdjacjhojbkgjaaGreat.Ct
open Go Go.K Go.Proofs Go.Proofs.YtdjacjhojbkgjaaGreat Go.Proofs.YtdjacjhojbkgjaaGreat.Rw
set_option linter.unusedVariables false
set_option linter.unusedSimpArgs false
set_option maxRecDepth 10000

def TabF (h0 h : Base) (t : PTab) (c : List Value) : Prop := ∃ v, c = cTab t v ∧ SL h 3 v (t.cols.map cC) ∧ Fsh h0 h 3 v
def IdxF (h0 h : Base) (x : PIdx) (c : List Value) : Prop := ∃ v, c = cIdx x v ∧ SL h 1 v (rowN x.cols) ∧ Fsh h0 h 1 v
theorem TabF.c {h0 h : Base} {t : PTab} {c : List Value} (hc : TabF h0 h t c) : TabC h t c := by
  obtain ⟨v, e, hs, _⟩ := hc
  exact ⟨v, e, hs⟩
theorem IdxF.c {h0 h : Base} {t : PIdx} {c : List Value} (hc : IdxF h0 h t c) : IdxC h t c := by
  obtain ⟨v, e, hs, _⟩ := hc
  exact ⟨v, e, hs⟩
theorem TabF.le {h0 h0' h h' : Base} {t : PTab} {c : List Value} (hc : TabF h0 h t c) (h1 : h0'.le h0) (h2 : h.le h') : TabF h0' h' t c := by
  obtain ⟨v, e, hs, hf⟩ := hc
  exact ⟨v, e, hs.le h2, hf.le h1 h2⟩
theorem IdxF.le {h0 h0' h h' : Base} {t : PIdx} {c : List Value} (hc : IdxF h0 h t c) (h1 : h0'.le h0) (h2 : h.le h') : IdxF h0' h' t c := by
  obtain ⟨v, e, hs, hf⟩ := hc
  exact ⟨v, e, hs.le h2, hf.le h1 h2⟩
theorem TabF.four {h0 h : Base} {t : PTab} {c : List Value} (hc : TabF h0 h t c) : c.length = 4 := by
  obtain ⟨v, rfl, hs⟩ := hc
  rfl
theorem IdxF.six {h0 h : Base} {t : PIdx} {c : List Value} (hc : IdxF h0 h t c) : c.length = 6 := by
  obtain ⟨v, rfl, hs⟩ := hc
  rfl
theorem Each.nil {α : Type} {R : α → List Value → Prop} : Each R [] [] := ⟨rfl, fun j c x hc => by simp at hc⟩
theorem Each.snoc {α : Type} {R : α → List Value → Prop} {es : List (List Value)} {xs : List α} {c : List Value} {x : α} (h : Each R es xs) (hc : R x c) : Each R (es ++ [c]) (xs ++ [x]) :=
  ⟨by simp [h.len], fun j c' x' h1 h2 => by
    by_cases hj : j < es.length
    · rw [List.getElem?_append_left hj] at h1
      rw [List.getElem?_append_left (by rw [← h.len]; exact hj)] at h2
      exact h.at_ j _ _ h1 h2
    · rw [List.getElem?_append_right (by omega)] at h1
      rw [List.getElem?_append_right (by rw [← h.len]; omega), ← h.len] at h2
      generalize j - es.length = q at h1 h2
      cases q with
      | zero => simp at h1 h2; subst h1; subst h2; exact hc
      | succ q => simp at h1⟩
theorem Each.all {α : Type} {R : α → List Value → Prop} {es : List (List Value)} {xs : List α} {p : List Value → Prop} (h : Each R es xs) (hp : ∀ x c, R x c → p c) : ∀ e ∈ es, p e := fun e he => by
  obtain ⟨j, hj⟩ := List.mem_iff_getElem?.1 he
  have hjl := (List.getElem?_eq_some_iff.1 hj).1
  exact hp _ _ (h.at_ j e (xs[j]'(by rw [← h.len]; exact hjl)) hj (List.getElem?_eq_getElem _))
theorem filter_take {α : Type} {l : List α} {j : Nat} {x : α} (hx : l[j]? = some x) (q : α → Bool) : (l.take (j + 1)).filter q = (l.take j).filter q ++ (if q x then [x] else []) := by
  obtain ⟨e, _⟩ := take_at hx
  rw [e, List.filter_append, List.filter_cons]
  split <;> simp
theorem WL.freezeRowF {P : Program} {n : NN} {Q : Exit → Act → World → Prop} {E : Env} {h : Base} {H : List Asrt} {ops : Array Oper} {L : List Oper} {T sz : Nat} {a : Option Nat} {cap : Nat} {es : List (List Value)} (hz : ∀ e ∈ es, e.length = sz) (hk : ∀ h', h.le h' → SL h' sz (bufV a es.length cap) es → es.length ≤ cap → Fsh h h' sz (bufV a es.length cap) → WL P n ops Q L E h' H) : WL P n ops Q L E h (bufA T sz a es.length cap es.flatten :: H) :=
  ⟨fun a w fa ok => by obtain ⟨h', h1, h2, h3, h4, h5⟩ := ok.freezeRowF hz; exact (hk h' h1 h2 h3 h4).run _ w fa h5⟩
theorem perm_in (l : List Asrt) {KK F : List Asrt} : (l ++ (KK ++ F)).Perm (KK ++ (l ++ F)) := by
  rw [← List.append_assoc, ← List.append_assoc]
  exact List.perm_append_comm.append_right F
structure OwT where
  j : Nat
  hb : Base
  a : Option Nat
  k : Nat
  es : List (List Value)
structure OwX where
  j : Nat
  hb : Base
  a2 : Option Nat
  k2 : Nat
  es2 : List (List Value)
set_option maxHeartbeats 4000000 in
theorem Own (h : Base) (KK : List Asrt) (f g : FuncId) (fc gc : List Value) (hcf : Callable Tryz.prog f) (hcg : Callable Tryz.prog g) (cs : List Value) (s : PSch) (qt : PTab → Bool) (qi : PIdx → Bool) (hs : SchC h s cs) (hw : wfS s)
    (hf : ∀ h1 x c, h.le h1 → TabC h1 x c → TrV Tryz.prog f (.agg c.toArray :: fc) h1 KK (.bool (qt x)) KK) (hg : ∀ h1 x c, h.le h1 → IdxC h1 x c → TrV Tryz.prog g (.agg c.toArray :: gc) h1 KK (.bool (qi x)) KK) :
    Tr Tryz.prog 28 [.agg cs.toArray, .func (.func f) #[] fc.toArray, .func (.func g) #[] gc.toArray] h KK (fun u h' H' => ∃ a k a2 k2 es es2, u = .agg #[bufV a (s.tabs.filter qt).length k, bufV a2 (s.idxs.filter qi).length k2] ∧
      Each (TabF h h') es (s.tabs.filter qt) ∧ Each (IdxF h h') es2 (s.idxs.filter qi) ∧ H' = bufA 37 4 a (s.tabs.filter qt).length k es.flatten :: bufA 43 6 a2 (s.idxs.filter qi).length k2 es2.flatten :: KK) := by
  obtain ⟨vt, vi, ts, is, rfl, hvt, ht, hvi, hi⟩ := hs
  obtain ⟨ao, ca, rfl⟩ := hvt.len
  rw [ht.len] at hvt ⊢
  obtain ⟨ai, ci, rfl⟩ := hvi.len
  rw [hi.len] at hvi ⊢
  have hlt := hw.lt
  have hli := hw.li
  refine K.enter Tryz.func28 rfl (Nat.le_of_ble_eq_true rfl) (fun F => ?_)
  (repeat' (first | refine X.rq ?_ | (refine X.rc ?_ ?_ <;> intro hc <;> first | (exfalso; omega) | skip)))
  refine K.l_box rfl rfl rfl (fun BS => ?_)
  refine K.l_alloc (Fx.zr rfl) rfl rfl (fun BR => ?_)
  (repeat' (first | refine X.rq ?_ | (refine X.rc ?_ ?_ <;> intro hc <;> first | (exfalso; omega) | skip)))
  refine K.l_alloc (Fx.zr rfl) rfl rfl (fun BO => ?_)
  (repeat' (first | refine X.rq ?_ | (refine X.rc ?_ ?_ <;> intro hc <;> first | (exfalso; omega) | skip)))
  refine K.WC.nilBuf 37 4 ?_
  refine K.c_loop (σ := OwT) (fun q => [(1, .func (.func f) #[] fc.toArray), (2, .func (.func g) #[] gc.toArray), (3, .pointer (some ⟨BS, 0, none⟩)), (6, .pointer (some ⟨BR, 0, none⟩)), (7, .pointer (some ⟨BO, 0, none⟩)), (13, .slice ao s.tabs.length ca), (14, .int .i64 s.tabs.length), (15, .int .i64 q.j)]) (fun q => q.hb)
    (fun q => bufA 37 4 q.a ((s.tabs.take q.j).filter qt).length q.k q.es.flatten :: blk BO 25 [bufV q.a ((s.tabs.take q.j).filter qt).length q.k, .slice none 0 0] :: blk BR 25 [.slice none 0 0, .slice none 0 0] :: blk BS 25 [.slice ao s.tabs.length ca, .slice ai s.idxs.length ci] :: (KK ++ F))
    (fun q => q.j ≤ s.tabs.length ∧ h.le q.hb ∧ Each (TabF h q.hb) q.es ((s.tabs.take q.j).filter qt)) (fun q => s.tabs.length - q.j) ⟨0, h, none, 0, []⟩ ⟨Nat.zero_le _, K.Base.le.refl _, Each.nil⟩ (by repeat (first | exact K.Sub.nil _ | refine K.Sub.cons rfl ?_)) rfl rfl ?_
  rintro ⟨j, hb, a, k, es⟩ ⟨hj, hle, hes⟩ KL hKL
  simp only at hj hle hes ⊢
  by_cases hjl : j < s.tabs.length
  · have hx1 : s.tabs[j]? = some s.tabs[j] := List.getElem?_eq_getElem hjl
    have hwt : wfTb s.tabs[j] := hw.tabs _ (List.getElem_mem hjl)
    generalize s.tabs[j] = t at hx1 hwt
    have hft := filter_take hx1 qt
    obtain ⟨q, hc0, htc⟩ := ht.get hx1
    have hqx := hf hb t q hle (htc.le hle)
    obtain ⟨v1, rfl, hcv⟩ := htc
    have hcl := CloneC hb v1 t.cols (hcv.le hle) hwt.len
    obtain ⟨av, cv, rfl⟩ := hcv.len
    obtain ⟨bb, oo, rfl, hcx⟩ := (hvt.le hle).at hc0
    (repeat' (first | refine X.rq ?_ | (refine X.rc ?_ ?_ <;> intro hc <;> first | (exfalso; omega) | skip)))
    refine K.s_pure (K.p_loadM (Fx.agg rfl) rfl (Cels.up hcx) (Fx.sz rfl) rfl) rfl ?_
    refine K.l_alloc (Fx.zr rfl) rfl rfl (fun B9 => ?_)
    refine X.stw ?_
    simp only [List.set_cons_zero, List.set_cons_succ, List.eraseIdx_cons_zero, List.eraseIdx_cons_succ, List.cons_append, List.nil_append]
    (repeat' (first | refine X.rq ?_ | (refine X.rc ?_ ?_ <;> intro hc <;> first | (exfalso; omega) | skip)))
    refine K.l_callF (vals := [.agg (cTab t (.slice av (t.cols.map cC).length cv)).toArray]) hcf rfl rfl hqx (perm_in [_, _, _, _, _]) rfl ?_
    rintro u h' H' - ⟨rfl, e, rfl⟩
    obtain rfl := e.symm
    refine K.WL.perm (perm_in [_, _, _, _, _]).symm ?_
    simp only [List.set_cons_zero, List.set_cons_succ, List.eraseIdx_cons_zero, List.eraseIdx_cons_succ, List.cons_append, List.nil_append]
    cases hqt : qt t with
    | false =>
      rw [hqt, if_neg (by decide), List.append_nil] at hft
      (repeat' (first | refine X.rq ?_ | (refine X.rc ?_ ?_ <;> intro hc <;> first | (exfalso; omega) | skip)))
      refine K.AT.sel [0] rfl ?_
      refine K.a_round hKL ⟨j + 1, hb, a, k, es⟩ ⟨by simp only; omega, hle, by simp only; rw [hft]; exact hes⟩ (by repeat (first | exact K.Sub.nil _ | refine K.Sub.cons rfl ?_)) rfl (by simp only; rw [hft]; rfl) (by simp only; omega)
    | true =>
      rw [hqt, if_pos rfl] at hft
      (repeat' (first | refine X.rq ?_ | (refine X.rc ?_ ?_ <;> intro hc <;> first | (exfalso; omega) | skip)))
      refine K.l_call (Fx.cal rfl) rfl hcl (K.pp [] rfl) rfl ?_
      rintro u h' H' - ⟨e, a1, k1, rfl, rfl⟩
      obtain rfl := e.symm
      simp only [List.set_cons_zero, List.set_cons_succ, List.eraseIdx_cons_zero, List.eraseIdx_cons_succ, List.cons_append, List.nil_append]
      rw [← (List.length_map .. : (t.cols.map cC).length = t.cols.length)]
      refine WL.freezeRowF (three _) (fun h2 hle2 hs2 _ hf2 => ?_)
      (repeat' (first | refine X.rq ?_ | (refine X.rc ?_ ?_ <;> intro hc <;> first | (exfalso; omega) | skip)))
      refine X.sto ?_
      simp only [List.set_cons_zero, List.set_cons_succ, List.eraseIdx_cons_zero, List.eraseIdx_cons_succ, List.cons_append, List.nil_append]
      (repeat' (first | refine X.rq ?_ | (refine X.rc ?_ ?_ <;> intro hc <;> first | (exfalso; omega) | skip)))
      have hee : Each (TabF h h2) (es ++ [cTab t (bufV a1 (t.cols.map cC).length k1)]) ((s.tabs.take j).filter qt ++ [t]) := Each.snoc (Each.mono (fun x c hc => hc.le (K.Base.le.refl _) hle2) hes) ⟨_, rfl, hs2, hf2.le hle (K.Base.le.refl _)⟩
      have hfl := List.length_filter_le qt (s.tabs.take j)
      have htl : (s.tabs.take j).length ≤ j := by simp; omega
      generalize hm : ((s.tabs.take j).filter qt).length = m at hfl
      refine K.l_buildSlice (Fx.und rfl) (Fx.sz rfl) rfl (Fx.zr rfl) rfl rfl rfl rfl rfl (fun B => ?_)
      refine K.l_append_at 2 rfl (Fx.und rfl) (Fx.und rfl) rfl (Fx.sz rfl) (Fx.zr rfl) rfl (Fx.byt rfl) rfl rfl (K.src_cells (K.cels_own (pre := []) (cs := cTab t (bufV a1 (t.cols.map cC).length k1)) (post := []) 0 rfl rfl) rfl (by simp [oneCell, cTab, bufV])) (by omega) (by omega) rfl (fun a3 k3 => ?_)
      simp only [List.set_cons_zero, List.set_cons_succ, List.eraseIdx_cons_zero, List.eraseIdx_cons_succ, List.cons_append, List.nil_append]
      (repeat' (first | refine X.rq ?_ | (refine X.rc ?_ ?_ <;> intro hc <;> first | (exfalso; omega) | skip)))
      refine X.sto ?_
      simp only [List.set_cons_zero, List.set_cons_succ, List.eraseIdx_cons_zero, List.eraseIdx_cons_succ, List.cons_append, List.nil_append]
      (repeat' (first | refine X.rq ?_ | (refine X.rc ?_ ?_ <;> intro hc <;> first | (exfalso; omega) | skip)))
      refine K.AT.sel [0, 0] rfl ?_
      refine K.a_round hKL ⟨j + 1, h2, a3, k3, es ++ [cTab t (bufV a1 (t.cols.map cC).length k1)]⟩ ⟨by simp only; omega, hle.trans hle2, by simp only; rw [hft]; exact hee⟩ (by repeat (first | exact K.Sub.nil _ | refine K.Sub.cons rfl ?_)) rfl (by simp only; rw [hft, List.length_append, hm, List.flatten_append]; simp only [List.flatten_cons, List.flatten_nil, List.append_nil]; rfl) (by simp only; omega)
  · obtain rfl : j = s.tabs.length := by omega
    rw [List.take_length] at hes ⊢
    generalize (s.tabs.filter qt).length = nt at *
    (repeat' (first | refine X.rq ?_ | (refine X.rc ?_ ?_ <;> intro hc <;> first | (exfalso; omega) | skip)))
    refine K.WC.nilBuf 43 6 ?_
    refine K.c_loop (σ := OwX) (fun q => [(2, .func (.func g) #[] gc.toArray), (6, .pointer (some ⟨BR, 0, none⟩)), (7, .pointer (some ⟨BO, 0, none⟩)), (34, .slice ai s.idxs.length ci), (35, .int .i64 s.idxs.length), (36, .int .i64 q.j)]) (fun q => q.hb)
      (fun q => bufA 43 6 q.a2 ((s.idxs.take q.j).filter qi).length q.k2 q.es2.flatten :: bufA 37 4 a nt k es.flatten :: blk BO 25 [bufV a nt k, bufV q.a2 ((s.idxs.take q.j).filter qi).length q.k2] :: blk BR 25 [.slice none 0 0, .slice none 0 0] :: blk BS 25 [.slice ao s.tabs.length ca, .slice ai s.idxs.length ci] :: (KK ++ F))
      (fun q => q.j ≤ s.idxs.length ∧ hb.le q.hb ∧ Each (IdxF h q.hb) q.es2 ((s.idxs.take q.j).filter qi)) (fun q => s.idxs.length - q.j) ⟨0, hb, none, 0, []⟩ ⟨Nat.zero_le _, K.Base.le.refl _, Each.nil⟩ (by repeat (first | exact K.Sub.nil _ | refine K.Sub.cons rfl ?_)) rfl rfl ?_
    clear hKL KL hj hjl
    rintro ⟨j, hb2, a2, k2, es2⟩ ⟨hj, hle2, hes2⟩ KL hKL
    simp only at hj hle2 hes2 ⊢
    by_cases hjl : j < s.idxs.length
    · have hx1 : s.idxs[j]? = some s.idxs[j] := List.getElem?_eq_getElem hjl
      have hwt : wfIx s.idxs[j] := hw.idxs _ (List.getElem_mem hjl)
      generalize s.idxs[j] = t at hx1 hwt
      have hft := filter_take hx1 qi
      obtain ⟨q, hc0, htc⟩ := hi.get hx1
      have hqx := hg hb2 t q (hle.trans hle2) (htc.le (hle.trans hle2))
      obtain ⟨v1, rfl, hcv⟩ := htc
      have hcl := CloneN hb2 v1 t.cols (hcv.le (hle.trans hle2)) hwt.len
      obtain ⟨av, cv, rfl⟩ := hcv.len
      obtain ⟨bb, oo, rfl, hcx⟩ := (hvi.le (hle.trans hle2)).at hc0
      (repeat' (first | refine X.rq ?_ | (refine X.rc ?_ ?_ <;> intro hc <;> first | (exfalso; omega) | skip)))
      refine K.s_pure (K.p_loadM (Fx.agg rfl) rfl (Cels.up hcx) (Fx.sz rfl) rfl) rfl ?_
      refine K.l_alloc (Fx.zr rfl) rfl rfl (fun B9 => ?_)
      refine X.stw ?_
      simp only [List.set_cons_zero, List.set_cons_succ, List.eraseIdx_cons_zero, List.eraseIdx_cons_succ, List.cons_append, List.nil_append]
      (repeat' (first | refine X.rq ?_ | (refine X.rc ?_ ?_ <;> intro hc <;> first | (exfalso; omega) | skip)))
      refine K.l_callF (vals := [.agg (cIdx t (.slice av (rowN t.cols).length cv)).toArray]) hcg rfl rfl hqx (perm_in [_, _, _, _, _, _]) rfl ?_
      rintro u h' H' - ⟨rfl, e, rfl⟩
      obtain rfl := e.symm
      refine K.WL.perm (perm_in [_, _, _, _, _, _]).symm ?_
      simp only [List.set_cons_zero, List.set_cons_succ, List.eraseIdx_cons_zero, List.eraseIdx_cons_succ, List.cons_append, List.nil_append]
      cases hqt : qi t with
      | false =>
        rw [hqt, if_neg (by decide), List.append_nil] at hft
        (repeat' (first | refine X.rq ?_ | (refine X.rc ?_ ?_ <;> intro hc <;> first | (exfalso; omega) | skip)))
        refine K.AT.sel [0] rfl ?_
        refine K.a_round hKL ⟨j + 1, hb2, a2, k2, es2⟩ ⟨by simp only; omega, hle2, by simp only; rw [hft]; exact hes2⟩ (by repeat (first | exact K.Sub.nil _ | refine K.Sub.cons rfl ?_)) rfl (by simp only; rw [hft]; rfl) (by simp only; omega)
      | true =>
        rw [hqt, if_pos rfl] at hft
        (repeat' (first | refine X.rq ?_ | (refine X.rc ?_ ?_ <;> intro hc <;> first | (exfalso; omega) | skip)))
        refine K.l_call (Fx.cal rfl) rfl hcl (K.pp [] rfl) rfl ?_
        rintro u h' H' - ⟨e, a1, k1, rfl, rfl⟩
        obtain rfl := e.symm
        simp only [List.set_cons_zero, List.set_cons_succ, List.eraseIdx_cons_zero, List.eraseIdx_cons_succ, List.cons_append, List.nil_append]
        have hlr : (rowN t.cols).length = t.cols.length := List.length_map ..
        rw [← hlr]
        refine WL.freezeRowF (oneN _) (fun h2 hle3 hs2 _ hf2 => ?_)
        (repeat' (first | refine X.rq ?_ | (refine X.rc ?_ ?_ <;> intro hc <;> first | (exfalso; omega) | skip)))
        refine X.sto ?_
        simp only [List.set_cons_zero, List.set_cons_succ, List.eraseIdx_cons_zero, List.eraseIdx_cons_succ, List.cons_append, List.nil_append]
        (repeat' (first | refine X.rq ?_ | (refine X.rc ?_ ?_ <;> intro hc <;> first | (exfalso; omega) | skip)))
        have hee : Each (IdxF h h2) (es2 ++ [cIdx t (bufV a1 (rowN t.cols).length k1)]) ((s.idxs.take j).filter qi ++ [t]) := Each.snoc (Each.mono (fun x c hc => hc.le (K.Base.le.refl _) hle3) hes2) ⟨_, rfl, hs2, hf2.le (hle.trans hle2) (K.Base.le.refl _)⟩
        have hfl := List.length_filter_le qi (s.idxs.take j)
        have htl : (s.idxs.take j).length ≤ j := by simp; omega
        generalize hm : ((s.idxs.take j).filter qi).length = m at hfl
        refine K.l_buildSlice (Fx.und rfl) (Fx.sz rfl) rfl (Fx.zr rfl) rfl rfl rfl rfl rfl (fun B => ?_)
        refine K.l_append_at 2 rfl (Fx.und rfl) (Fx.und rfl) rfl (Fx.sz rfl) (Fx.zr rfl) rfl (Fx.byt rfl) rfl rfl (K.src_cells (K.cels_own (pre := []) (cs := cIdx t (bufV a1 (rowN t.cols).length k1)) (post := []) 0 rfl rfl) rfl (by simp [oneCell, cIdx, bufV])) (by omega) (by omega) rfl (fun a3 k3 => ?_)
        simp only [List.set_cons_zero, List.set_cons_succ, List.eraseIdx_cons_zero, List.eraseIdx_cons_succ, List.cons_append, List.nil_append]
        (repeat' (first | refine X.rq ?_ | (refine X.rc ?_ ?_ <;> intro hc <;> first | (exfalso; omega) | skip)))
        refine X.sto ?_
        simp only [List.set_cons_zero, List.set_cons_succ, List.eraseIdx_cons_zero, List.eraseIdx_cons_succ, List.cons_append, List.nil_append]
        (repeat' (first | refine X.rq ?_ | (refine X.rc ?_ ?_ <;> intro hc <;> first | (exfalso; omega) | skip)))
        refine K.AT.sel [0, 0] rfl ?_
        refine K.a_round hKL ⟨j + 1, h2, a3, k3, es2 ++ [cIdx t (bufV a1 (rowN t.cols).length k1)]⟩ ⟨by simp only; omega, hle2.trans hle3, by simp only; rw [hft]; exact hee⟩ (by repeat (first | exact K.Sub.nil _ | refine K.Sub.cons rfl ?_)) rfl (by simp only; rw [hft, List.length_append, hm, List.flatten_append]; simp only [List.flatten_cons, List.flatten_nil, List.append_nil]; rfl) (by simp only; omega)
    · obtain rfl : j = s.idxs.length := by omega
      rw [List.take_length] at hes2 ⊢
      generalize (s.idxs.filter qi).length = ni at *
      (repeat' (first | refine X.rq ?_ | (refine X.rc ?_ ?_ <;> intro hc <;> first | (exfalso; omega) | skip)))
      refine X.stw ?_
      simp only [List.set_cons_zero, List.set_cons_succ, List.eraseIdx_cons_zero, List.eraseIdx_cons_succ, List.cons_append, List.nil_append]
      (repeat' (first | refine X.rq ?_ | (refine X.rc ?_ ?_ <;> intro hc <;> first | (exfalso; omega) | skip)))
      refine K.AT.perm (K.pp [2, 2, 2, 1, 0] rfl) ?_
      refine K.doneC (.inl rfl) (.cell rfl (Fx.agg rfl) (Fx.sz rfl) (K.cels_own (pre := []) (post := []) 1 rfl rfl) .nil) (hle.trans hle2) (vs := [.agg [bufV a nt k, bufV a2 ni k2].toArray]) (D := [_, _, _]) (H' := bufA 37 4 a nt k es.flatten :: bufA 43 6 a2 ni k2 es2.flatten :: KK) rfl ⟨a, k, a2, k2, es, es2, rfl, Each.mono (fun x c hc => hc.le (K.Base.le.refl _) hle2) hes, hes2, rfl⟩
end Go.Proofs.YtdjacjhojbkgjaaGreat.Ct
