/-
  The schema that rows may say: the document's Guess walked. Conditions: each theorem's own.
-/
import Derived.Test.YtdjacjhojbkgjaaWd
import Derived.Test.YtdjacjhojbkgjaaVw

namespace Go.Proofs.Ytdjacjhojbkgjaa.Ct
open Go Go.K Go.Proofs Go.Proofs.Ytdjacjhojbkgjaa Go.Proofs.Ytdjacjhojbkgjaa.Rw
set_option linter.unusedVariables false
set_option linter.unusedSimpArgs false
set_option maxRecDepth 10000

structure GI (s : PSch) (n : Nat) : Prop where
  tabs : ∀ t ∈ s.tabs, wfTb t
  idxs : ∀ x ∈ s.idxs, wfIx x
  lt : s.tabs.length ≤ n
  li : s.idxs.length ≤ n
theorem GI.wf {s : PSch} {n : Nat} (h : GI s n) (hn : n ≤ 1000000) : wfS s := ⟨h.tabs, h.idxs, by have := h.lt; omega, by have := h.li; omega⟩
theorem GI.zero : GI zSch 0 := ⟨fun t h => (by cases h), fun t h => (by cases h), Nat.le_refl _, Nat.le_refl _⟩
theorem colsG_ok {l : List (List Val)} (hw : ∀ r ∈ l, ∀ x ∈ r, wfV x) (id : Int) : ∀ f k, (colsG l id f k).length ≤ f ∧ ∀ c ∈ colsG l id f k, wfC c
  | 0, k => ⟨Nat.le_refl _, fun c hc => by rw [colsG] at hc; cases hc⟩
  | f + 1, k => by
    rw [colsG]
    split
    · rename_i r0 r1 r2 r3 r4 r5 hf
      have hm := hw _ (List.mem_of_find?_eq_some hf)
      obtain ⟨g1, g2⟩ := colsG_ok hw id f (k + 1)
      refine ⟨by simp; exact g1, fun c hc => ?_⟩
      rcases List.mem_cons.1 hc with rfl | hc
      · have w3 := hm r3 (by simp)
        have w4 := hm r4 (by simp)
        exact ⟨w4.n1, w4.n2, w3.s⟩
      · exact g2 c hc
    · exact ⟨Nat.zero_le _, fun c hc => by cases hc⟩
theorem keysG_ok {l : List (List Val)} (hw : ∀ r ∈ l, ∀ x ∈ r, wfV x) (id : Int) : ∀ f k, (keysG l id f k).length ≤ f ∧ ∀ c ∈ keysG l id f k, -9223372036854775808 ≤ c ∧ c ≤ 9223372036854775807
  | 0, k => ⟨Nat.le_refl _, fun c hc => by rw [keysG] at hc; cases hc⟩
  | f + 1, k => by
    rw [keysG]
    split
    · rename_i r0 r1 r2 r3 r4 r5 hf
      have hm := hw _ (List.mem_of_find?_eq_some hf)
      obtain ⟨g1, g2⟩ := keysG_ok hw id f (k + 1)
      refine ⟨by simp; exact g1, fun c hc => ?_⟩
      rcases List.mem_cons.1 hc with rfl | hc
      · have w4 := hm r4 (by simp)
        exact ⟨w4.n1, w4.n2⟩
      · exact g2 c hc
    · exact ⟨Nat.zero_le _, fun c hc => by cases hc⟩
theorem GI.up {s : PSch} {n : Nat} (h : GI s n) : GI s (n + 1) := ⟨h.tabs, h.idxs, by have := h.lt; omega, by have := h.li; omega⟩
theorem GI.step {l : List (List Val)} (hw : ∀ r ∈ l, ∀ x ∈ r, wfV x) {s : PSch} {n : Nat} {r : List Val} (h : GI s n) (hr : ∀ x ∈ r, wfV x) : GI (gStep l s r) (n + 1) := by
  unfold gStep
  split
  · rename_i r0 r1 r2 r3 r4 r5
    have w3 := (hr r3 (by simp)).s
    split
    · rename_i hf
      simp only [Bool.and_eq_true, fitV, decide_eq_true_eq] at hf
      split
      · obtain ⟨g1, g2⟩ := colsG_ok hw r1.n 17 0
        refine ⟨fun t ht => ?_, h.idxs, by simp; exact h.lt, Nat.le_succ_of_le h.li⟩
        rcases List.mem_append.1 ht with ht | ht
        · exact h.tabs t ht
        · rw [List.mem_singleton.1 ht]
          exact ⟨by show r1.n.toNat < _; omega, w3, g2, Nat.le_trans g1 (by decide), by show r4.n.toNat < _; omega⟩
      · split
        · rename_i hf2
          have hf2 := hf2.2
          simp only [fitV, decide_eq_true_eq] at hf2
          obtain ⟨g1, g2⟩ := keysG_ok hw r1.n 17 0
          refine ⟨h.tabs, fun t ht => ?_, Nat.le_succ_of_le h.lt, by simp; exact h.li⟩
          rcases List.mem_append.1 ht with ht | ht
          · exact h.idxs t ht
          · rw [List.mem_singleton.1 ht]
            exact ⟨by show r1.n.toNat < _; omega, by show r2.n.toNat < _; omega, w3, g2, Nat.le_trans g1 (by decide), by show r4.n.toNat < _; omega⟩
        · exact h.up
    · exact h.up
  · exact h.up
theorem RowsV.le {h h' : Base} {l : List (List Val)} {v : Value} (hv : RowsV h l v) (hle : h.le h') : RowsV h' l v := by
  obtain ⟨es, h1, h2⟩ := hv
  exact ⟨es, h1.le hle, h2.mono fun r c hc => hc.le hle⟩
theorem colsG_none {l : List (List Val)} {id : Int} {f k : Nat} (h : l.find? (hasK 2 id k) = none) : colsG l id (f + 1) k = [] := by rw [colsG, h]
theorem colsG_some {l : List (List Val)} {id : Int} {f k : Nat} {q0 q1 q2 q3 q4 q5 : Val} (h : l.find? (hasK 2 id k) = some [q0, q1, q2, q3, q4, q5]) : colsG l id (f + 1) k = ⟨q3.s, q4.n, decide (q5 = vB true)⟩ :: colsG l id f (k + 1) := by rw [colsG, h]
theorem keysG_none {l : List (List Val)} {id : Int} {f k : Nat} (h : l.find? (hasK 4 id k) = none) : keysG l id (f + 1) k = [] := by rw [keysG, h]
theorem keysG_some {l : List (List Val)} {id : Int} {f k : Nat} {q0 q1 q2 q3 q4 q5 : Val} (h : l.find? (hasK 4 id k) = some [q0, q1, q2, q3, q4, q5]) : keysG l id (f + 1) k = q4.n :: keysG l id f (k + 1) := by rw [keysG, h]
structure GuS where
  j : Nat
  hb : Base
  a : Option Nat
  k : Nat
  a2 : Option Nat
  k2 : Nat
  es : List (List Value)
  es2 : List (List Value)
  s : PSch
structure GuC where
  j : Nat
  a : Option Nat
  k : Nat
  cs : List Col
structure GuK where
  j : Nat
  a : Option Nat
  k : Nat
  cs : List Int
structure GuJ where
  a : Option Nat
  k : Nat
set_option maxHeartbeats 16000000 in
theorem RGuess (h : Base) (v : Value) (l : List (List Val)) (hv : RowsV h l v) (hw : ∀ r ∈ l, ∀ x ∈ r, wfV x) (hrl : ∀ r ∈ l, r.length ≤ 9223372036854775807) (hl : l.length ≤ 10000) :
    Tr Try.prog 58 [v] h [] (fun u h' H' => H' = [] ∧ ∃ cs, u = .agg cs.toArray ∧ SchC h' (guessQ l) cs ∧ wfS (guessQ l)) := by
  have hv' := hv
  obtain ⟨es0, hvl, hes0⟩ := hv
  obtain ⟨ao, ca, rfl⟩ := hvl.len
  rw [hes0.len] at hvl hv' ⊢
  refine K.enter Try.func58 rfl (Nat.le_of_ble_eq_true rfl) (fun F => ?_)
  simp only [List.nil_append, List.cons_append]
  (repeat' (first | refine X.rq ?_ | (refine X.rc ?_ ?_ <;> intro hc <;> first | (exfalso; omega) | skip)))
  refine K.l_alloc (Fx.zr rfl) rfl rfl (fun BR => ?_)
  (repeat' (first | refine X.rq ?_ | (refine X.rc ?_ ?_ <;> intro hc <;> first | (exfalso; omega) | skip)))
  refine K.l_alloc (Fx.zr rfl) rfl rfl (fun BO => ?_)
  (repeat' (first | refine X.rq ?_ | (refine X.rc ?_ ?_ <;> intro hc <;> first | (exfalso; omega) | skip)))
  refine K.l_call (Fx.cal rfl) rfl (RSorted h _ l hv' (fun r hr => ⟨hw r hr, hrl r hr⟩) (by omega)) (K.pp [] rfl) rfl ?_
  rintro u h1 H' hle ⟨rfl, es1, hv1, hes1⟩
  simp only [List.set_cons_zero, List.set_cons_succ, List.eraseIdx_cons_zero, List.eraseIdx_cons_succ, List.cons_append, List.nil_append]
  have hgq : guessQ l = (sortQ l).foldl (gStep l) zSch := rfl
  have hsl : ∀ r ∈ sortQ l, (∀ x ∈ r, wfV x) ∧ r.length ≤ 9223372036854775807 := fun r hr => ⟨hw r ((sortQ_perm l).subset hr), hrl r ((sortQ_perm l).subset hr)⟩
  have hsn : (sortQ l).length = l.length := (sortQ_perm l).length_eq
  have hvw := hv'
  generalize sortQ l = sl at hes1 hgq hsl hsn
  obtain ⟨ao1, ca1, rfl⟩ := hv1.len
  rw [hes1.len] at hv1 ⊢
  (repeat' (first | refine X.rq ?_ | (refine X.rc ?_ ?_ <;> intro hc <;> first | (exfalso; omega) | skip)))
  refine K.WC.nilBuf 53 6 (K.WC.nilBuf 46 4 ?_)
  refine K.c_loop (σ := GuS) (fun q => [(0, .slice ao l.length ca), (2, .pointer (some ⟨BR, 0, none⟩)), (3, .pointer (some ⟨BO, 0, none⟩)), (4, .slice ao1 sl.length ca1), (5, .int .i64 q.j)]) (fun q => q.hb)
    (fun q => bufA 46 4 q.a q.s.tabs.length q.k q.es.flatten :: bufA 53 6 q.a2 q.s.idxs.length q.k2 q.es2.flatten :: blk BO 25 [bufV q.a q.s.tabs.length q.k, bufV q.a2 q.s.idxs.length q.k2] :: blk BR 25 [.slice none 0 0, .slice none 0 0] :: F)
    (fun q => q.j ≤ sl.length ∧ h1.le q.hb ∧ Each (TabC q.hb) q.es q.s.tabs ∧ Each (IdxC q.hb) q.es2 q.s.idxs ∧ (sl.take q.j).foldl (gStep l) zSch = q.s ∧ GI q.s q.j) (fun q => sl.length - q.j) ⟨0, h1, none, 0, none, 0, [], [], zSch⟩ ⟨Nat.zero_le _, K.Base.le.refl _, Each.nil, Each.nil, rfl, GI.zero⟩ (by repeat (first | exact K.Sub.nil _ | refine K.Sub.cons rfl ?_)) rfl rfl ?_
  rintro ⟨j, hb, a, k, a2, k2, es, es2, s⟩ ⟨hj, hle1, hes, hes2, hs, hgi⟩ KL hKL
  simp only at hj hle1 hes hes2 hs hgi ⊢
  by_cases hjl : j < sl.length
  · have hx1 : sl[j]? = some sl[j] := List.getElem?_eq_getElem hjl
    obtain ⟨hrw, hrn⟩ := hsl _ (List.getElem_mem hjl)
    generalize sl[j] = r at hx1 hrw hrn
    have hst : (sl.take (j + 1)).foldl (gStep l) zSch = gStep l s r := by rw [(take_at hx1).1, List.foldl_append, hs]; rfl
    have hgi' := hgi.step hw hrw
    have hlt := hgi.lt
    have hli := hgi.li
    obtain ⟨c, hc0, v1, rfl, hvr⟩ := hes1.get hx1
    obtain ⟨bb, oo, rfl, hcx⟩ := (hv1.le hle1).at hc0
    by_cases h6 : r.length = 6
    case neg =>
      have e : gStep l s r = s := by
        unfold gStep
        split
        · exact absurd rfl h6
        · rfl
      have hrl2 : (r.map cV).length = r.length := List.length_map ..
      obtain ⟨av, cv, rfl⟩ := hvr.len
      rw [hrl2] at hcx
      (repeat' (first | refine X.rq ?_ | (refine X.rc ?_ ?_ <;> intro hc <;> first | (exfalso; omega) | skip)))
      refine K.s_pure (K.p_load (v := .slice av r.length cv) (Fx.agg rfl) rfl (Cels.up hcx).1) rfl ?_
      (repeat' (first | refine X.rq ?_ | (refine X.rc ?_ ?_ <;> intro hc <;> first | (exfalso; omega) | skip)))
      all_goals first | (exfalso; omega) | skip
      refine K.a_round hKL ⟨j + 1, hb, a, k, a2, k2, es, es2, s⟩ ⟨by simp only; omega, hle1, hes, hes2, by simp only; rw [hst, e], hgi.up⟩ (by repeat (first | exact K.Sub.nil _ | refine K.Sub.cons rfl ?_)) rfl rfl (by simp only; omega)
    obtain ⟨r0, r1, r2, r3, r4, r5, rfl⟩ := six_of h6
    obtain ⟨rb, ro, rc, rfl, c0, c1, c2, c3, c4, c5⟩ := six_cells (hvr.le hle1)
    have hg : gStep l s [r0, r1, r2, r3, r4, r5] = if fitV r1 && fitV r4 then
      if r0 = vN 1 then ⟨s.tabs ++ [⟨r1.n.toNat, r3.s, colsG l r1.n 17 0, r4.n.toNat⟩], s.idxs⟩
      else if r0 = vN 3 ∧ fitV r2 = true then ⟨s.tabs, s.idxs ++ [⟨r1.n.toNat, r2.n.toNat, r3.s, keysG l r1.n 17 0, decide (r5 = vB true), r4.n.toNat⟩]⟩
      else s
    else s := rfl
    (repeat' (first | refine X.rq ?_ | (refine X.rc ?_ ?_ <;> intro hc <;> first | (exfalso; omega) | skip)))
    refine K.s_pure (K.p_load (v := .slice (some ⟨rb, ro, none⟩) 6 rc) (Fx.agg rfl) rfl (Cels.up hcx).1) rfl ?_
    (repeat' (first | refine X.rq ?_ | (refine X.rc ?_ ?_ <;> intro hc <;> first | (exfalso; omega) | skip)))
    all_goals first | (exfalso; omega) | skip
    refine K.s_pure (K.p_loadM (Fx.agg rfl) rfl (Cels.up c1) (Fx.sz rfl) rfl) rfl ?_
    (repeat' (first | refine X.rq ?_ | (refine X.rc ?_ ?_ <;> intro hc <;> first | (exfalso; omega) | skip)))
    refine K.l_callV (Fx.cal rfl) rfl (RFits hb r1) (K.pp [] rfl) rfl rfl ?_
    simp only [List.nil_append]
    cases hf1 : fitV r1 with
    | false =>
      rw [hf1, Bool.false_and, if_neg (by decide)] at hg
      (repeat' (first | refine X.rq ?_ | (refine X.rc ?_ ?_ <;> intro hc <;> first | (exfalso; omega) | skip)))
      refine K.a_round hKL ⟨j + 1, hb, a, k, a2, k2, es, es2, s⟩ ⟨by simp only; omega, hle1, hes, hes2, by simp only; rw [hst, hg], hgi.up⟩ (by repeat (first | exact K.Sub.nil _ | refine K.Sub.cons rfl ?_)) rfl rfl (by simp only; omega)
    | true =>
      (repeat' (first | refine X.rq ?_ | (refine X.rc ?_ ?_ <;> intro hc <;> first | (exfalso; omega) | skip)))
      refine K.s_pure (K.p_loadM (Fx.agg rfl) rfl (Cels.up c4) (Fx.sz rfl) rfl) rfl ?_
      (repeat' (first | refine X.rq ?_ | (refine X.rc ?_ ?_ <;> intro hc <;> first | (exfalso; omega) | skip)))
      refine K.l_callV (Fx.cal rfl) rfl (RFits hb r4) (K.pp [] rfl) rfl rfl ?_
      simp only [List.nil_append]
      cases hf4 : fitV r4 with
      | false =>
        rw [hf1, hf4, Bool.and_false, if_neg (by decide)] at hg
        (repeat' (first | refine X.rq ?_ | (refine X.rc ?_ ?_ <;> intro hc <;> first | (exfalso; omega) | skip)))
        refine K.a_round hKL ⟨j + 1, hb, a, k, a2, k2, es, es2, s⟩ ⟨by simp only; omega, hle1, hes, hes2, by simp only; rw [hst, hg], hgi.up⟩ (by repeat (first | exact K.Sub.nil _ | refine K.Sub.cons rfl ?_)) rfl rfl (by simp only; omega)
      | true =>
        rw [hf1, hf4, Bool.and_self, if_pos rfl] at hg
        have g1 := of_decide_eq_true hf1
        have g4 := of_decide_eq_true hf4
        obtain ⟨n1, hn1⟩ := Int.eq_ofNat_of_zero_le g1.2.1
        obtain ⟨n4, hn4⟩ := Int.eq_ofNat_of_zero_le g4.2.1
        have d1 : Cel hb [] rb (ro + 1 * 3 + 1) (.int .i64 n1) := hn1 ▸ c1.2.1
        have d3 : Cel hb [] rb (ro + 3 * 3 + 2) (.string r3.s) := c3.2.2.1
        have d4 : Cel hb [] rb (ro + 4 * 3 + 1) (.int .i64 n4) := hn4 ▸ c4.2.1
        have up : ∀ {o : Nat} {u : Value} {KK : List Asrt}, Cel hb [] rb o u → Cel hb KK rb o u := fun hc => hc.sub fun A hA => by cases hA
        rw [hn1, hn4] at hg
        simp only [Int.toNat_natCast] at hg
        have g1' := g1.2.2
        have g4' := g4.2.2
        rw [hn1] at g1'
        rw [hn4] at g4'
        by_cases b0 : r0 = vN 1
        · rw [if_pos b0] at hg
          have b3 : ¬ r0 = vN 3 := fun e => by rw [e] at b0; cases b0
          (repeat' (first | refine X.rq ?_ | (refine X.rc ?_ ?_ <;> intro hc <;> first | (exfalso; omega) | skip)))
          refine X.draw ([]) [] (.pu 0 (.pu 1 (.st 2 (.on 3 (.pu 4 .nil))))) ?_ (hQ := by repeat (first | with_reducible refine K.NoPanic.then ?_ | with_reducible refine K.NoPanic.inBlock ?_ | with_reducible exact K.post_noPanic _ _ | exact K.post_noPanic _ _))
          refine K.d_pu rfl (fun _ _ => X.mv) rfl ?_
          refine K.d_pu rfl (fun _ _ => X.ia) rfl ?_
          refine K.d_st rfl (K.p_loadM (Fx.agg rfl) rfl (Cels.up c0) (Fx.sz rfl) rfl) rfl ?_
          refine K.d_on rfl (fun KK hKK => ?_)
          refine K.l_callV (Fx.cal rfl) rfl (RNum hb 1) (K.pp [] rfl) rfl rfl ?_
          simp only [List.nil_append]
          refine K.l_nil ?_
          refine X.onE hKK ?_
          refine K.d_pu rfl (fun _ _ => X.beql) rfl ?_
          rw [eqN, decide_eq_true b0]
          refine K.d_nil ?_
          (repeat' (first | refine X.rq ?_ | (refine X.rc ?_ ?_ <;> intro hc <;> first | (exfalso; omega) | skip)))
          refine X.draw ([]) [] (.pu 0 (.pu 1 (.pu 2 (.pu 5 (.pu 6 (.pu 7 (.pu 9 (.pu 10 (.pu 11 (.st 3 (.pu 4 (.st 8 (.st 12 (.pu 13 (.pu 14 (.on 15 (.on 16 .nil))))))))))))))))) ?_ (hQ := by repeat (first | with_reducible refine K.NoPanic.then ?_ | with_reducible refine K.NoPanic.inBlock ?_ | with_reducible exact K.post_noPanic _ _ | exact K.post_noPanic _ _))
          refine K.d_pu rfl (fun _ _ => X.mv) rfl ?_
          refine K.d_pu rfl (fun _ _ => X.ia) rfl ?_
          refine K.d_pu rfl (fun _ _ => X.fa) rfl ?_
          refine K.d_pu rfl (fun _ _ => X.mv) rfl ?_
          refine K.d_pu rfl (fun _ _ => X.ia) rfl ?_
          refine K.d_pu rfl (fun _ _ => X.fa) rfl ?_
          refine K.d_pu rfl (fun _ _ => X.mv) rfl ?_
          refine K.d_pu rfl (fun _ _ => X.ia) rfl ?_
          refine K.d_pu rfl (fun _ _ => X.fa) rfl ?_
          refine K.d_st rfl (K.p_load (Fx.agg rfl) rfl (up d1)) rfl ?_
          refine K.d_pu rfl (fun _ _ => X.cv) rfl ?_
          refine K.d_st rfl (K.p_load (Fx.agg rfl) rfl (up d3)) rfl ?_
          refine K.d_st rfl (K.p_load (Fx.agg rfl) rfl (up d4)) rfl ?_
          refine K.d_pu rfl (fun _ _ => X.cv) rfl ?_
          refine K.d_pu rfl (fun _ _ => X.bd) rfl ?_
          refine K.d_on rfl (fun KK hKK => ?_)
          refine K.l_alloc (Fx.zr rfl) rfl rfl (fun B7 => ?_)
          refine K.l_nil ?_
          refine X.onE hKK ?_
          refine K.d_on rfl (fun KK hKK => ?_)
          refine X.stw ?_
          simp only [List.set_cons_zero, List.set_cons_succ, List.eraseIdx_cons_zero, List.eraseIdx_cons_succ, List.cons_append, List.nil_append]
          refine K.l_nil ?_
          refine X.onE hKK ?_
          refine K.d_nil ?_
          have hl0 := colsG_ok hw (n1 : Int) 17 0
          generalize hcg : colsG l (n1 : Int) 17 0 = cs0 at hg hl0
          refine K.a_then (K.c_seq (K.c_join (β := GuJ) (fun q => [(0, .slice ao l.length ca), (2, .pointer (some ⟨BR, 0, none⟩)), (3, .pointer (some ⟨BO, 0, none⟩)), (4, .slice (some ⟨bb, oo, none⟩) sl.length ca1), (5, .int .i64 j), (6, .slice (some ⟨rb, ro, none⟩) 6 rc), (7, .pointer (some ⟨B7, 0, none⟩))]) (fun _ => hb)
            (fun q => bufA 36 3 q.a cs0.length q.k (cs0.map cC).flatten :: blk B7 46 (cTab ⟨n1, r3.s, cs0, n4⟩ (bufV q.a cs0.length q.k)) :: bufA 46 4 a s.tabs.length k es.flatten :: bufA 53 6 a2 s.idxs.length k2 es2.flatten :: blk BO 25 [bufV a s.tabs.length k, bufV a2 s.idxs.length k2] :: blk BR 25 [.slice none 0 0, .slice none 0 0] :: F) (fun _ => True) (fun KJ hJ => ?_) ?_))
          · refine K.WC.nilBuf 36 3 ?_
            (repeat' (first | refine X.rq ?_ | (refine X.rc ?_ ?_ <;> intro hc <;> first | (exfalso; omega) | skip)))
            refine K.c_loop (σ := GuC) (fun q => [(0, .slice ao l.length ca), (2, .pointer (some ⟨BR, 0, none⟩)), (3, .pointer (some ⟨BO, 0, none⟩)), (4, .slice (some ⟨bb, oo, none⟩) sl.length ca1), (5, .int .i64 j), (6, .slice (some ⟨rb, ro, none⟩) 6 rc), (7, .pointer (some ⟨B7, 0, none⟩)), (8, .int .i64 q.j)]) (fun _ => hb)
              (fun q => bufA 36 3 q.a q.cs.length q.k (q.cs.map cC).flatten :: blk B7 46 (cTab ⟨n1, r3.s, cs0, n4⟩ (bufV q.a q.cs.length q.k)) :: bufA 46 4 a s.tabs.length k es.flatten :: bufA 53 6 a2 s.idxs.length k2 es2.flatten :: blk BO 25 [bufV a s.tabs.length k, bufV a2 s.idxs.length k2] :: blk BR 25 [.slice none 0 0, .slice none 0 0] :: F)
              (fun q => q.j ≤ 17 ∧ q.cs.length = q.j ∧ cs0 = q.cs ++ colsG l n1 (17 - q.j) q.j) (fun q => 17 - q.j) ⟨0, none, 0, []⟩ ⟨by decide, rfl, hcg.symm⟩ (by repeat (first | exact K.Sub.nil _ | refine K.Sub.cons rfl ?_)) rfl rfl ?_
            rintro ⟨i, ca', ck, cs⟩ ⟨hi, hcl, hcs⟩ KM hKM
            simp only at hi hcl hcs ⊢
            by_cases hil : i < 17
            · rw [show 17 - i = (16 - i) + 1 by omega] at hcs
              (repeat' (first | refine X.rq ?_ | (refine X.rc ?_ ?_ <;> intro hc <;> first | (exfalso; omega) | skip)))
              refine K.s_pure (K.p_load (Fx.agg rfl) rfl (up d1)) rfl ?_
              (repeat' (first | refine X.rq ?_ | (refine X.rc ?_ ?_ <;> intro hc <;> first | (exfalso; omega) | skip)))
              refine K.l_call (Fx.cal rfl) rfl (RWhere hb _ l 2 n1 i (hvw.le (hle.trans hle1)) hrl (by omega)) (K.pp [] rfl) rfl ?_
              rintro u h' H' - ⟨e, rfl, iw, rfl, ⟨rfl, hfn⟩ | ⟨nw, rw', rfl, hnw, hfs⟩⟩
              · obtain rfl := e.symm
                simp only [List.set_cons_zero, List.set_cons_succ, List.eraseIdx_cons_zero, List.eraseIdx_cons_succ, List.cons_append, List.nil_append]
                rw [colsG_none hfn, List.append_nil] at hcs
                subst hcs
                (repeat' (first | refine X.rq ?_ | (refine X.rc ?_ ?_ <;> intro hc <;> first | (exfalso; omega) | skip)))
                exact K.a_join hJ ⟨ca', ck⟩ trivial (by repeat (first | exact K.Sub.nil _ | refine K.Sub.cons rfl ?_)) rfl rfl
              · obtain rfl := e.symm
                simp only [List.set_cons_zero, List.set_cons_succ, List.eraseIdx_cons_zero, List.eraseIdx_cons_succ, List.cons_append, List.nil_append]
                have h6' := has_six (List.find?_some hfs)
                obtain ⟨q0, q1, q2, q3, q4, q5, rfl⟩ := six_of h6'
                rw [colsG_some hfs] at hcs
                obtain ⟨cw, hcw, vw, rfl, hvq⟩ := hes0.get hnw
                obtain ⟨qb, qo, qc, rfl, e0, e1, e2, e3, e4, e5⟩ := six_cells (hvq.le (hle.trans hle1))
                obtain ⟨bl, ol, rfl, hcl2⟩ := (hvl.le (hle.trans hle1)).at hcw
                have hnl := (List.getElem?_eq_some_iff.1 hnw).1
                (repeat' (first | refine X.rq ?_ | (refine X.rc ?_ ?_ <;> intro hc <;> first | (exfalso; omega) | skip)))
                all_goals first | (exfalso; omega) | skip
                refine X.draw ([blk B7 46 (cTab ⟨n1, r3.s, cs0, n4⟩ (bufV ca' cs.length ck))]) [28] (.pu 0 (.pu 2 (.pu 3 (.pu 4 (.pu 9 (.pu 10 (.pu 11 (.pu 16 (.pu 17 (.pu 18 (.st 1 (.st 5 (.pu 6 (.pu 7 (.st 8 (.st 12 (.pu 13 (.pu 14 (.st 15 (.st 19 (.pu 20 (.st 21 (.on 22 (.pu 23 (.pu 24 (.on 25 (.on 26 (.pu 27 (.cl 28 .nil))))))))))))))))))))))))))))) ?_ (hQ := by repeat (first | with_reducible refine K.NoPanic.then ?_ | with_reducible refine K.NoPanic.inBlock ?_ | with_reducible exact K.post_noPanic _ _ | exact K.post_noPanic _ _))
                refine K.d_pu rfl (fun _ _ => X.fa) rfl ?_
                refine K.d_pu rfl (fun _ _ => X.mv) rfl ?_
                refine K.d_pu rfl (fun _ _ => X.mv) rfl ?_
                refine K.d_pu rfl (fun _ _ => X.ia) rfl ?_
                refine K.d_pu rfl (fun _ _ => X.mv) rfl ?_
                refine K.d_pu rfl (fun _ _ => X.mv) rfl ?_
                refine K.d_pu rfl (fun _ _ => X.ia) rfl ?_
                refine K.d_pu rfl (fun _ _ => X.mv) rfl ?_
                refine K.d_pu rfl (fun _ _ => X.mv) rfl ?_
                refine K.d_pu rfl (fun _ _ => X.ia) rfl ?_
                refine K.d_st rfl X.ld rfl ?_
                refine K.d_st rfl (K.p_load (v := .slice (some ⟨qb, qo, none⟩) 6 qc) (Fx.agg rfl) rfl (Cels.up hcl2).1) rfl ?_
                refine K.d_pu rfl (fun _ _ => X.ia) rfl ?_
                refine K.d_pu rfl (fun _ _ => X.fa) rfl ?_
                refine K.d_st rfl (K.p_load (v := .string q3.s) (Fx.agg rfl) rfl (Cels.up e3).2.2.1) rfl ?_
                refine K.d_st rfl (K.p_load (v := .slice (some ⟨qb, qo, none⟩) 6 qc) (Fx.agg rfl) rfl (Cels.up hcl2).1) rfl ?_
                refine K.d_pu rfl (fun _ _ => X.ia) rfl ?_
                refine K.d_pu rfl (fun _ _ => X.fa) rfl ?_
                refine K.d_st rfl (K.p_load (v := .int .i64 q4.n) (Fx.agg rfl) rfl (Cels.up e4).2.1) rfl ?_
                refine K.d_st rfl (K.p_load (v := .slice (some ⟨qb, qo, none⟩) 6 qc) (Fx.agg rfl) rfl (Cels.up hcl2).1) rfl ?_
                refine K.d_pu rfl (fun _ _ => X.ia) rfl ?_
                refine K.d_st rfl (K.p_loadM (Fx.agg rfl) rfl (Cels.up e5) (Fx.sz rfl) rfl) rfl ?_
                refine K.d_on rfl (fun KK hKK => ?_)
                refine K.l_callV (Fx.cal rfl) rfl (Truth hb true) (K.pp [] rfl) rfl rfl ?_
                simp only [List.nil_append]
                refine K.l_nil ?_
                refine X.onE hKK ?_
                refine K.d_pu rfl (fun _ _ => X.beql) rfl ?_
                rw [eqB]
                refine K.d_pu rfl (fun _ _ => X.bd) rfl ?_
                refine K.d_on rfl (fun KK hKK => ?_)
                refine X.bs (fun B => ?_)
                refine K.l_nil ?_
                refine X.onE hKK ?_
                refine K.d_on rfl (fun KK hKK => ?_)
                refine K.l_append_at 1 rfl (Fx.und rfl) (Fx.und rfl) rfl (Fx.sz rfl) (Fx.zr rfl) rfl (Fx.byt rfl) rfl rfl (K.src_cells (K.cels_own (pre := []) (cs := cC ⟨q3.s, q4.n, decide (q5 = vB true)⟩) (post := []) 0 rfl rfl) rfl (by simp [oneCell, cC])) (by omega) (by omega) rfl (fun a3 k3 => ?_)
                simp only [List.set_cons_zero, List.set_cons_succ, List.eraseIdx_cons_zero, List.eraseIdx_cons_succ, List.cons_append, List.nil_append]
                refine K.l_nil ?_
                refine X.onE hKK ?_
                refine K.d_pu rfl (fun _ _ => X.fa) rfl ?_
                refine K.d_cl rfl (fun KK hKK => ?_)
                refine X.sto ?_
                simp only [List.set_cons_zero, List.set_cons_succ, List.eraseIdx_cons_zero, List.eraseIdx_cons_succ, List.cons_append, List.nil_append]
                refine K.l_nil ?_
                refine K.d_clE hKK ?_
                refine K.d_nil ?_
                (repeat' (first | refine X.rq ?_ | (refine X.rc ?_ ?_ <;> intro hc <;> first | (exfalso; omega) | skip)))
                refine K.AT.sel [0] rfl ?_
                refine K.a_round hKM ⟨i + 1, a3, k3, cs ++ [⟨q3.s, q4.n, decide (q5 = vB true)⟩]⟩ ⟨by simp only; omega, by simp [hcl], by simp only; rw [List.append_assoc, show 17 - (i + 1) = 16 - i by omega]; exact hcs⟩ (by repeat (first | exact K.Sub.nil _ | refine K.Sub.cons rfl ?_)) rfl (by simp only [List.length_append, List.length_cons, List.length_nil, List.map_append, List.map_cons, List.map_nil, List.flatten_append, List.flatten_cons, List.flatten_nil, List.append_nil]; rfl) (by simp only; omega)
            · obtain rfl : i = 17 := by omega
              rw [show 17 - 17 = 0 from rfl, colsG, List.append_nil] at hcs
              subst hcs
              (repeat' (first | refine X.rq ?_ | (refine X.rc ?_ ?_ <;> intro hc <;> first | (exfalso; omega) | skip)))
              exact K.a_join hJ ⟨ca', ck⟩ trivial (by repeat (first | exact K.Sub.nil _ | refine K.Sub.cons rfl ?_)) rfl rfl
          · rintro ⟨ca', ck⟩ -
            simp only
            (repeat' (first | refine X.rq ?_ | (refine X.rc ?_ ?_ <;> intro hc <;> first | (exfalso; omega) | skip)))
            refine K.WL.freezeRowN (m := cs0.length) (by simp) (three _) (fun h2 hle2 hs2 => ?_)
            refine K.l_buildSlice (Fx.und rfl) (Fx.sz rfl) rfl (Fx.zr rfl) rfl rfl rfl rfl rfl (fun B => ?_)
            refine K.l_append_at 2 rfl (Fx.und rfl) (Fx.und rfl) rfl (Fx.sz rfl) (Fx.zr rfl) rfl (Fx.byt rfl) rfl rfl (K.src_cells (K.cels_own (pre := []) (cs := cTab ⟨n1, r3.s, cs0, n4⟩ (bufV ca' cs0.length ck)) (post := []) 0 rfl rfl) rfl (by simp [oneCell, cTab, bufV])) (by omega) (by omega) rfl (fun a3 k3 => ?_)
            simp only [List.set_cons_zero, List.set_cons_succ, List.eraseIdx_cons_zero, List.eraseIdx_cons_succ, List.cons_append, List.nil_append]
            (repeat' (first | refine X.rq ?_ | (refine X.rc ?_ ?_ <;> intro hc <;> first | (exfalso; omega) | skip)))
            refine X.sto ?_
            simp only [List.set_cons_zero, List.set_cons_succ, List.eraseIdx_cons_zero, List.eraseIdx_cons_succ, List.cons_append, List.nil_append]
            (repeat' (first | refine X.rq ?_ | (refine X.rc ?_ ?_ <;> intro hc <;> first | (exfalso; omega) | skip)))
            refine X.draw ([]) [] (.pu 0 (.pu 1 (.st 2 (.on 3 (.pu 4 (.pu 5 (.pu 6 (.pu 7 (.st 8 (.on 9 (.pu 10 .nil))))))))))) ?_ (hQ := by repeat (first | with_reducible refine K.NoPanic.then ?_ | with_reducible refine K.NoPanic.inBlock ?_ | with_reducible exact K.post_noPanic _ _ | exact K.post_noPanic _ _))
            refine K.d_pu rfl (fun _ _ => X.mv) rfl ?_
            refine K.d_pu rfl (fun _ _ => X.ia) rfl ?_
            refine K.d_st rfl (K.p_loadM (Fx.agg rfl) rfl ((Cels.up c0).le hle2) (Fx.sz rfl) rfl) rfl ?_
            refine K.d_on rfl (fun KK hKK => ?_)
            refine K.l_callV (Fx.cal rfl) rfl (RNum h2 3) (K.pp [] rfl) rfl rfl ?_
            simp only [List.nil_append]
            refine K.l_nil ?_
            refine X.onE hKK ?_
            refine K.d_pu rfl (fun _ _ => X.beql) rfl ?_
            rw [eqN, decide_eq_false b3]
            refine K.d_pu rfl (fun _ _ => X.mv) rfl ?_
            first | refine K.d_skip rfl rfl rfl rfl ?_ | refine K.d_skipU rfl rfl rfl rfl rfl ?_ | refine K.d_puG rfl rfl rfl (fun _ _ => X.mv) rfl ?_
            first | refine K.d_skip rfl rfl rfl rfl ?_ | refine K.d_skipU rfl rfl rfl rfl rfl ?_ | refine K.d_puG rfl rfl rfl (fun _ _ => X.ia) rfl ?_
            first | refine K.d_skipS rfl rfl rfl rfl ?_ | refine K.d_skipUS rfl rfl rfl rfl rfl ?_ | refine K.d_stG rfl rfl rfl X.ld rfl ?_
            refine K.d_on rfl (fun KK hKK => ?_)
            first | refine K.s_skip rfl rfl rfl ?_ | refine K.s_skipU rfl rfl rfl rfl ?_
            refine K.l_nil ?_
            refine X.onE hKK ?_
            refine K.d_pu rfl (fun _ _ => X.pk) rfl ?_
            refine K.d_nil ?_
            (repeat' (first | refine X.rq ?_ | (refine X.rc ?_ ?_ <;> intro hc <;> first | (exfalso; omega) | skip)))
            have hee : Each (TabC h2) (es ++ [cTab ⟨n1, r3.s, cs0, n4⟩ (bufV ca' cs0.length ck)]) (s.tabs ++ [⟨n1, r3.s, cs0, n4⟩]) := Each.snoc (hes.mono fun x c hc => hc.le hle2) ⟨_, rfl, hs2⟩
            refine K.AT.sel [0, 0] rfl ?_
            refine K.a_round hKL ⟨j + 1, h2, a3, k3, a2, k2, es ++ [cTab ⟨n1, r3.s, cs0, n4⟩ (bufV ca' cs0.length ck)], es2, ⟨s.tabs ++ [⟨n1, r3.s, cs0, n4⟩], s.idxs⟩⟩ ⟨by simp only; omega, hle1.trans hle2, hee, hes2.mono fun x c hc => hc.le hle2, by simp only; rw [hst, hg], hg ▸ hgi'⟩ (by repeat (first | exact K.Sub.nil _ | refine K.Sub.cons rfl ?_)) rfl (by simp only [List.length_append, List.length_cons, List.length_nil, List.flatten_append, List.flatten_cons, List.flatten_nil, List.append_nil]; rfl) (by simp only; omega)
        · rw [if_neg b0] at hg
          (repeat' (first | refine X.rq ?_ | (refine X.rc ?_ ?_ <;> intro hc <;> first | (exfalso; omega) | skip)))
          refine X.draw ([]) [] (.pu 0 (.pu 1 (.st 2 (.on 3 (.pu 4 .nil))))) ?_ (hQ := by repeat (first | with_reducible refine K.NoPanic.then ?_ | with_reducible refine K.NoPanic.inBlock ?_ | with_reducible exact K.post_noPanic _ _ | exact K.post_noPanic _ _))
          refine K.d_pu rfl (fun _ _ => X.mv) rfl ?_
          refine K.d_pu rfl (fun _ _ => X.ia) rfl ?_
          refine K.d_st rfl (K.p_loadM (Fx.agg rfl) rfl (Cels.up c0) (Fx.sz rfl) rfl) rfl ?_
          refine K.d_on rfl (fun KK hKK => ?_)
          refine K.l_callV (Fx.cal rfl) rfl (RNum hb 1) (K.pp [] rfl) rfl rfl ?_
          simp only [List.nil_append]
          refine K.l_nil ?_
          refine X.onE hKK ?_
          refine K.d_pu rfl (fun _ _ => X.beql) rfl ?_
          rw [eqN, decide_eq_false b0]
          refine K.d_nil ?_
          by_cases b3 : r0 = vN 3
          case neg =>
            rw [if_neg (fun e => b3 e.1)] at hg
            (repeat' (first | refine X.rq ?_ | (refine X.rc ?_ ?_ <;> intro hc <;> first | (exfalso; omega) | skip)))
            refine X.draw ([]) [] (.pu 0 (.pu 1 (.st 2 (.on 3 (.pu 4 (.pu 5 (.pu 6 (.pu 7 (.st 8 (.on 9 (.pu 10 .nil))))))))))) ?_ (hQ := by repeat (first | with_reducible refine K.NoPanic.then ?_ | with_reducible refine K.NoPanic.inBlock ?_ | with_reducible exact K.post_noPanic _ _ | exact K.post_noPanic _ _))
            refine K.d_pu rfl (fun _ _ => X.mv) rfl ?_
            refine K.d_pu rfl (fun _ _ => X.ia) rfl ?_
            refine K.d_st rfl (K.p_loadM (Fx.agg rfl) rfl (Cels.up c0) (Fx.sz rfl) rfl) rfl ?_
            refine K.d_on rfl (fun KK hKK => ?_)
            refine K.l_callV (Fx.cal rfl) rfl (RNum hb 3) (K.pp [] rfl) rfl rfl ?_
            simp only [List.nil_append]
            refine K.l_nil ?_
            refine X.onE hKK ?_
            refine K.d_pu rfl (fun _ _ => X.beql) rfl ?_
            rw [eqN, decide_eq_false b3]
            refine K.d_pu rfl (fun _ _ => X.mv) rfl ?_
            first | refine K.d_skip rfl rfl rfl rfl ?_ | refine K.d_skipU rfl rfl rfl rfl rfl ?_ | refine K.d_puG rfl rfl rfl (fun _ _ => X.mv) rfl ?_
            first | refine K.d_skip rfl rfl rfl rfl ?_ | refine K.d_skipU rfl rfl rfl rfl rfl ?_ | refine K.d_puG rfl rfl rfl (fun _ _ => X.ia) rfl ?_
            first | refine K.d_skipS rfl rfl rfl rfl ?_ | refine K.d_skipUS rfl rfl rfl rfl rfl ?_ | refine K.d_stG rfl rfl rfl X.ld rfl ?_
            refine K.d_on rfl (fun KK hKK => ?_)
            first | refine K.s_skip rfl rfl rfl ?_ | refine K.s_skipU rfl rfl rfl rfl ?_
            refine K.l_nil ?_
            refine X.onE hKK ?_
            refine K.d_pu rfl (fun _ _ => X.pk) rfl ?_
            refine K.d_nil ?_
            (repeat' (first | refine X.rq ?_ | (refine X.rc ?_ ?_ <;> intro hc <;> first | (exfalso; omega) | skip)))
            refine K.a_round hKL ⟨j + 1, hb, a, k, a2, k2, es, es2, s⟩ ⟨by simp only; omega, hle1, hes, hes2, by simp only; rw [hst, hg], hgi.up⟩ (by repeat (first | exact K.Sub.nil _ | refine K.Sub.cons rfl ?_)) rfl rfl (by simp only; omega)
          (repeat' (first | refine X.rq ?_ | (refine X.rc ?_ ?_ <;> intro hc <;> first | (exfalso; omega) | skip)))
          refine X.draw ([]) [] (.pu 0 (.pu 1 (.st 2 (.on 3 (.pu 4 (.pu 5 (.pu 6 (.pu 7 (.st 8 (.on 9 (.pu 10 .nil))))))))))) ?_ (hQ := by repeat (first | with_reducible refine K.NoPanic.then ?_ | with_reducible refine K.NoPanic.inBlock ?_ | with_reducible exact K.post_noPanic _ _ | exact K.post_noPanic _ _))
          refine K.d_pu rfl (fun _ _ => X.mv) rfl ?_
          refine K.d_pu rfl (fun _ _ => X.ia) rfl ?_
          refine K.d_st rfl (K.p_loadM (Fx.agg rfl) rfl (Cels.up c0) (Fx.sz rfl) rfl) rfl ?_
          refine K.d_on rfl (fun KK hKK => ?_)
          refine K.l_callV (Fx.cal rfl) rfl (RNum hb 3) (K.pp [] rfl) rfl rfl ?_
          simp only [List.nil_append]
          refine K.l_nil ?_
          refine X.onE hKK ?_
          refine K.d_pu rfl (fun _ _ => X.beql) rfl ?_
          rw [eqN, decide_eq_true b3]
          refine K.d_pu rfl (fun _ _ => X.mv) rfl ?_
          first | refine K.d_skip rfl rfl rfl rfl ?_ | refine K.d_skipU rfl rfl rfl rfl rfl ?_ | refine K.d_puG rfl rfl rfl (fun _ _ => X.mv) rfl ?_
          first | refine K.d_skip rfl rfl rfl rfl ?_ | refine K.d_skipU rfl rfl rfl rfl rfl ?_ | refine K.d_puG rfl rfl rfl (fun _ _ => X.ia) rfl ?_
          refine K.d_stG rfl rfl rfl (K.p_loadM (Fx.agg rfl) rfl (Cels.up c2) (Fx.sz rfl) rfl) rfl ?_
          refine K.d_on rfl (fun KK hKK => ?_)
          refine K.s_take rfl rfl ?_
          refine K.l_callV (Fx.cal rfl) rfl (RFits hb r2) (K.pp [] rfl) rfl rfl ?_
          simp only [List.nil_append]
          refine K.l_nil ?_
          refine X.onE hKK ?_
          refine K.d_pu rfl (fun _ _ => X.pk) rfl ?_
          refine K.d_nil ?_
          cases hf2 : fitV r2 with
          | false =>
            rw [if_neg (fun e => by rw [hf2] at e; cases e.2)] at hg
            (repeat' (first | refine X.rq ?_ | (refine X.rc ?_ ?_ <;> intro hc <;> first | (exfalso; omega) | skip)))
            refine K.a_round hKL ⟨j + 1, hb, a, k, a2, k2, es, es2, s⟩ ⟨by simp only; omega, hle1, hes, hes2, by simp only; rw [hst, hg], hgi.up⟩ (by repeat (first | exact K.Sub.nil _ | refine K.Sub.cons rfl ?_)) rfl rfl (by simp only; omega)
          | true =>
            rw [if_pos ⟨b3, hf2⟩] at hg
            have g2 := of_decide_eq_true hf2
            obtain ⟨n2, hn2⟩ := Int.eq_ofNat_of_zero_le g2.2.1
            have d2 : Cel hb [] rb (ro + 2 * 3 + 1) (.int .i64 n2) := hn2 ▸ c2.2.1
            rw [hn2] at hg
            simp only [Int.toNat_natCast] at hg
            have g2' := g2.2.2
            rw [hn2] at g2'
            (repeat' (first | refine X.rq ?_ | (refine X.rc ?_ ?_ <;> intro hc <;> first | (exfalso; omega) | skip)))
            refine X.drawJ ([]) [] (.pu 0 (.pu 1 (.pu 2 (.pu 5 (.pu 6 (.pu 7 (.pu 10 (.pu 11 (.pu 12 (.pu 14 (.pu 15 (.pu 16 (.pu 19 (.pu 20 (.st 3 (.pu 4 (.st 8 (.pu 9 (.st 13 (.st 17 (.pu 18 (.st 21 (.alt 22 (.pu 23 (.pu 24 (.on 25 (.on 26 .nil)))) (.on 25 (.on 22 (.pu 23 (.pu 24 (.on 26 .nil)))))))))))))))))))))))))))) (fun B7 : Nat => [(0, .slice ao l.length ca), (2, .pointer (some ⟨BR, 0, none⟩)), (3, .pointer (some ⟨BO, 0, none⟩)), (4, .slice (some ⟨bb, oo, none⟩) sl.length ca1), (5, .int .i64 j), (6, .slice (some ⟨rb, ro, none⟩) 6 rc), (10, .pointer (some ⟨B7, 0, none⟩))]) (fun _ => hb) (fun B7 => blk B7 53 (cIdx ⟨n1, n2, r3.s, [], decide (r5 = vB true), n4⟩ (bufV none 0 0)) :: bufA 46 4 a s.tabs.length k es.flatten :: bufA 53 6 a2 s.idxs.length k2 es2.flatten :: blk BO 25 [bufV a s.tabs.length k, bufV a2 s.idxs.length k2] :: blk BR 25 [.slice none 0 0, .slice none 0 0] :: F) ?_ ?_
            · refine K.d_pu rfl (fun _ _ => X.mv) rfl ?_
              refine K.d_pu rfl (fun _ _ => X.ia) rfl ?_
              refine K.d_pu rfl (fun _ _ => X.fa) rfl ?_
              refine K.d_pu rfl (fun _ _ => X.mv) rfl ?_
              refine K.d_pu rfl (fun _ _ => X.ia) rfl ?_
              refine K.d_pu rfl (fun _ _ => X.fa) rfl ?_
              refine K.d_pu rfl (fun _ _ => X.mv) rfl ?_
              refine K.d_pu rfl (fun _ _ => X.ia) rfl ?_
              refine K.d_pu rfl (fun _ _ => X.fa) rfl ?_
              refine K.d_pu rfl (fun _ _ => X.mv) rfl ?_
              refine K.d_pu rfl (fun _ _ => X.ia) rfl ?_
              refine K.d_pu rfl (fun _ _ => X.fa) rfl ?_
              refine K.d_pu rfl (fun _ _ => X.mv) rfl ?_
              refine K.d_pu rfl (fun _ _ => X.ia) rfl ?_
              refine K.d_st rfl (K.p_load (Fx.agg rfl) rfl (up d1)) rfl ?_
              refine K.d_pu rfl (fun _ _ => X.cv) rfl ?_
              refine K.d_st rfl (K.p_load (Fx.agg rfl) rfl (up d2)) rfl ?_
              refine K.d_pu rfl (fun _ _ => X.cv) rfl ?_
              refine K.d_st rfl (K.p_load (Fx.agg rfl) rfl (up d3)) rfl ?_
              refine K.d_st rfl (K.p_load (Fx.agg rfl) rfl (up d4)) rfl ?_
              refine K.d_pu rfl (fun _ _ => X.cv) rfl ?_
              refine K.d_st rfl (K.p_loadM (Fx.agg rfl) rfl (Cels.up c5) (Fx.sz rfl) rfl) rfl ?_
              refine K.d_alt ?_ ?_
              · refine K.d_on rfl (fun KK hKK => ?_)
                refine K.l_callV (Fx.cal rfl) rfl (Truth hb true) (K.pp [] rfl) rfl rfl ?_
                simp only [List.nil_append]
                refine K.l_nil ?_
                refine X.onE hKK ?_
                refine K.d_pu rfl (fun _ _ => X.beql) rfl ?_
                rw [eqB]
                refine K.d_pu rfl (fun _ _ => X.bd) rfl ?_
                refine K.d_on rfl (fun KK hKK => ?_)
                refine K.l_alloc (Fx.zr rfl) rfl rfl (fun B7 => ?_)
                refine K.l_nil ?_
                refine X.onE hKK ?_
                refine K.d_on rfl (fun KK hKK => ?_)
                refine X.stw ?_
                simp only [List.set_cons_zero, List.set_cons_succ, List.eraseIdx_cons_zero, List.eraseIdx_cons_succ, List.cons_append, List.nil_append]
                refine K.l_nil ?_
                refine X.onE hKK ?_
                refine K.d_nil ?_
                exact K.joined (B7) (by repeat (first | exact K.Sub.nil _ | refine K.Sub.cons rfl ?_)) rfl rfl
              refine K.d_on rfl (fun KK hKK => ?_)
              refine K.l_alloc (Fx.zr rfl) rfl rfl (fun B7 => ?_)
              refine K.l_nil ?_
              refine X.onE hKK ?_
              refine K.d_on rfl (fun KK hKK => ?_)
              refine K.l_callV (Fx.cal rfl) rfl (Truth hb true) (K.pp [] rfl) rfl rfl ?_
              simp only [List.nil_append]
              refine K.l_nil ?_
              refine X.onE hKK ?_
              refine K.d_pu rfl (fun _ _ => X.beql) rfl ?_
              rw [eqB]
              refine K.d_pu rfl (fun _ _ => X.bd) rfl ?_
              refine K.d_on rfl (fun KK hKK => ?_)
              refine X.stw ?_
              simp only [List.set_cons_zero, List.set_cons_succ, List.eraseIdx_cons_zero, List.eraseIdx_cons_succ, List.cons_append, List.nil_append]
              refine K.l_nil ?_
              refine X.onE hKK ?_
              refine K.d_nil ?_
              exact K.joined (B7) (by repeat (first | exact K.Sub.nil _ | refine K.Sub.cons rfl ?_)) rfl rfl
            refine fun B7 => ?_
            have hl0 := keysG_ok hw (n1 : Int) 17 0
            generalize hcg : keysG l (n1 : Int) 17 0 = ks0 at hg hl0
            refine K.a_then (K.c_seq (K.c_join (β := GuJ) (fun q => [(0, .slice ao l.length ca), (2, .pointer (some ⟨BR, 0, none⟩)), (3, .pointer (some ⟨BO, 0, none⟩)), (4, .slice (some ⟨bb, oo, none⟩) sl.length ca1), (5, .int .i64 j), (6, .slice (some ⟨rb, ro, none⟩) 6 rc), (10, .pointer (some ⟨B7, 0, none⟩))]) (fun _ => hb)
              (fun q => bufA 3 1 q.a ks0.length q.k (rowN ks0).flatten :: blk B7 53 (cIdx ⟨n1, n2, r3.s, ks0, decide (r5 = vB true), n4⟩ (bufV q.a ks0.length q.k)) :: bufA 46 4 a s.tabs.length k es.flatten :: bufA 53 6 a2 s.idxs.length k2 es2.flatten :: blk BO 25 [bufV a s.tabs.length k, bufV a2 s.idxs.length k2] :: blk BR 25 [.slice none 0 0, .slice none 0 0] :: F) (fun _ => True) (fun KJ hJ => ?_) ?_))
            · refine K.WC.nilBuf 3 1 ?_
              (repeat' (first | refine X.rq ?_ | (refine X.rc ?_ ?_ <;> intro hc <;> first | (exfalso; omega) | skip)))
              refine K.c_loop (σ := GuK) (fun q => [(0, .slice ao l.length ca), (2, .pointer (some ⟨BR, 0, none⟩)), (3, .pointer (some ⟨BO, 0, none⟩)), (4, .slice (some ⟨bb, oo, none⟩) sl.length ca1), (5, .int .i64 j), (6, .slice (some ⟨rb, ro, none⟩) 6 rc), (10, .pointer (some ⟨B7, 0, none⟩)), (11, .int .i64 q.j)]) (fun _ => hb)
                (fun q => bufA 3 1 q.a q.cs.length q.k (rowN q.cs).flatten :: blk B7 53 (cIdx ⟨n1, n2, r3.s, ks0, decide (r5 = vB true), n4⟩ (bufV q.a q.cs.length q.k)) :: bufA 46 4 a s.tabs.length k es.flatten :: bufA 53 6 a2 s.idxs.length k2 es2.flatten :: blk BO 25 [bufV a s.tabs.length k, bufV a2 s.idxs.length k2] :: blk BR 25 [.slice none 0 0, .slice none 0 0] :: F)
                (fun q => q.j ≤ 17 ∧ q.cs.length = q.j ∧ ks0 = q.cs ++ keysG l n1 (17 - q.j) q.j) (fun q => 17 - q.j) ⟨0, none, 0, []⟩ ⟨by decide, rfl, hcg.symm⟩ (by repeat (first | exact K.Sub.nil _ | refine K.Sub.cons rfl ?_)) rfl rfl ?_
              rintro ⟨i, ca', ck, cs⟩ ⟨hi, hcl, hcs⟩ KM hKM
              simp only at hi hcl hcs ⊢
              by_cases hil : i < 17
              · rw [show 17 - i = (16 - i) + 1 by omega] at hcs
                (repeat' (first | refine X.rq ?_ | (refine X.rc ?_ ?_ <;> intro hc <;> first | (exfalso; omega) | skip)))
                refine K.s_pure (K.p_load (Fx.agg rfl) rfl (up d1)) rfl ?_
                (repeat' (first | refine X.rq ?_ | (refine X.rc ?_ ?_ <;> intro hc <;> first | (exfalso; omega) | skip)))
                refine K.l_call (Fx.cal rfl) rfl (RWhere hb _ l 4 n1 i (hvw.le (hle.trans hle1)) hrl (by omega)) (K.pp [] rfl) rfl ?_
                rintro u h' H' - ⟨e, rfl, iw, rfl, ⟨rfl, hfn⟩ | ⟨nw, rw', rfl, hnw, hfs⟩⟩
                · obtain rfl := e.symm
                  simp only [List.set_cons_zero, List.set_cons_succ, List.eraseIdx_cons_zero, List.eraseIdx_cons_succ, List.cons_append, List.nil_append]
                  rw [keysG_none hfn, List.append_nil] at hcs
                  subst hcs
                  (repeat' (first | refine X.rq ?_ | (refine X.rc ?_ ?_ <;> intro hc <;> first | (exfalso; omega) | skip)))
                  exact K.a_join hJ ⟨ca', ck⟩ trivial (by repeat (first | exact K.Sub.nil _ | refine K.Sub.cons rfl ?_)) rfl rfl
                · obtain rfl := e.symm
                  simp only [List.set_cons_zero, List.set_cons_succ, List.eraseIdx_cons_zero, List.eraseIdx_cons_succ, List.cons_append, List.nil_append]
                  have h6' := has_six (List.find?_some hfs)
                  obtain ⟨q0, q1, q2, q3, q4, q5, rfl⟩ := six_of h6'
                  rw [keysG_some hfs] at hcs
                  obtain ⟨cw, hcw, vw, rfl, hvq⟩ := hes0.get hnw
                  obtain ⟨qb, qo, qc, rfl, e0, e1, e2, e3, e4, e5⟩ := six_cells (hvq.le (hle.trans hle1))
                  obtain ⟨bl, ol, rfl, hcl2⟩ := (hvl.le (hle.trans hle1)).at hcw
                  have hnl := (List.getElem?_eq_some_iff.1 hnw).1
                  (repeat' (first | refine X.rq ?_ | (refine X.rc ?_ ?_ <;> intro hc <;> first | (exfalso; omega) | skip)))
                  all_goals first | (exfalso; omega) | skip
                  refine X.draw ([blk B7 53 (cIdx (⟨n1, n2, r3.s, ks0, decide (r5 = vB true), n4⟩) (bufV ca' cs.length ck))]) [12] (.pu 0 (.pu 2 (.pu 3 (.pu 4 (.st 1 (.st 5 (.pu 6 (.pu 7 (.st 8 (.on 9 (.on 10 (.pu 11 (.cl 12 .nil))))))))))))) ?_ (hQ := by repeat (first | with_reducible refine K.NoPanic.then ?_ | with_reducible refine K.NoPanic.inBlock ?_ | with_reducible exact K.post_noPanic _ _ | exact K.post_noPanic _ _))
                  refine K.d_pu rfl (fun _ _ => X.fa) rfl ?_
                  refine K.d_pu rfl (fun _ _ => X.mv) rfl ?_
                  refine K.d_pu rfl (fun _ _ => X.mv) rfl ?_
                  refine K.d_pu rfl (fun _ _ => X.ia) rfl ?_
                  refine K.d_st rfl X.ld rfl ?_
                  refine K.d_st rfl (K.p_load (v := .slice (some ⟨qb, qo, none⟩) 6 qc) (Fx.agg rfl) rfl (Cels.up hcl2).1) rfl ?_
                  refine K.d_pu rfl (fun _ _ => X.ia) rfl ?_
                  refine K.d_pu rfl (fun _ _ => X.fa) rfl ?_
                  refine K.d_st rfl (K.p_load (v := .int .i64 q4.n) (Fx.agg rfl) rfl (Cels.up e4).2.1) rfl ?_
                  refine K.d_on rfl (fun KK hKK => ?_)
                  refine X.bs (fun B => ?_)
                  refine K.l_nil ?_
                  refine X.onE hKK ?_
                  refine K.d_on rfl (fun KK hKK => ?_)
                  refine K.l_append_at 1 rfl (Fx.und rfl) (Fx.und rfl) rfl (Fx.sz rfl) (Fx.zr rfl) rfl (Fx.byt rfl) rfl rfl (K.src_cells (K.cels_own (pre := []) (cs := [iV q4.n]) (post := []) 0 rfl rfl) rfl (by simp [oneCell, iV])) (by omega) (by omega) rfl (fun a3 k3 => ?_)
                  simp only [List.set_cons_zero, List.set_cons_succ, List.eraseIdx_cons_zero, List.eraseIdx_cons_succ, List.cons_append, List.nil_append]
                  refine K.l_nil ?_
                  refine X.onE hKK ?_
                  refine K.d_pu rfl (fun _ _ => X.fa) rfl ?_
                  refine K.d_cl rfl (fun KK hKK => ?_)
                  refine X.sto ?_
                  simp only [List.set_cons_zero, List.set_cons_succ, List.eraseIdx_cons_zero, List.eraseIdx_cons_succ, List.cons_append, List.nil_append]
                  refine K.l_nil ?_
                  refine K.d_clE hKK ?_
                  refine K.d_nil ?_
                  (repeat' (first | refine X.rq ?_ | (refine X.rc ?_ ?_ <;> intro hc <;> first | (exfalso; omega) | skip)))
                  refine K.AT.sel [0] rfl ?_
                  refine K.a_round hKM ⟨i + 1, a3, k3, cs ++ [q4.n]⟩ ⟨by simp only; omega, by simp [hcl], by simp only; rw [List.append_assoc, show 17 - (i + 1) = 16 - i by omega]; exact hcs⟩ (by repeat (first | exact K.Sub.nil _ | refine K.Sub.cons rfl ?_)) rfl (by simp only [rowN, List.length_append, List.length_cons, List.length_nil, List.map_append, List.map_cons, List.map_nil, List.flatten_append, List.flatten_cons, List.flatten_nil, List.append_nil]; rfl) (by simp only; omega)
              · obtain rfl : i = 17 := by omega
                rw [show 17 - 17 = 0 from rfl, keysG, List.append_nil] at hcs
                subst hcs
                (repeat' (first | refine X.rq ?_ | (refine X.rc ?_ ?_ <;> intro hc <;> first | (exfalso; omega) | skip)))
                exact K.a_join hJ ⟨ca', ck⟩ trivial (by repeat (first | exact K.Sub.nil _ | refine K.Sub.cons rfl ?_)) rfl rfl
            · rintro ⟨ca', ck⟩ -
              simp only
              (repeat' (first | refine X.rq ?_ | (refine X.rc ?_ ?_ <;> intro hc <;> first | (exfalso; omega) | skip)))
              refine K.WL.freezeRowN (m := ks0.length) (by simp [rowN]) (oneN _) (fun h2 hle2 hs2 => ?_)
              refine K.l_buildSlice (Fx.und rfl) (Fx.sz rfl) rfl (Fx.zr rfl) rfl rfl rfl rfl rfl (fun B => ?_)
              refine K.l_append_at 3 rfl (Fx.und rfl) (Fx.und rfl) rfl (Fx.sz rfl) (Fx.zr rfl) rfl (Fx.byt rfl) rfl rfl (K.src_cells (K.cels_own (pre := []) (cs := cIdx ⟨n1, n2, r3.s, ks0, decide (r5 = vB true), n4⟩ (bufV ca' ks0.length ck)) (post := []) 0 rfl rfl) rfl (by simp [oneCell, cIdx, bufV])) (by omega) (by omega) rfl (fun a3 k3 => ?_)
              simp only [List.set_cons_zero, List.set_cons_succ, List.eraseIdx_cons_zero, List.eraseIdx_cons_succ, List.cons_append, List.nil_append]
              (repeat' (first | refine X.rq ?_ | (refine X.rc ?_ ?_ <;> intro hc <;> first | (exfalso; omega) | skip)))
              refine X.sto ?_
              simp only [List.set_cons_zero, List.set_cons_succ, List.eraseIdx_cons_zero, List.eraseIdx_cons_succ, List.cons_append, List.nil_append]
              (repeat' (first | refine X.rq ?_ | (refine X.rc ?_ ?_ <;> intro hc <;> first | (exfalso; omega) | skip)))
              have hee : Each (IdxC h2) (es2 ++ [cIdx ⟨n1, n2, r3.s, ks0, decide (r5 = vB true), n4⟩ (bufV ca' ks0.length ck)]) (s.idxs ++ [⟨n1, n2, r3.s, ks0, decide (r5 = vB true), n4⟩]) := Each.snoc (hes2.mono fun x c hc => hc.le hle2) ⟨_, rfl, hs2⟩
              refine K.AT.sel [0, 0] rfl ?_
              refine K.a_round hKL ⟨j + 1, h2, a, k, a3, k3, es, es2 ++ [cIdx ⟨n1, n2, r3.s, ks0, decide (r5 = vB true), n4⟩ (bufV ca' ks0.length ck)], ⟨s.tabs, s.idxs ++ [⟨n1, n2, r3.s, ks0, decide (r5 = vB true), n4⟩]⟩⟩ ⟨by simp only; omega, hle1.trans hle2, hes.mono fun x c hc => hc.le hle2, hee, by simp only; rw [hst, hg], hg ▸ hgi'⟩ (by repeat (first | exact K.Sub.nil _ | refine K.Sub.cons rfl ?_)) rfl (by simp only [List.length_append, List.length_cons, List.length_nil, List.flatten_append, List.flatten_cons, List.flatten_nil, List.append_nil]; rfl) (by simp only; omega)
  · obtain rfl : j = sl.length := by omega
    rw [List.take_length] at hs
    have hfin : guessQ l = s := hgq.trans hs
    (repeat' (first | refine X.rq ?_ | (refine X.rc ?_ ?_ <;> intro hc <;> first | (exfalso; omega) | skip)))
    refine X.stw ?_
    simp only [List.set_cons_zero, List.set_cons_succ, List.eraseIdx_cons_zero, List.eraseIdx_cons_succ, List.cons_append, List.nil_append]
    (repeat' (first | refine X.rq ?_ | (refine X.rc ?_ ?_ <;> intro hc <;> first | (exfalso; omega) | skip)))
    refine AT.freezeRowN (es := es) rfl hes.len.symm (Each.all hes fun x c hc => hc.four) (fun h3 hle3 hs3 => ?_)
    refine AT.freezeRowN (es := es2) rfl hes2.len.symm (Each.all hes2 fun x c hc => hc.six) (fun h4 hle4 hs4 => ?_)
    rw [hfin]
    refine K.doneC (.inl rfl) (.cell rfl (Fx.agg rfl) (Fx.sz rfl) (K.cels_own (pre := []) (post := []) 1 rfl rfl) .nil) (hle.trans (hle1.trans (hle3.trans hle4))) (vs := [.agg [bufV a s.tabs.length k, bufV a2 s.idxs.length k2].toArray]) (D := [_, _]) (H' := []) rfl ⟨rfl, _, rfl, ⟨_, _, _, _, rfl, hs3.le hle4, hes.mono fun x c hc => hc.le (hle3.trans hle4), hs4, hes2.mono fun x c hc => hc.le (hle3.trans hle4)⟩, hgi.wf (by omega)⟩
end Go.Proofs.Ytdjacjhojbkgjaa.Ct
