/-
  Trees of pages: whether a tree is right; the code's. Conditions: each theorem's own.
-/
import Derived.Test.YtahdbncfegedjaaXx
import Derived.Test.YtahdbncfegedjaaKW

namespace Go.Proofs.Ytahdbncfegedjaa.Nd
open Go Go.K Go.Proofs Go.Proofs.Ytahdbncfegedjaa Go.Proofs.Ytahdbncfegedjaa.Pg
set_option linter.unusedVariables false
set_option linter.unusedSimpArgs false
set_option maxRecDepth 10000

section
variable {P : Program} {n : NN} {Q : Exit → Act → World → Prop} {E : Env} {h : Base} {H : List Asrt}
theorem WC.freezeRowE {c : Code} {T sz m : Nat} {a : Option Nat} {cap : Nat} {cs : List Value} (es : List (List Value)) (hm : m = es.length) (hc : cs = es.flatten) (hz : ∀ e ∈ es, e.length = sz) (hk : ∀ h', h.le h' → SL h' sz (bufV a m cap) es → WC P n c Q E h' H) : WC P n c Q E h (bufA T sz a m cap cs :: H) := by
  subst hm; subst hc
  exact K.WC.freezeRow hz fun h' le hs _ => hk h' le hs
end
structure CkS where
  deep : Nat
  leaves : List Nat
  nexts : List Nat
def fineQ (x : Plc) (s : List UInt8) : Bool := isEntryQ s && (!lt8 s x.lo && (!x.fin || lt8 s x.hi))
def visC (st : CkS) (n : Nat) (p : Pag) (x : Plc) : Except Int CkS := if p.cells.all (fun c => fineQ x (keyQ p.kind c)) = true then (if p.kind = 2 then (if st.deep = 0 ∨ st.deep = x.deep then .ok ⟨x.deep, st.leaves ++ [n], st.nexts ++ [p.next]⟩ else .error 5) else .ok st) else .error 5
def CkA (G : Option GetQ) (B3 B4 B5 : Nat) (seen : List Nat) (st : CkS) (h : Base) (A : Asrt) : Prop := SeenG G seen ∧ st.leaves.length ≤ seen.length ∧ st.nexts.length = st.leaves.length ∧ st.deep ≤ 8 ∧ (∀ x ∈ st.leaves, x < 4294967296) ∧ (∀ x ∈ st.nexts, x < 4294967296) ∧ ∃ a4 c4 a5 c5, A = all [blk B3 3 [.int .i64 st.deep], blk B4 30 [bufV a4 st.leaves.length c4], bufA 23 1 a4 st.leaves.length c4 (st.leaves.map uV), blk B5 30 [bufV a5 st.nexts.length c5], bufA 23 1 a5 st.nexts.length c5 (st.nexts.map uV)]
structure CkJ where
  a6 : Option Nat
  k6 : Nat
  a7 : Option Nat
  k7 : Nat
set_option maxHeartbeats 2000000 in
theorem ChkV (G : Option GetQ) (hG : FewG G) (B3 B4 B5 : Nat) (h : Base) (seen : List Nat) (st : CkS) (A : Asrt) (n : Nat) (p : Pag) (cs : List Value) (x : Plc) (hn : n < 4294967296) (hp : PagC h cs p) (hpq : pageQ G n = .ok p) (hin : ¬ n ∈ seen) (hx : x.deep ≤ 8) (ha : CkA G B3 B4 B5 seen st h A) :
    TrX Try.prog 44 ([] ++ [uV n, .agg cs.toArray, .agg (plcV x).toArray] ++ [.pointer (some ⟨B3, 0, none⟩), .pointer (some ⟨B4, 0, none⟩), .pointer (some ⟨B5, 0, none⟩)]) h [A] (fun v h' H' => ∃ st' A', visC st n p x = .ok st' ∧ CkA G B3 B4 B5 (n :: seen) st' h' A' ∧ H' = [A']) (UpE (visC st n p x)) := by
  obtain ⟨hsg, hsl, hnl, hd8, hb1, hb2, a4, c4, a5, c5, rfl⟩ := ha
  obtain ⟨sdeep, leaves, nexts⟩ := st
  simp only at hsl hnl hd8 hb1 hb2
  have hsg1 := hsg.cons hin hpq
  have hb0 := hG seen hsg
  have hgd := page_good hpq
  have h60 := (good_data hgd).2.1
  have hk23 := (good_data hgd).1
  have hp0 := hp
  obtain ⟨hw, cv, rfl, hcv⟩ := hp
  obtain ⟨er, hsr, hrl, hrr⟩ := hcv
  obtain ⟨ao, ca, rfl⟩ := hsr.len
  rw [hrl] at hsr ⊢
  obtain ⟨deep, lo, hi, fin⟩ := x
  simp only at hx
  have hbad : ∀ c ∈ p.cells, fineQ ⟨deep, lo, hi, fin⟩ (keyQ p.kind c) = false → visC ⟨sdeep, leaves, nexts⟩ n p ⟨deep, lo, hi, fin⟩ = .error 5 := fun c hc hf => by
    unfold visC
    rw [if_neg]
    intro hall
    rw [List.all_eq_true.1 hall c hc] at hf
    cases hf
  refine K.enterX Try.func44 rfl (Nat.le_of_ble_eq_true rfl) (fun F => K.WC.open ?_)
  (repeat' (first | refine X.rq ?_ | (refine X.rc ?_ ?_ <;> intro hc <;> first | (exfalso; omega) | skip)))
  refine K.l_box rfl rfl rfl (fun B7 => ?_)
  refine K.l_box rfl rfl rfl (fun B8 => ?_)
  simp only [List.set_cons_zero, List.set_cons_succ, List.eraseIdx_cons_zero, List.eraseIdx_cons_succ, List.cons_append, List.nil_append]
  (repeat' (first | refine X.rq ?_ | (refine X.rc ?_ ?_ <;> intro hc <;> first | (exfalso; omega) | skip)))
  refine K.c_loop (σ := Nat) (fun j => [(13, .slice ao p.cells.length ca), (14, .int .i64 p.cells.length), (15, .int .i64 j), (0, uV n), (3, .pointer (some ⟨B3, 0, none⟩)), (4, .pointer (some ⟨B4, 0, none⟩)), (5, .pointer (some ⟨B5, 0, none⟩)), (7, .pointer (some ⟨B7, 0, none⟩)), (8, .pointer (some ⟨B8, 0, none⟩))]) (fun _ => h)
    (fun _ => blk B8 92 [.int .i64 deep, txt lo, txt hi, .bool fin] :: blk B7 55 (cP p (.slice ao p.cells.length ca)) :: blk B3 3 [.int .i64 sdeep] :: blk B4 30 [bufV a4 leaves.length c4] :: bufA 23 1 a4 leaves.length c4 (leaves.map uV) :: blk B5 30 [bufV a5 nexts.length c5] :: bufA 23 1 a5 nexts.length c5 (nexts.map uV) :: F)
    (fun j => j ≤ p.cells.length ∧ ∀ (i : Nat) c, i < j → p.cells[i]? = some c → fineQ ⟨deep, lo, hi, fin⟩ (keyQ p.kind c) = true) (fun j => p.cells.length - j) 0 ⟨Nat.zero_le _, fun i c h => absurd h (Nat.not_lt_zero i)⟩ (by repeat (first | exact K.Sub.nil _ | refine K.Sub.cons rfl ?_)) rfl rfl ?_
  rintro j ⟨hj, hyes⟩ KL hKL
  by_cases hjl : j < p.cells.length
  · obtain ⟨c, hcj⟩ : ∃ c, p.cells[j]? = some c := ⟨_, List.getElem?_eq_getElem hjl⟩
    obtain ⟨ce, hcz⟩ : ∃ c, er[(j : Int).toNat]? = some c := ⟨_, List.getElem?_eq_getElem (by omega)⟩
    have hcc := hrr j ce c hcz hcj
    have hmem := List.mem_of_getElem? hcj
    have hbad := hbad c hmem
    have h4 : p.kind = 3 → 4 ≤ c.data.length := fun h3 => ((good_data hgd).2.2.2 h3).1 c hmem
    have hcc0 := hcc
    obtain ⟨hkl3, hdl3, ao3, ca3, rfl, hbv3⟩ := hcc
    (repeat' (first | refine X.rq ?_ | (refine X.rc ?_ ?_ <;> intro hc <;> first | (exfalso; omega) | skip)))
    refine K.s_pureE (K.p_indexL hsr (Fx.und rfl) (Fx.sz rfl) rfl rfl (by omega) hcz) rfl ?_
    rintro v2 ⟨b, o, rfl, hcel⟩
    refine K.s_pure (K.p_loadM (Fx.agg rfl) rfl (Cels.up hcel) (Fx.sz rfl) rfl) rfl ?_
    refine K.l_alloc (Fx.zr rfl) rfl rfl (fun B10 => ?_)
    refine X.stw ?_
    simp only [List.set_cons_zero, List.set_cons_succ, List.eraseIdx_cons_zero, List.eraseIdx_cons_succ, List.cons_append, List.nil_append]
    (repeat' (first | refine X.rq ?_ | (refine X.rc ?_ ?_ <;> intro hc <;> first | (exfalso; omega) | skip)))
    refine K.l_callV (Fx.cal rfl) rfl (KeyC h p.kind _ c hcc0 h4) (K.pp [] rfl) rfl rfl ?_
    simp only [List.set_cons_zero, List.set_cons_succ, List.eraseIdx_cons_zero, List.eraseIdx_cons_succ, List.cons_append, List.nil_append]
    obtain ⟨s, hs⟩ : ∃ s, keyQ p.kind c = s := ⟨_, rfl⟩
    rw [hs] at hbad ⊢
    (repeat' (first | refine X.rq ?_ | (refine X.rc ?_ ?_ <;> intro hc <;> first | (exfalso; omega) | skip)))
    refine K.l_callV (Fx.cal rfl) rfl (IsEntry h s) (K.pp [] rfl) rfl rfl ?_
    simp only [List.set_cons_zero, List.set_cons_succ, List.eraseIdx_cons_zero, List.eraseIdx_cons_succ, List.cons_append, List.nil_append]
    cases he : isEntryQ s
    all_goals
      (repeat' (first | refine X.rq ?_ | (refine X.rc ?_ ?_ <;> intro hc <;> first | (exfalso; omega) | skip)))
    all_goals
      refine K.l_callX (Fx.cal rfl) rfl (Need h _ 5) (K.pp [] rfl) rfl ?_ ?_
      · rintro v h' H' hle ⟨e, rfl, e1, rfl⟩
        obtain rfl := e.symm
        repeat (first | with_reducible refine K.a_then_panic ?_ | with_reducible refine K.a_block_panic ?_)
        have hbad := hbad (by
          unfold fineQ
          rw [he]
          try simp only [txt_lt] at *
          simp_all)
        exact K.upXD (D := [_, _, _, _, _, _, _, _]) (H' := []) (K.Base.le.refl _) rfl ⟨rfl, 5, rfl, hbad⟩
      · rintro v h' H' - ⟨e, rfl, e1⟩
        obtain rfl := e.symm
        have hgood : fineQ ⟨deep, lo, hi, fin⟩ s = true := by
          unfold fineQ
          rw [he]
          try simp only [txt_lt] at *
          simp_all
        simp only [List.set_cons_zero, List.set_cons_succ, List.eraseIdx_cons_zero, List.eraseIdx_cons_succ, List.cons_append, List.nil_append]
        (repeat' (first | refine X.rq ?_ | (refine X.rc ?_ ?_ <;> intro hc <;> first | (exfalso; omega) | skip)))
        all_goals
          refine K.AT.drop ?_
          refine K.a_round hKL (j + 1) ⟨by omega, fun i y hi hy => ?_⟩ (by repeat (first | exact K.Sub.nil _ | refine K.Sub.cons rfl ?_)) rfl rfl (by omega)
          by_cases hij : i < j
          · exact hyes i y hij hy
          · obtain rfl : i = j := by omega
            rw [hcj] at hy; cases hy; rw [hs]; exact hgood
  · obtain rfl : j = p.cells.length := by omega
    have hall : p.cells.all (fun c => fineQ ⟨deep, lo, hi, fin⟩ (keyQ p.kind c)) = true := by
      rw [List.all_eq_true]
      intro c hc
      obtain ⟨i, hi⟩ := List.mem_iff_getElem?.1 hc
      exact hyes i c (List.getElem?_eq_some_iff.1 hi).1 hi
    (repeat' (first | refine X.rq ?_ | (refine X.rc ?_ ?_ <;> intro hc <;> first | (exfalso; omega) | skip)))
    · have h2 : p.kind = 2 := by assumption
      refine K.l_callX (Fx.cal rfl) rfl (Need h _ 5) (K.pp [] rfl) rfl ?_ ?_
      · rintro v h' H' hle ⟨e, rfl, e1, rfl⟩
        obtain rfl := e.symm
        repeat (first | with_reducible refine K.a_then_panic ?_ | with_reducible refine K.a_block_panic ?_)
        cases e1
      rintro v h' H' - ⟨e, rfl, e1⟩
      obtain rfl := e.symm
      have hor : sdeep = 0 ∨ sdeep = deep := .inl (by omega)
      have hv : visC ⟨sdeep, leaves, nexts⟩ n p ⟨deep, lo, hi, fin⟩ = .ok ⟨deep, leaves ++ [n], nexts ++ [p.next]⟩ := by
        unfold visC
        rw [if_pos hall, if_pos h2, if_pos hor]
      simp only [List.set_cons_zero, List.set_cons_succ, List.eraseIdx_cons_zero, List.eraseIdx_cons_succ, List.cons_append, List.nil_append]
      (repeat' (first | refine X.rq ?_ | (refine X.rc ?_ ?_ <;> intro hc <;> first | (exfalso; omega) | skip)))
      refine X.sto ?_
      simp only [List.set_cons_zero, List.set_cons_succ, List.eraseIdx_cons_zero, List.eraseIdx_cons_succ, List.cons_append, List.nil_append]
      (repeat' (first | refine X.rq ?_ | (refine X.rc ?_ ?_ <;> intro hc <;> first | (exfalso; omega) | skip)))
      refine K.WC.sel [0] rfl ?_
      refine K.WC.np ?_
      refine X.drawJ ([blk B5 30 [bufV a5 nexts.length c5], blk B7 55 (cP p (.slice ao p.cells.length ca))]) [10] (.pu 1 (.pu 5 (.st 4 (.st 6 (.alt 0 (.alt 2 (.alt 3 (.on 7 (.on 8 (.on 9 (.cl 10 .nil)))) (.on 7 (.on 3 (.on 8 (.on 9 (.cl 10 .nil)))))) (.on 7 (.on 2 (.on 3 (.on 8 (.on 9 (.cl 10 .nil))))))) (.alt 2 (.alt 0 (.alt 3 (.on 7 (.on 8 (.on 9 (.cl 10 .nil)))) (.on 7 (.on 3 (.on 8 (.on 9 (.cl 10 .nil)))))) (.on 7 (.on 0 (.on 3 (.on 8 (.on 9 (.cl 10 .nil))))))) (.on 7 (.alt 0 (.on 2 (.on 3 (.on 8 (.on 9 (.cl 10 .nil))))) (.on 2 (.on 0 (.on 3 (.on 8 (.on 9 (.cl 10 .nil)))))))))))))) (fun r : CkJ => []) (fun _ => h) (fun r => blk B3 3 [.int .i64 deep] :: blk B4 30 [bufV r.a6 (leaves.length + 1) r.k6] :: bufA 23 1 r.a6 (leaves.length + 1) r.k6 (leaves.map uV ++ [uV n]) :: blk B5 30 [bufV r.a7 (nexts.length + 1) r.k7] :: bufA 23 1 r.a7 (nexts.length + 1) r.k7 (nexts.map uV ++ [uV p.next]) :: F) ?_ ?_
      · refine K.d_pu rfl (fun _ _ => X.mv) rfl ?_
        refine K.d_pu rfl (fun _ _ => X.fa) rfl ?_
        refine K.d_st rfl X.ld rfl ?_
        refine K.d_st rfl X.ld rfl ?_
        refine K.d_alt ?_ ?_
        · refine K.d_on rfl (fun KK hKK => ?_)
          refine K.s_pure X.ld rfl ?_
          refine K.l_nil ?_
          refine X.onE hKK ?_
          refine K.d_alt ?_ ?_
          · refine K.d_on rfl (fun KK hKK => ?_)
            refine K.l_buildSlice (Fx.und rfl) (Fx.sz rfl) rfl (Fx.zr rfl) rfl rfl rfl rfl rfl (fun B20 => ?_)
            refine K.l_nil ?_
            refine X.onE hKK ?_
            refine K.d_alt ?_ ?_
            · refine K.d_on rfl (fun KK hKK => ?_)
              first | refine K.l_append_at 4 rfl (Fx.und rfl) (Fx.und rfl) rfl (Fx.sz rfl) (Fx.zr rfl) rfl (Fx.byt rfl) rfl rfl (K.src_cells (K.cels_own (pre := []) (cs := [uV n]) (post := []) 0 rfl rfl) rfl (by simp [oneCell])) (by omega) (by omega) rfl (fun a6 k6 => ?_) | refine K.l_append_at 5 rfl (Fx.und rfl) (Fx.und rfl) rfl (Fx.sz rfl) (Fx.zr rfl) rfl (Fx.byt rfl) rfl rfl (K.src_cells (K.cels_own (pre := []) (cs := [uV n]) (post := []) 0 rfl rfl) rfl (by simp [oneCell])) (by omega) (by omega) rfl (fun a6 k6 => ?_) | refine K.l_append_at 5 rfl (Fx.und rfl) (Fx.und rfl) rfl (Fx.sz rfl) (Fx.zr rfl) rfl (Fx.byt rfl) rfl rfl (K.src_cells (K.cels_own (pre := []) (cs := [uV n]) (post := []) 1 rfl rfl) rfl (by simp [oneCell])) (by omega) (by omega) rfl (fun a6 k6 => ?_)
              refine K.l_nil ?_
              refine X.onE hKK ?_
              refine K.d_on rfl (fun KK hKK => ?_)
              refine K.l_buildSlice (Fx.und rfl) (Fx.sz rfl) rfl (Fx.zr rfl) rfl rfl rfl rfl rfl (fun B21 => ?_)
              refine K.l_nil ?_
              refine X.onE hKK ?_
              refine K.d_on rfl (fun KK hKK => ?_)
              first | refine K.l_append_at 7 rfl (Fx.und rfl) (Fx.und rfl) rfl (Fx.sz rfl) (Fx.zr rfl) rfl (Fx.byt rfl) rfl rfl (K.src_cells (K.cels_own (pre := []) (cs := [uV p.next]) (post := []) 0 rfl rfl) rfl (by simp [oneCell])) (by omega) (by omega) rfl (fun a7 k7 => ?_) | refine K.l_append_at 7 rfl (Fx.und rfl) (Fx.und rfl) rfl (Fx.sz rfl) (Fx.zr rfl) rfl (Fx.byt rfl) rfl rfl (K.src_cells (K.cels_own (pre := []) (cs := [uV p.next]) (post := []) 1 rfl rfl) rfl (by simp [oneCell])) (by omega) (by omega) rfl (fun a7 k7 => ?_)
              refine K.l_nil ?_
              refine X.onE hKK ?_
              refine K.d_on rfl (fun KK hKK => ?_)
              refine X.sto ?_
              refine K.l_nil ?_
              refine X.onE hKK ?_
              refine K.d_cl rfl (fun KK hKK => ?_)
              refine X.sto ?_
              refine K.l_nil ?_
              refine K.d_clE hKK ?_
              refine K.d_nil ?_
              refine K.AT.sel [0, 0, 0] rfl ?_
              exact K.joined ⟨a6, k6, a7, k7⟩ (by repeat (first | exact K.Sub.nil _ | refine K.Sub.cons rfl ?_)) rfl rfl
            refine K.d_on rfl (fun KK hKK => ?_)
            refine K.l_buildSlice (Fx.und rfl) (Fx.sz rfl) rfl (Fx.zr rfl) rfl rfl rfl rfl rfl (fun B21 => ?_)
            refine K.l_nil ?_
            refine X.onE hKK ?_
            refine K.d_on rfl (fun KK hKK => ?_)
            first | refine K.l_append_at 4 rfl (Fx.und rfl) (Fx.und rfl) rfl (Fx.sz rfl) (Fx.zr rfl) rfl (Fx.byt rfl) rfl rfl (K.src_cells (K.cels_own (pre := []) (cs := [uV n]) (post := []) 0 rfl rfl) rfl (by simp [oneCell])) (by omega) (by omega) rfl (fun a6 k6 => ?_) | refine K.l_append_at 5 rfl (Fx.und rfl) (Fx.und rfl) rfl (Fx.sz rfl) (Fx.zr rfl) rfl (Fx.byt rfl) rfl rfl (K.src_cells (K.cels_own (pre := []) (cs := [uV n]) (post := []) 0 rfl rfl) rfl (by simp [oneCell])) (by omega) (by omega) rfl (fun a6 k6 => ?_) | refine K.l_append_at 5 rfl (Fx.und rfl) (Fx.und rfl) rfl (Fx.sz rfl) (Fx.zr rfl) rfl (Fx.byt rfl) rfl rfl (K.src_cells (K.cels_own (pre := []) (cs := [uV n]) (post := []) 1 rfl rfl) rfl (by simp [oneCell])) (by omega) (by omega) rfl (fun a6 k6 => ?_)
            refine K.l_nil ?_
            refine X.onE hKK ?_
            refine K.d_on rfl (fun KK hKK => ?_)
            first | refine K.l_append_at 7 rfl (Fx.und rfl) (Fx.und rfl) rfl (Fx.sz rfl) (Fx.zr rfl) rfl (Fx.byt rfl) rfl rfl (K.src_cells (K.cels_own (pre := []) (cs := [uV p.next]) (post := []) 0 rfl rfl) rfl (by simp [oneCell])) (by omega) (by omega) rfl (fun a7 k7 => ?_) | refine K.l_append_at 7 rfl (Fx.und rfl) (Fx.und rfl) rfl (Fx.sz rfl) (Fx.zr rfl) rfl (Fx.byt rfl) rfl rfl (K.src_cells (K.cels_own (pre := []) (cs := [uV p.next]) (post := []) 1 rfl rfl) rfl (by simp [oneCell])) (by omega) (by omega) rfl (fun a7 k7 => ?_)
            refine K.l_nil ?_
            refine X.onE hKK ?_
            refine K.d_on rfl (fun KK hKK => ?_)
            refine X.sto ?_
            refine K.l_nil ?_
            refine X.onE hKK ?_
            refine K.d_cl rfl (fun KK hKK => ?_)
            refine X.sto ?_
            refine K.l_nil ?_
            refine K.d_clE hKK ?_
            refine K.d_nil ?_
            refine K.AT.sel [0, 0, 0] rfl ?_
            exact K.joined ⟨a6, k6, a7, k7⟩ (by repeat (first | exact K.Sub.nil _ | refine K.Sub.cons rfl ?_)) rfl rfl
          refine K.d_on rfl (fun KK hKK => ?_)
          refine K.l_buildSlice (Fx.und rfl) (Fx.sz rfl) rfl (Fx.zr rfl) rfl rfl rfl rfl rfl (fun B21 => ?_)
          refine K.l_nil ?_
          refine X.onE hKK ?_
          refine K.d_on rfl (fun KK hKK => ?_)
          refine K.l_buildSlice (Fx.und rfl) (Fx.sz rfl) rfl (Fx.zr rfl) rfl rfl rfl rfl rfl (fun B20 => ?_)
          refine K.l_nil ?_
          refine X.onE hKK ?_
          refine K.d_on rfl (fun KK hKK => ?_)
          first | refine K.l_append_at 4 rfl (Fx.und rfl) (Fx.und rfl) rfl (Fx.sz rfl) (Fx.zr rfl) rfl (Fx.byt rfl) rfl rfl (K.src_cells (K.cels_own (pre := []) (cs := [uV n]) (post := []) 0 rfl rfl) rfl (by simp [oneCell])) (by omega) (by omega) rfl (fun a6 k6 => ?_) | refine K.l_append_at 5 rfl (Fx.und rfl) (Fx.und rfl) rfl (Fx.sz rfl) (Fx.zr rfl) rfl (Fx.byt rfl) rfl rfl (K.src_cells (K.cels_own (pre := []) (cs := [uV n]) (post := []) 0 rfl rfl) rfl (by simp [oneCell])) (by omega) (by omega) rfl (fun a6 k6 => ?_) | refine K.l_append_at 5 rfl (Fx.und rfl) (Fx.und rfl) rfl (Fx.sz rfl) (Fx.zr rfl) rfl (Fx.byt rfl) rfl rfl (K.src_cells (K.cels_own (pre := []) (cs := [uV n]) (post := []) 1 rfl rfl) rfl (by simp [oneCell])) (by omega) (by omega) rfl (fun a6 k6 => ?_)
          refine K.l_nil ?_
          refine X.onE hKK ?_
          refine K.d_on rfl (fun KK hKK => ?_)
          first | refine K.l_append_at 7 rfl (Fx.und rfl) (Fx.und rfl) rfl (Fx.sz rfl) (Fx.zr rfl) rfl (Fx.byt rfl) rfl rfl (K.src_cells (K.cels_own (pre := []) (cs := [uV p.next]) (post := []) 0 rfl rfl) rfl (by simp [oneCell])) (by omega) (by omega) rfl (fun a7 k7 => ?_) | refine K.l_append_at 7 rfl (Fx.und rfl) (Fx.und rfl) rfl (Fx.sz rfl) (Fx.zr rfl) rfl (Fx.byt rfl) rfl rfl (K.src_cells (K.cels_own (pre := []) (cs := [uV p.next]) (post := []) 1 rfl rfl) rfl (by simp [oneCell])) (by omega) (by omega) rfl (fun a7 k7 => ?_)
          refine K.l_nil ?_
          refine X.onE hKK ?_
          refine K.d_on rfl (fun KK hKK => ?_)
          refine X.sto ?_
          refine K.l_nil ?_
          refine X.onE hKK ?_
          refine K.d_cl rfl (fun KK hKK => ?_)
          refine X.sto ?_
          refine K.l_nil ?_
          refine K.d_clE hKK ?_
          refine K.d_nil ?_
          refine K.AT.sel [0, 0, 0] rfl ?_
          exact K.joined ⟨a6, k6, a7, k7⟩ (by repeat (first | exact K.Sub.nil _ | refine K.Sub.cons rfl ?_)) rfl rfl
        refine K.d_alt ?_ ?_
        · refine K.d_on rfl (fun KK hKK => ?_)
          refine K.l_buildSlice (Fx.und rfl) (Fx.sz rfl) rfl (Fx.zr rfl) rfl rfl rfl rfl rfl (fun B20 => ?_)
          refine K.l_nil ?_
          refine X.onE hKK ?_
          refine K.d_alt ?_ ?_
          · refine K.d_on rfl (fun KK hKK => ?_)
            refine K.s_pure X.ld rfl ?_
            refine K.l_nil ?_
            refine X.onE hKK ?_
            refine K.d_alt ?_ ?_
            · refine K.d_on rfl (fun KK hKK => ?_)
              first | refine K.l_append_at 4 rfl (Fx.und rfl) (Fx.und rfl) rfl (Fx.sz rfl) (Fx.zr rfl) rfl (Fx.byt rfl) rfl rfl (K.src_cells (K.cels_own (pre := []) (cs := [uV n]) (post := []) 0 rfl rfl) rfl (by simp [oneCell])) (by omega) (by omega) rfl (fun a6 k6 => ?_) | refine K.l_append_at 5 rfl (Fx.und rfl) (Fx.und rfl) rfl (Fx.sz rfl) (Fx.zr rfl) rfl (Fx.byt rfl) rfl rfl (K.src_cells (K.cels_own (pre := []) (cs := [uV n]) (post := []) 0 rfl rfl) rfl (by simp [oneCell])) (by omega) (by omega) rfl (fun a6 k6 => ?_) | refine K.l_append_at 5 rfl (Fx.und rfl) (Fx.und rfl) rfl (Fx.sz rfl) (Fx.zr rfl) rfl (Fx.byt rfl) rfl rfl (K.src_cells (K.cels_own (pre := []) (cs := [uV n]) (post := []) 1 rfl rfl) rfl (by simp [oneCell])) (by omega) (by omega) rfl (fun a6 k6 => ?_)
              refine K.l_nil ?_
              refine X.onE hKK ?_
              refine K.d_on rfl (fun KK hKK => ?_)
              refine K.l_buildSlice (Fx.und rfl) (Fx.sz rfl) rfl (Fx.zr rfl) rfl rfl rfl rfl rfl (fun B21 => ?_)
              refine K.l_nil ?_
              refine X.onE hKK ?_
              refine K.d_on rfl (fun KK hKK => ?_)
              first | refine K.l_append_at 7 rfl (Fx.und rfl) (Fx.und rfl) rfl (Fx.sz rfl) (Fx.zr rfl) rfl (Fx.byt rfl) rfl rfl (K.src_cells (K.cels_own (pre := []) (cs := [uV p.next]) (post := []) 0 rfl rfl) rfl (by simp [oneCell])) (by omega) (by omega) rfl (fun a7 k7 => ?_) | refine K.l_append_at 7 rfl (Fx.und rfl) (Fx.und rfl) rfl (Fx.sz rfl) (Fx.zr rfl) rfl (Fx.byt rfl) rfl rfl (K.src_cells (K.cels_own (pre := []) (cs := [uV p.next]) (post := []) 1 rfl rfl) rfl (by simp [oneCell])) (by omega) (by omega) rfl (fun a7 k7 => ?_)
              refine K.l_nil ?_
              refine X.onE hKK ?_
              refine K.d_on rfl (fun KK hKK => ?_)
              refine X.sto ?_
              refine K.l_nil ?_
              refine X.onE hKK ?_
              refine K.d_cl rfl (fun KK hKK => ?_)
              refine X.sto ?_
              refine K.l_nil ?_
              refine K.d_clE hKK ?_
              refine K.d_nil ?_
              refine K.AT.sel [0, 0, 0] rfl ?_
              exact K.joined ⟨a6, k6, a7, k7⟩ (by repeat (first | exact K.Sub.nil _ | refine K.Sub.cons rfl ?_)) rfl rfl
            refine K.d_on rfl (fun KK hKK => ?_)
            refine K.l_buildSlice (Fx.und rfl) (Fx.sz rfl) rfl (Fx.zr rfl) rfl rfl rfl rfl rfl (fun B21 => ?_)
            refine K.l_nil ?_
            refine X.onE hKK ?_
            refine K.d_on rfl (fun KK hKK => ?_)
            first | refine K.l_append_at 4 rfl (Fx.und rfl) (Fx.und rfl) rfl (Fx.sz rfl) (Fx.zr rfl) rfl (Fx.byt rfl) rfl rfl (K.src_cells (K.cels_own (pre := []) (cs := [uV n]) (post := []) 0 rfl rfl) rfl (by simp [oneCell])) (by omega) (by omega) rfl (fun a6 k6 => ?_) | refine K.l_append_at 5 rfl (Fx.und rfl) (Fx.und rfl) rfl (Fx.sz rfl) (Fx.zr rfl) rfl (Fx.byt rfl) rfl rfl (K.src_cells (K.cels_own (pre := []) (cs := [uV n]) (post := []) 0 rfl rfl) rfl (by simp [oneCell])) (by omega) (by omega) rfl (fun a6 k6 => ?_) | refine K.l_append_at 5 rfl (Fx.und rfl) (Fx.und rfl) rfl (Fx.sz rfl) (Fx.zr rfl) rfl (Fx.byt rfl) rfl rfl (K.src_cells (K.cels_own (pre := []) (cs := [uV n]) (post := []) 1 rfl rfl) rfl (by simp [oneCell])) (by omega) (by omega) rfl (fun a6 k6 => ?_)
            refine K.l_nil ?_
            refine X.onE hKK ?_
            refine K.d_on rfl (fun KK hKK => ?_)
            first | refine K.l_append_at 7 rfl (Fx.und rfl) (Fx.und rfl) rfl (Fx.sz rfl) (Fx.zr rfl) rfl (Fx.byt rfl) rfl rfl (K.src_cells (K.cels_own (pre := []) (cs := [uV p.next]) (post := []) 0 rfl rfl) rfl (by simp [oneCell])) (by omega) (by omega) rfl (fun a7 k7 => ?_) | refine K.l_append_at 7 rfl (Fx.und rfl) (Fx.und rfl) rfl (Fx.sz rfl) (Fx.zr rfl) rfl (Fx.byt rfl) rfl rfl (K.src_cells (K.cels_own (pre := []) (cs := [uV p.next]) (post := []) 1 rfl rfl) rfl (by simp [oneCell])) (by omega) (by omega) rfl (fun a7 k7 => ?_)
            refine K.l_nil ?_
            refine X.onE hKK ?_
            refine K.d_on rfl (fun KK hKK => ?_)
            refine X.sto ?_
            refine K.l_nil ?_
            refine X.onE hKK ?_
            refine K.d_cl rfl (fun KK hKK => ?_)
            refine X.sto ?_
            refine K.l_nil ?_
            refine K.d_clE hKK ?_
            refine K.d_nil ?_
            refine K.AT.sel [0, 0, 0] rfl ?_
            exact K.joined ⟨a6, k6, a7, k7⟩ (by repeat (first | exact K.Sub.nil _ | refine K.Sub.cons rfl ?_)) rfl rfl
          refine K.d_on rfl (fun KK hKK => ?_)
          refine K.l_buildSlice (Fx.und rfl) (Fx.sz rfl) rfl (Fx.zr rfl) rfl rfl rfl rfl rfl (fun B21 => ?_)
          refine K.l_nil ?_
          refine X.onE hKK ?_
          refine K.d_on rfl (fun KK hKK => ?_)
          refine K.s_pure X.ld rfl ?_
          refine K.l_nil ?_
          refine X.onE hKK ?_
          refine K.d_on rfl (fun KK hKK => ?_)
          first | refine K.l_append_at 4 rfl (Fx.und rfl) (Fx.und rfl) rfl (Fx.sz rfl) (Fx.zr rfl) rfl (Fx.byt rfl) rfl rfl (K.src_cells (K.cels_own (pre := []) (cs := [uV n]) (post := []) 0 rfl rfl) rfl (by simp [oneCell])) (by omega) (by omega) rfl (fun a6 k6 => ?_) | refine K.l_append_at 5 rfl (Fx.und rfl) (Fx.und rfl) rfl (Fx.sz rfl) (Fx.zr rfl) rfl (Fx.byt rfl) rfl rfl (K.src_cells (K.cels_own (pre := []) (cs := [uV n]) (post := []) 0 rfl rfl) rfl (by simp [oneCell])) (by omega) (by omega) rfl (fun a6 k6 => ?_) | refine K.l_append_at 5 rfl (Fx.und rfl) (Fx.und rfl) rfl (Fx.sz rfl) (Fx.zr rfl) rfl (Fx.byt rfl) rfl rfl (K.src_cells (K.cels_own (pre := []) (cs := [uV n]) (post := []) 1 rfl rfl) rfl (by simp [oneCell])) (by omega) (by omega) rfl (fun a6 k6 => ?_)
          refine K.l_nil ?_
          refine X.onE hKK ?_
          refine K.d_on rfl (fun KK hKK => ?_)
          first | refine K.l_append_at 7 rfl (Fx.und rfl) (Fx.und rfl) rfl (Fx.sz rfl) (Fx.zr rfl) rfl (Fx.byt rfl) rfl rfl (K.src_cells (K.cels_own (pre := []) (cs := [uV p.next]) (post := []) 0 rfl rfl) rfl (by simp [oneCell])) (by omega) (by omega) rfl (fun a7 k7 => ?_) | refine K.l_append_at 7 rfl (Fx.und rfl) (Fx.und rfl) rfl (Fx.sz rfl) (Fx.zr rfl) rfl (Fx.byt rfl) rfl rfl (K.src_cells (K.cels_own (pre := []) (cs := [uV p.next]) (post := []) 1 rfl rfl) rfl (by simp [oneCell])) (by omega) (by omega) rfl (fun a7 k7 => ?_)
          refine K.l_nil ?_
          refine X.onE hKK ?_
          refine K.d_on rfl (fun KK hKK => ?_)
          refine X.sto ?_
          refine K.l_nil ?_
          refine X.onE hKK ?_
          refine K.d_cl rfl (fun KK hKK => ?_)
          refine X.sto ?_
          refine K.l_nil ?_
          refine K.d_clE hKK ?_
          refine K.d_nil ?_
          refine K.AT.sel [0, 0, 0] rfl ?_
          exact K.joined ⟨a6, k6, a7, k7⟩ (by repeat (first | exact K.Sub.nil _ | refine K.Sub.cons rfl ?_)) rfl rfl
        refine K.d_on rfl (fun KK hKK => ?_)
        refine K.l_buildSlice (Fx.und rfl) (Fx.sz rfl) rfl (Fx.zr rfl) rfl rfl rfl rfl rfl (fun B21 => ?_)
        refine K.l_nil ?_
        refine X.onE hKK ?_
        refine K.d_alt ?_ ?_
        · refine K.d_on rfl (fun KK hKK => ?_)
          refine K.s_pure X.ld rfl ?_
          refine K.l_nil ?_
          refine X.onE hKK ?_
          refine K.d_on rfl (fun KK hKK => ?_)
          refine K.l_buildSlice (Fx.und rfl) (Fx.sz rfl) rfl (Fx.zr rfl) rfl rfl rfl rfl rfl (fun B20 => ?_)
          refine K.l_nil ?_
          refine X.onE hKK ?_
          refine K.d_on rfl (fun KK hKK => ?_)
          first | refine K.l_append_at 4 rfl (Fx.und rfl) (Fx.und rfl) rfl (Fx.sz rfl) (Fx.zr rfl) rfl (Fx.byt rfl) rfl rfl (K.src_cells (K.cels_own (pre := []) (cs := [uV n]) (post := []) 0 rfl rfl) rfl (by simp [oneCell])) (by omega) (by omega) rfl (fun a6 k6 => ?_) | refine K.l_append_at 5 rfl (Fx.und rfl) (Fx.und rfl) rfl (Fx.sz rfl) (Fx.zr rfl) rfl (Fx.byt rfl) rfl rfl (K.src_cells (K.cels_own (pre := []) (cs := [uV n]) (post := []) 0 rfl rfl) rfl (by simp [oneCell])) (by omega) (by omega) rfl (fun a6 k6 => ?_) | refine K.l_append_at 5 rfl (Fx.und rfl) (Fx.und rfl) rfl (Fx.sz rfl) (Fx.zr rfl) rfl (Fx.byt rfl) rfl rfl (K.src_cells (K.cels_own (pre := []) (cs := [uV n]) (post := []) 1 rfl rfl) rfl (by simp [oneCell])) (by omega) (by omega) rfl (fun a6 k6 => ?_)
          refine K.l_nil ?_
          refine X.onE hKK ?_
          refine K.d_on rfl (fun KK hKK => ?_)
          first | refine K.l_append_at 7 rfl (Fx.und rfl) (Fx.und rfl) rfl (Fx.sz rfl) (Fx.zr rfl) rfl (Fx.byt rfl) rfl rfl (K.src_cells (K.cels_own (pre := []) (cs := [uV p.next]) (post := []) 0 rfl rfl) rfl (by simp [oneCell])) (by omega) (by omega) rfl (fun a7 k7 => ?_) | refine K.l_append_at 7 rfl (Fx.und rfl) (Fx.und rfl) rfl (Fx.sz rfl) (Fx.zr rfl) rfl (Fx.byt rfl) rfl rfl (K.src_cells (K.cels_own (pre := []) (cs := [uV p.next]) (post := []) 1 rfl rfl) rfl (by simp [oneCell])) (by omega) (by omega) rfl (fun a7 k7 => ?_)
          refine K.l_nil ?_
          refine X.onE hKK ?_
          refine K.d_on rfl (fun KK hKK => ?_)
          refine X.sto ?_
          refine K.l_nil ?_
          refine X.onE hKK ?_
          refine K.d_cl rfl (fun KK hKK => ?_)
          refine X.sto ?_
          refine K.l_nil ?_
          refine K.d_clE hKK ?_
          refine K.d_nil ?_
          refine K.AT.sel [0, 0, 0] rfl ?_
          exact K.joined ⟨a6, k6, a7, k7⟩ (by repeat (first | exact K.Sub.nil _ | refine K.Sub.cons rfl ?_)) rfl rfl
        refine K.d_on rfl (fun KK hKK => ?_)
        refine K.l_buildSlice (Fx.und rfl) (Fx.sz rfl) rfl (Fx.zr rfl) rfl rfl rfl rfl rfl (fun B20 => ?_)
        refine K.l_nil ?_
        refine X.onE hKK ?_
        refine K.d_on rfl (fun KK hKK => ?_)
        refine K.s_pure X.ld rfl ?_
        refine K.l_nil ?_
        refine X.onE hKK ?_
        refine K.d_on rfl (fun KK hKK => ?_)
        first | refine K.l_append_at 4 rfl (Fx.und rfl) (Fx.und rfl) rfl (Fx.sz rfl) (Fx.zr rfl) rfl (Fx.byt rfl) rfl rfl (K.src_cells (K.cels_own (pre := []) (cs := [uV n]) (post := []) 0 rfl rfl) rfl (by simp [oneCell])) (by omega) (by omega) rfl (fun a6 k6 => ?_) | refine K.l_append_at 5 rfl (Fx.und rfl) (Fx.und rfl) rfl (Fx.sz rfl) (Fx.zr rfl) rfl (Fx.byt rfl) rfl rfl (K.src_cells (K.cels_own (pre := []) (cs := [uV n]) (post := []) 0 rfl rfl) rfl (by simp [oneCell])) (by omega) (by omega) rfl (fun a6 k6 => ?_) | refine K.l_append_at 5 rfl (Fx.und rfl) (Fx.und rfl) rfl (Fx.sz rfl) (Fx.zr rfl) rfl (Fx.byt rfl) rfl rfl (K.src_cells (K.cels_own (pre := []) (cs := [uV n]) (post := []) 1 rfl rfl) rfl (by simp [oneCell])) (by omega) (by omega) rfl (fun a6 k6 => ?_)
        refine K.l_nil ?_
        refine X.onE hKK ?_
        refine K.d_on rfl (fun KK hKK => ?_)
        first | refine K.l_append_at 7 rfl (Fx.und rfl) (Fx.und rfl) rfl (Fx.sz rfl) (Fx.zr rfl) rfl (Fx.byt rfl) rfl rfl (K.src_cells (K.cels_own (pre := []) (cs := [uV p.next]) (post := []) 0 rfl rfl) rfl (by simp [oneCell])) (by omega) (by omega) rfl (fun a7 k7 => ?_) | refine K.l_append_at 7 rfl (Fx.und rfl) (Fx.und rfl) rfl (Fx.sz rfl) (Fx.zr rfl) rfl (Fx.byt rfl) rfl rfl (K.src_cells (K.cels_own (pre := []) (cs := [uV p.next]) (post := []) 1 rfl rfl) rfl (by simp [oneCell])) (by omega) (by omega) rfl (fun a7 k7 => ?_)
        refine K.l_nil ?_
        refine X.onE hKK ?_
        refine K.d_on rfl (fun KK hKK => ?_)
        refine X.sto ?_
        refine K.l_nil ?_
        refine X.onE hKK ?_
        refine K.d_cl rfl (fun KK hKK => ?_)
        refine X.sto ?_
        refine K.l_nil ?_
        refine K.d_clE hKK ?_
        refine K.d_nil ?_
        refine K.AT.sel [0, 0, 0] rfl ?_
        exact K.joined ⟨a6, k6, a7, k7⟩ (by repeat (first | exact K.Sub.nil _ | refine K.Sub.cons rfl ?_)) rfl rfl
      refine fun r => K.a_qn ?_
      refine K.AT.closed (Hs := [_, _, _, _, _]) (K.pp [0, 0, 0, 0, 0] rfl) ?_
      refine K.doneXC (vs := []) (by first | exact Or.inl rfl | exact Or.inr rfl) .nil (K.Base.le.refl _) (D := []) (H' := [_]) rfl ⟨_, _, hv, ⟨hsg1, by simp; omega, by simp; omega, hx, ?_, ?_, r.a6, r.k6, r.a7, r.k7, ?_⟩, rfl⟩
      · intro z hz
        rcases List.mem_append.1 hz with hz | hz
        · exact hb1 z hz
        · rw [List.mem_singleton.1 hz]; exact hn
      · intro z hz
        rcases List.mem_append.1 hz with hz | hz
        · exact hb2 z hz
        · rw [List.mem_singleton.1 hz]; exact hw.next
      · rw [List.length_append, List.length_append, List.map_append, List.map_append]
        rfl
    · have h2 : p.kind = 2 := by assumption
      have hn0 : ¬ sdeep = 0 := by omega
      refine K.l_callX (Fx.cal rfl) rfl (Need h _ 5) (K.pp [] rfl) rfl ?_ ?_
      · rintro v h' H' hle ⟨e, rfl, e1, rfl⟩
        obtain rfl := e.symm
        repeat (first | with_reducible refine K.a_then_panic ?_ | with_reducible refine K.a_block_panic ?_)
        have e1 := of_decide_eq_false e1
        exact K.upXD (D := [_, _, _, _, _, _, _]) (H' := []) (K.Base.le.refl _) rfl ⟨rfl, 5, rfl, by
          unfold visC
          rw [if_pos hall, if_pos h2, if_neg (by dsimp only; omega)]⟩
      rintro v h' H' - ⟨e, rfl, e1⟩
      obtain rfl := e.symm
      have hor : sdeep = 0 ∨ sdeep = deep := .inr (by have e1 := of_decide_eq_true e1; omega)
      have hv : visC ⟨sdeep, leaves, nexts⟩ n p ⟨deep, lo, hi, fin⟩ = .ok ⟨deep, leaves ++ [n], nexts ++ [p.next]⟩ := by
        unfold visC
        rw [if_pos hall, if_pos h2, if_pos hor]
      simp only [List.set_cons_zero, List.set_cons_succ, List.eraseIdx_cons_zero, List.eraseIdx_cons_succ, List.cons_append, List.nil_append]
      (repeat' (first | refine X.rq ?_ | (refine X.rc ?_ ?_ <;> intro hc <;> first | (exfalso; omega) | skip)))
      refine X.sto ?_
      simp only [List.set_cons_zero, List.set_cons_succ, List.eraseIdx_cons_zero, List.eraseIdx_cons_succ, List.cons_append, List.nil_append]
      (repeat' (first | refine X.rq ?_ | (refine X.rc ?_ ?_ <;> intro hc <;> first | (exfalso; omega) | skip)))
      refine K.WC.sel [0] rfl ?_
      refine K.WC.np ?_
      refine X.drawJ ([blk B5 30 [bufV a5 nexts.length c5], blk B7 55 (cP p (.slice ao p.cells.length ca))]) [10] (.pu 1 (.pu 5 (.st 4 (.st 6 (.alt 0 (.alt 2 (.alt 3 (.on 7 (.on 8 (.on 9 (.cl 10 .nil)))) (.on 7 (.on 3 (.on 8 (.on 9 (.cl 10 .nil)))))) (.on 7 (.on 2 (.on 3 (.on 8 (.on 9 (.cl 10 .nil))))))) (.alt 2 (.alt 0 (.alt 3 (.on 7 (.on 8 (.on 9 (.cl 10 .nil)))) (.on 7 (.on 3 (.on 8 (.on 9 (.cl 10 .nil)))))) (.on 7 (.on 0 (.on 3 (.on 8 (.on 9 (.cl 10 .nil))))))) (.on 7 (.alt 0 (.on 2 (.on 3 (.on 8 (.on 9 (.cl 10 .nil))))) (.on 2 (.on 0 (.on 3 (.on 8 (.on 9 (.cl 10 .nil)))))))))))))) (fun r : CkJ => []) (fun _ => h) (fun r => blk B3 3 [.int .i64 deep] :: blk B4 30 [bufV r.a6 (leaves.length + 1) r.k6] :: bufA 23 1 r.a6 (leaves.length + 1) r.k6 (leaves.map uV ++ [uV n]) :: blk B5 30 [bufV r.a7 (nexts.length + 1) r.k7] :: bufA 23 1 r.a7 (nexts.length + 1) r.k7 (nexts.map uV ++ [uV p.next]) :: F) ?_ ?_
      · refine K.d_pu rfl (fun _ _ => X.mv) rfl ?_
        refine K.d_pu rfl (fun _ _ => X.fa) rfl ?_
        refine K.d_st rfl X.ld rfl ?_
        refine K.d_st rfl X.ld rfl ?_
        refine K.d_alt ?_ ?_
        · refine K.d_on rfl (fun KK hKK => ?_)
          refine K.s_pure X.ld rfl ?_
          refine K.l_nil ?_
          refine X.onE hKK ?_
          refine K.d_alt ?_ ?_
          · refine K.d_on rfl (fun KK hKK => ?_)
            refine K.l_buildSlice (Fx.und rfl) (Fx.sz rfl) rfl (Fx.zr rfl) rfl rfl rfl rfl rfl (fun B20 => ?_)
            refine K.l_nil ?_
            refine X.onE hKK ?_
            refine K.d_alt ?_ ?_
            · refine K.d_on rfl (fun KK hKK => ?_)
              first | refine K.l_append_at 4 rfl (Fx.und rfl) (Fx.und rfl) rfl (Fx.sz rfl) (Fx.zr rfl) rfl (Fx.byt rfl) rfl rfl (K.src_cells (K.cels_own (pre := []) (cs := [uV n]) (post := []) 0 rfl rfl) rfl (by simp [oneCell])) (by omega) (by omega) rfl (fun a6 k6 => ?_) | refine K.l_append_at 5 rfl (Fx.und rfl) (Fx.und rfl) rfl (Fx.sz rfl) (Fx.zr rfl) rfl (Fx.byt rfl) rfl rfl (K.src_cells (K.cels_own (pre := []) (cs := [uV n]) (post := []) 0 rfl rfl) rfl (by simp [oneCell])) (by omega) (by omega) rfl (fun a6 k6 => ?_) | refine K.l_append_at 5 rfl (Fx.und rfl) (Fx.und rfl) rfl (Fx.sz rfl) (Fx.zr rfl) rfl (Fx.byt rfl) rfl rfl (K.src_cells (K.cels_own (pre := []) (cs := [uV n]) (post := []) 1 rfl rfl) rfl (by simp [oneCell])) (by omega) (by omega) rfl (fun a6 k6 => ?_)
              refine K.l_nil ?_
              refine X.onE hKK ?_
              refine K.d_on rfl (fun KK hKK => ?_)
              refine K.l_buildSlice (Fx.und rfl) (Fx.sz rfl) rfl (Fx.zr rfl) rfl rfl rfl rfl rfl (fun B21 => ?_)
              refine K.l_nil ?_
              refine X.onE hKK ?_
              refine K.d_on rfl (fun KK hKK => ?_)
              first | refine K.l_append_at 7 rfl (Fx.und rfl) (Fx.und rfl) rfl (Fx.sz rfl) (Fx.zr rfl) rfl (Fx.byt rfl) rfl rfl (K.src_cells (K.cels_own (pre := []) (cs := [uV p.next]) (post := []) 0 rfl rfl) rfl (by simp [oneCell])) (by omega) (by omega) rfl (fun a7 k7 => ?_) | refine K.l_append_at 7 rfl (Fx.und rfl) (Fx.und rfl) rfl (Fx.sz rfl) (Fx.zr rfl) rfl (Fx.byt rfl) rfl rfl (K.src_cells (K.cels_own (pre := []) (cs := [uV p.next]) (post := []) 1 rfl rfl) rfl (by simp [oneCell])) (by omega) (by omega) rfl (fun a7 k7 => ?_)
              refine K.l_nil ?_
              refine X.onE hKK ?_
              refine K.d_on rfl (fun KK hKK => ?_)
              refine X.sto ?_
              refine K.l_nil ?_
              refine X.onE hKK ?_
              refine K.d_cl rfl (fun KK hKK => ?_)
              refine X.sto ?_
              refine K.l_nil ?_
              refine K.d_clE hKK ?_
              refine K.d_nil ?_
              refine K.AT.sel [0, 0, 0] rfl ?_
              exact K.joined ⟨a6, k6, a7, k7⟩ (by repeat (first | exact K.Sub.nil _ | refine K.Sub.cons rfl ?_)) rfl rfl
            refine K.d_on rfl (fun KK hKK => ?_)
            refine K.l_buildSlice (Fx.und rfl) (Fx.sz rfl) rfl (Fx.zr rfl) rfl rfl rfl rfl rfl (fun B21 => ?_)
            refine K.l_nil ?_
            refine X.onE hKK ?_
            refine K.d_on rfl (fun KK hKK => ?_)
            first | refine K.l_append_at 4 rfl (Fx.und rfl) (Fx.und rfl) rfl (Fx.sz rfl) (Fx.zr rfl) rfl (Fx.byt rfl) rfl rfl (K.src_cells (K.cels_own (pre := []) (cs := [uV n]) (post := []) 0 rfl rfl) rfl (by simp [oneCell])) (by omega) (by omega) rfl (fun a6 k6 => ?_) | refine K.l_append_at 5 rfl (Fx.und rfl) (Fx.und rfl) rfl (Fx.sz rfl) (Fx.zr rfl) rfl (Fx.byt rfl) rfl rfl (K.src_cells (K.cels_own (pre := []) (cs := [uV n]) (post := []) 0 rfl rfl) rfl (by simp [oneCell])) (by omega) (by omega) rfl (fun a6 k6 => ?_) | refine K.l_append_at 5 rfl (Fx.und rfl) (Fx.und rfl) rfl (Fx.sz rfl) (Fx.zr rfl) rfl (Fx.byt rfl) rfl rfl (K.src_cells (K.cels_own (pre := []) (cs := [uV n]) (post := []) 1 rfl rfl) rfl (by simp [oneCell])) (by omega) (by omega) rfl (fun a6 k6 => ?_)
            refine K.l_nil ?_
            refine X.onE hKK ?_
            refine K.d_on rfl (fun KK hKK => ?_)
            first | refine K.l_append_at 7 rfl (Fx.und rfl) (Fx.und rfl) rfl (Fx.sz rfl) (Fx.zr rfl) rfl (Fx.byt rfl) rfl rfl (K.src_cells (K.cels_own (pre := []) (cs := [uV p.next]) (post := []) 0 rfl rfl) rfl (by simp [oneCell])) (by omega) (by omega) rfl (fun a7 k7 => ?_) | refine K.l_append_at 7 rfl (Fx.und rfl) (Fx.und rfl) rfl (Fx.sz rfl) (Fx.zr rfl) rfl (Fx.byt rfl) rfl rfl (K.src_cells (K.cels_own (pre := []) (cs := [uV p.next]) (post := []) 1 rfl rfl) rfl (by simp [oneCell])) (by omega) (by omega) rfl (fun a7 k7 => ?_)
            refine K.l_nil ?_
            refine X.onE hKK ?_
            refine K.d_on rfl (fun KK hKK => ?_)
            refine X.sto ?_
            refine K.l_nil ?_
            refine X.onE hKK ?_
            refine K.d_cl rfl (fun KK hKK => ?_)
            refine X.sto ?_
            refine K.l_nil ?_
            refine K.d_clE hKK ?_
            refine K.d_nil ?_
            refine K.AT.sel [0, 0, 0] rfl ?_
            exact K.joined ⟨a6, k6, a7, k7⟩ (by repeat (first | exact K.Sub.nil _ | refine K.Sub.cons rfl ?_)) rfl rfl
          refine K.d_on rfl (fun KK hKK => ?_)
          refine K.l_buildSlice (Fx.und rfl) (Fx.sz rfl) rfl (Fx.zr rfl) rfl rfl rfl rfl rfl (fun B21 => ?_)
          refine K.l_nil ?_
          refine X.onE hKK ?_
          refine K.d_on rfl (fun KK hKK => ?_)
          refine K.l_buildSlice (Fx.und rfl) (Fx.sz rfl) rfl (Fx.zr rfl) rfl rfl rfl rfl rfl (fun B20 => ?_)
          refine K.l_nil ?_
          refine X.onE hKK ?_
          refine K.d_on rfl (fun KK hKK => ?_)
          first | refine K.l_append_at 4 rfl (Fx.und rfl) (Fx.und rfl) rfl (Fx.sz rfl) (Fx.zr rfl) rfl (Fx.byt rfl) rfl rfl (K.src_cells (K.cels_own (pre := []) (cs := [uV n]) (post := []) 0 rfl rfl) rfl (by simp [oneCell])) (by omega) (by omega) rfl (fun a6 k6 => ?_) | refine K.l_append_at 5 rfl (Fx.und rfl) (Fx.und rfl) rfl (Fx.sz rfl) (Fx.zr rfl) rfl (Fx.byt rfl) rfl rfl (K.src_cells (K.cels_own (pre := []) (cs := [uV n]) (post := []) 0 rfl rfl) rfl (by simp [oneCell])) (by omega) (by omega) rfl (fun a6 k6 => ?_) | refine K.l_append_at 5 rfl (Fx.und rfl) (Fx.und rfl) rfl (Fx.sz rfl) (Fx.zr rfl) rfl (Fx.byt rfl) rfl rfl (K.src_cells (K.cels_own (pre := []) (cs := [uV n]) (post := []) 1 rfl rfl) rfl (by simp [oneCell])) (by omega) (by omega) rfl (fun a6 k6 => ?_)
          refine K.l_nil ?_
          refine X.onE hKK ?_
          refine K.d_on rfl (fun KK hKK => ?_)
          first | refine K.l_append_at 7 rfl (Fx.und rfl) (Fx.und rfl) rfl (Fx.sz rfl) (Fx.zr rfl) rfl (Fx.byt rfl) rfl rfl (K.src_cells (K.cels_own (pre := []) (cs := [uV p.next]) (post := []) 0 rfl rfl) rfl (by simp [oneCell])) (by omega) (by omega) rfl (fun a7 k7 => ?_) | refine K.l_append_at 7 rfl (Fx.und rfl) (Fx.und rfl) rfl (Fx.sz rfl) (Fx.zr rfl) rfl (Fx.byt rfl) rfl rfl (K.src_cells (K.cels_own (pre := []) (cs := [uV p.next]) (post := []) 1 rfl rfl) rfl (by simp [oneCell])) (by omega) (by omega) rfl (fun a7 k7 => ?_)
          refine K.l_nil ?_
          refine X.onE hKK ?_
          refine K.d_on rfl (fun KK hKK => ?_)
          refine X.sto ?_
          refine K.l_nil ?_
          refine X.onE hKK ?_
          refine K.d_cl rfl (fun KK hKK => ?_)
          refine X.sto ?_
          refine K.l_nil ?_
          refine K.d_clE hKK ?_
          refine K.d_nil ?_
          refine K.AT.sel [0, 0, 0] rfl ?_
          exact K.joined ⟨a6, k6, a7, k7⟩ (by repeat (first | exact K.Sub.nil _ | refine K.Sub.cons rfl ?_)) rfl rfl
        refine K.d_alt ?_ ?_
        · refine K.d_on rfl (fun KK hKK => ?_)
          refine K.l_buildSlice (Fx.und rfl) (Fx.sz rfl) rfl (Fx.zr rfl) rfl rfl rfl rfl rfl (fun B20 => ?_)
          refine K.l_nil ?_
          refine X.onE hKK ?_
          refine K.d_alt ?_ ?_
          · refine K.d_on rfl (fun KK hKK => ?_)
            refine K.s_pure X.ld rfl ?_
            refine K.l_nil ?_
            refine X.onE hKK ?_
            refine K.d_alt ?_ ?_
            · refine K.d_on rfl (fun KK hKK => ?_)
              first | refine K.l_append_at 4 rfl (Fx.und rfl) (Fx.und rfl) rfl (Fx.sz rfl) (Fx.zr rfl) rfl (Fx.byt rfl) rfl rfl (K.src_cells (K.cels_own (pre := []) (cs := [uV n]) (post := []) 0 rfl rfl) rfl (by simp [oneCell])) (by omega) (by omega) rfl (fun a6 k6 => ?_) | refine K.l_append_at 5 rfl (Fx.und rfl) (Fx.und rfl) rfl (Fx.sz rfl) (Fx.zr rfl) rfl (Fx.byt rfl) rfl rfl (K.src_cells (K.cels_own (pre := []) (cs := [uV n]) (post := []) 0 rfl rfl) rfl (by simp [oneCell])) (by omega) (by omega) rfl (fun a6 k6 => ?_) | refine K.l_append_at 5 rfl (Fx.und rfl) (Fx.und rfl) rfl (Fx.sz rfl) (Fx.zr rfl) rfl (Fx.byt rfl) rfl rfl (K.src_cells (K.cels_own (pre := []) (cs := [uV n]) (post := []) 1 rfl rfl) rfl (by simp [oneCell])) (by omega) (by omega) rfl (fun a6 k6 => ?_)
              refine K.l_nil ?_
              refine X.onE hKK ?_
              refine K.d_on rfl (fun KK hKK => ?_)
              refine K.l_buildSlice (Fx.und rfl) (Fx.sz rfl) rfl (Fx.zr rfl) rfl rfl rfl rfl rfl (fun B21 => ?_)
              refine K.l_nil ?_
              refine X.onE hKK ?_
              refine K.d_on rfl (fun KK hKK => ?_)
              first | refine K.l_append_at 7 rfl (Fx.und rfl) (Fx.und rfl) rfl (Fx.sz rfl) (Fx.zr rfl) rfl (Fx.byt rfl) rfl rfl (K.src_cells (K.cels_own (pre := []) (cs := [uV p.next]) (post := []) 0 rfl rfl) rfl (by simp [oneCell])) (by omega) (by omega) rfl (fun a7 k7 => ?_) | refine K.l_append_at 7 rfl (Fx.und rfl) (Fx.und rfl) rfl (Fx.sz rfl) (Fx.zr rfl) rfl (Fx.byt rfl) rfl rfl (K.src_cells (K.cels_own (pre := []) (cs := [uV p.next]) (post := []) 1 rfl rfl) rfl (by simp [oneCell])) (by omega) (by omega) rfl (fun a7 k7 => ?_)
              refine K.l_nil ?_
              refine X.onE hKK ?_
              refine K.d_on rfl (fun KK hKK => ?_)
              refine X.sto ?_
              refine K.l_nil ?_
              refine X.onE hKK ?_
              refine K.d_cl rfl (fun KK hKK => ?_)
              refine X.sto ?_
              refine K.l_nil ?_
              refine K.d_clE hKK ?_
              refine K.d_nil ?_
              refine K.AT.sel [0, 0, 0] rfl ?_
              exact K.joined ⟨a6, k6, a7, k7⟩ (by repeat (first | exact K.Sub.nil _ | refine K.Sub.cons rfl ?_)) rfl rfl
            refine K.d_on rfl (fun KK hKK => ?_)
            refine K.l_buildSlice (Fx.und rfl) (Fx.sz rfl) rfl (Fx.zr rfl) rfl rfl rfl rfl rfl (fun B21 => ?_)
            refine K.l_nil ?_
            refine X.onE hKK ?_
            refine K.d_on rfl (fun KK hKK => ?_)
            first | refine K.l_append_at 4 rfl (Fx.und rfl) (Fx.und rfl) rfl (Fx.sz rfl) (Fx.zr rfl) rfl (Fx.byt rfl) rfl rfl (K.src_cells (K.cels_own (pre := []) (cs := [uV n]) (post := []) 0 rfl rfl) rfl (by simp [oneCell])) (by omega) (by omega) rfl (fun a6 k6 => ?_) | refine K.l_append_at 5 rfl (Fx.und rfl) (Fx.und rfl) rfl (Fx.sz rfl) (Fx.zr rfl) rfl (Fx.byt rfl) rfl rfl (K.src_cells (K.cels_own (pre := []) (cs := [uV n]) (post := []) 0 rfl rfl) rfl (by simp [oneCell])) (by omega) (by omega) rfl (fun a6 k6 => ?_) | refine K.l_append_at 5 rfl (Fx.und rfl) (Fx.und rfl) rfl (Fx.sz rfl) (Fx.zr rfl) rfl (Fx.byt rfl) rfl rfl (K.src_cells (K.cels_own (pre := []) (cs := [uV n]) (post := []) 1 rfl rfl) rfl (by simp [oneCell])) (by omega) (by omega) rfl (fun a6 k6 => ?_)
            refine K.l_nil ?_
            refine X.onE hKK ?_
            refine K.d_on rfl (fun KK hKK => ?_)
            first | refine K.l_append_at 7 rfl (Fx.und rfl) (Fx.und rfl) rfl (Fx.sz rfl) (Fx.zr rfl) rfl (Fx.byt rfl) rfl rfl (K.src_cells (K.cels_own (pre := []) (cs := [uV p.next]) (post := []) 0 rfl rfl) rfl (by simp [oneCell])) (by omega) (by omega) rfl (fun a7 k7 => ?_) | refine K.l_append_at 7 rfl (Fx.und rfl) (Fx.und rfl) rfl (Fx.sz rfl) (Fx.zr rfl) rfl (Fx.byt rfl) rfl rfl (K.src_cells (K.cels_own (pre := []) (cs := [uV p.next]) (post := []) 1 rfl rfl) rfl (by simp [oneCell])) (by omega) (by omega) rfl (fun a7 k7 => ?_)
            refine K.l_nil ?_
            refine X.onE hKK ?_
            refine K.d_on rfl (fun KK hKK => ?_)
            refine X.sto ?_
            refine K.l_nil ?_
            refine X.onE hKK ?_
            refine K.d_cl rfl (fun KK hKK => ?_)
            refine X.sto ?_
            refine K.l_nil ?_
            refine K.d_clE hKK ?_
            refine K.d_nil ?_
            refine K.AT.sel [0, 0, 0] rfl ?_
            exact K.joined ⟨a6, k6, a7, k7⟩ (by repeat (first | exact K.Sub.nil _ | refine K.Sub.cons rfl ?_)) rfl rfl
          refine K.d_on rfl (fun KK hKK => ?_)
          refine K.l_buildSlice (Fx.und rfl) (Fx.sz rfl) rfl (Fx.zr rfl) rfl rfl rfl rfl rfl (fun B21 => ?_)
          refine K.l_nil ?_
          refine X.onE hKK ?_
          refine K.d_on rfl (fun KK hKK => ?_)
          refine K.s_pure X.ld rfl ?_
          refine K.l_nil ?_
          refine X.onE hKK ?_
          refine K.d_on rfl (fun KK hKK => ?_)
          first | refine K.l_append_at 4 rfl (Fx.und rfl) (Fx.und rfl) rfl (Fx.sz rfl) (Fx.zr rfl) rfl (Fx.byt rfl) rfl rfl (K.src_cells (K.cels_own (pre := []) (cs := [uV n]) (post := []) 0 rfl rfl) rfl (by simp [oneCell])) (by omega) (by omega) rfl (fun a6 k6 => ?_) | refine K.l_append_at 5 rfl (Fx.und rfl) (Fx.und rfl) rfl (Fx.sz rfl) (Fx.zr rfl) rfl (Fx.byt rfl) rfl rfl (K.src_cells (K.cels_own (pre := []) (cs := [uV n]) (post := []) 0 rfl rfl) rfl (by simp [oneCell])) (by omega) (by omega) rfl (fun a6 k6 => ?_) | refine K.l_append_at 5 rfl (Fx.und rfl) (Fx.und rfl) rfl (Fx.sz rfl) (Fx.zr rfl) rfl (Fx.byt rfl) rfl rfl (K.src_cells (K.cels_own (pre := []) (cs := [uV n]) (post := []) 1 rfl rfl) rfl (by simp [oneCell])) (by omega) (by omega) rfl (fun a6 k6 => ?_)
          refine K.l_nil ?_
          refine X.onE hKK ?_
          refine K.d_on rfl (fun KK hKK => ?_)
          first | refine K.l_append_at 7 rfl (Fx.und rfl) (Fx.und rfl) rfl (Fx.sz rfl) (Fx.zr rfl) rfl (Fx.byt rfl) rfl rfl (K.src_cells (K.cels_own (pre := []) (cs := [uV p.next]) (post := []) 0 rfl rfl) rfl (by simp [oneCell])) (by omega) (by omega) rfl (fun a7 k7 => ?_) | refine K.l_append_at 7 rfl (Fx.und rfl) (Fx.und rfl) rfl (Fx.sz rfl) (Fx.zr rfl) rfl (Fx.byt rfl) rfl rfl (K.src_cells (K.cels_own (pre := []) (cs := [uV p.next]) (post := []) 1 rfl rfl) rfl (by simp [oneCell])) (by omega) (by omega) rfl (fun a7 k7 => ?_)
          refine K.l_nil ?_
          refine X.onE hKK ?_
          refine K.d_on rfl (fun KK hKK => ?_)
          refine X.sto ?_
          refine K.l_nil ?_
          refine X.onE hKK ?_
          refine K.d_cl rfl (fun KK hKK => ?_)
          refine X.sto ?_
          refine K.l_nil ?_
          refine K.d_clE hKK ?_
          refine K.d_nil ?_
          refine K.AT.sel [0, 0, 0] rfl ?_
          exact K.joined ⟨a6, k6, a7, k7⟩ (by repeat (first | exact K.Sub.nil _ | refine K.Sub.cons rfl ?_)) rfl rfl
        refine K.d_on rfl (fun KK hKK => ?_)
        refine K.l_buildSlice (Fx.und rfl) (Fx.sz rfl) rfl (Fx.zr rfl) rfl rfl rfl rfl rfl (fun B21 => ?_)
        refine K.l_nil ?_
        refine X.onE hKK ?_
        refine K.d_alt ?_ ?_
        · refine K.d_on rfl (fun KK hKK => ?_)
          refine K.s_pure X.ld rfl ?_
          refine K.l_nil ?_
          refine X.onE hKK ?_
          refine K.d_on rfl (fun KK hKK => ?_)
          refine K.l_buildSlice (Fx.und rfl) (Fx.sz rfl) rfl (Fx.zr rfl) rfl rfl rfl rfl rfl (fun B20 => ?_)
          refine K.l_nil ?_
          refine X.onE hKK ?_
          refine K.d_on rfl (fun KK hKK => ?_)
          first | refine K.l_append_at 4 rfl (Fx.und rfl) (Fx.und rfl) rfl (Fx.sz rfl) (Fx.zr rfl) rfl (Fx.byt rfl) rfl rfl (K.src_cells (K.cels_own (pre := []) (cs := [uV n]) (post := []) 0 rfl rfl) rfl (by simp [oneCell])) (by omega) (by omega) rfl (fun a6 k6 => ?_) | refine K.l_append_at 5 rfl (Fx.und rfl) (Fx.und rfl) rfl (Fx.sz rfl) (Fx.zr rfl) rfl (Fx.byt rfl) rfl rfl (K.src_cells (K.cels_own (pre := []) (cs := [uV n]) (post := []) 0 rfl rfl) rfl (by simp [oneCell])) (by omega) (by omega) rfl (fun a6 k6 => ?_) | refine K.l_append_at 5 rfl (Fx.und rfl) (Fx.und rfl) rfl (Fx.sz rfl) (Fx.zr rfl) rfl (Fx.byt rfl) rfl rfl (K.src_cells (K.cels_own (pre := []) (cs := [uV n]) (post := []) 1 rfl rfl) rfl (by simp [oneCell])) (by omega) (by omega) rfl (fun a6 k6 => ?_)
          refine K.l_nil ?_
          refine X.onE hKK ?_
          refine K.d_on rfl (fun KK hKK => ?_)
          first | refine K.l_append_at 7 rfl (Fx.und rfl) (Fx.und rfl) rfl (Fx.sz rfl) (Fx.zr rfl) rfl (Fx.byt rfl) rfl rfl (K.src_cells (K.cels_own (pre := []) (cs := [uV p.next]) (post := []) 0 rfl rfl) rfl (by simp [oneCell])) (by omega) (by omega) rfl (fun a7 k7 => ?_) | refine K.l_append_at 7 rfl (Fx.und rfl) (Fx.und rfl) rfl (Fx.sz rfl) (Fx.zr rfl) rfl (Fx.byt rfl) rfl rfl (K.src_cells (K.cels_own (pre := []) (cs := [uV p.next]) (post := []) 1 rfl rfl) rfl (by simp [oneCell])) (by omega) (by omega) rfl (fun a7 k7 => ?_)
          refine K.l_nil ?_
          refine X.onE hKK ?_
          refine K.d_on rfl (fun KK hKK => ?_)
          refine X.sto ?_
          refine K.l_nil ?_
          refine X.onE hKK ?_
          refine K.d_cl rfl (fun KK hKK => ?_)
          refine X.sto ?_
          refine K.l_nil ?_
          refine K.d_clE hKK ?_
          refine K.d_nil ?_
          refine K.AT.sel [0, 0, 0] rfl ?_
          exact K.joined ⟨a6, k6, a7, k7⟩ (by repeat (first | exact K.Sub.nil _ | refine K.Sub.cons rfl ?_)) rfl rfl
        refine K.d_on rfl (fun KK hKK => ?_)
        refine K.l_buildSlice (Fx.und rfl) (Fx.sz rfl) rfl (Fx.zr rfl) rfl rfl rfl rfl rfl (fun B20 => ?_)
        refine K.l_nil ?_
        refine X.onE hKK ?_
        refine K.d_on rfl (fun KK hKK => ?_)
        refine K.s_pure X.ld rfl ?_
        refine K.l_nil ?_
        refine X.onE hKK ?_
        refine K.d_on rfl (fun KK hKK => ?_)
        first | refine K.l_append_at 4 rfl (Fx.und rfl) (Fx.und rfl) rfl (Fx.sz rfl) (Fx.zr rfl) rfl (Fx.byt rfl) rfl rfl (K.src_cells (K.cels_own (pre := []) (cs := [uV n]) (post := []) 0 rfl rfl) rfl (by simp [oneCell])) (by omega) (by omega) rfl (fun a6 k6 => ?_) | refine K.l_append_at 5 rfl (Fx.und rfl) (Fx.und rfl) rfl (Fx.sz rfl) (Fx.zr rfl) rfl (Fx.byt rfl) rfl rfl (K.src_cells (K.cels_own (pre := []) (cs := [uV n]) (post := []) 0 rfl rfl) rfl (by simp [oneCell])) (by omega) (by omega) rfl (fun a6 k6 => ?_) | refine K.l_append_at 5 rfl (Fx.und rfl) (Fx.und rfl) rfl (Fx.sz rfl) (Fx.zr rfl) rfl (Fx.byt rfl) rfl rfl (K.src_cells (K.cels_own (pre := []) (cs := [uV n]) (post := []) 1 rfl rfl) rfl (by simp [oneCell])) (by omega) (by omega) rfl (fun a6 k6 => ?_)
        refine K.l_nil ?_
        refine X.onE hKK ?_
        refine K.d_on rfl (fun KK hKK => ?_)
        first | refine K.l_append_at 7 rfl (Fx.und rfl) (Fx.und rfl) rfl (Fx.sz rfl) (Fx.zr rfl) rfl (Fx.byt rfl) rfl rfl (K.src_cells (K.cels_own (pre := []) (cs := [uV p.next]) (post := []) 0 rfl rfl) rfl (by simp [oneCell])) (by omega) (by omega) rfl (fun a7 k7 => ?_) | refine K.l_append_at 7 rfl (Fx.und rfl) (Fx.und rfl) rfl (Fx.sz rfl) (Fx.zr rfl) rfl (Fx.byt rfl) rfl rfl (K.src_cells (K.cels_own (pre := []) (cs := [uV p.next]) (post := []) 1 rfl rfl) rfl (by simp [oneCell])) (by omega) (by omega) rfl (fun a7 k7 => ?_)
        refine K.l_nil ?_
        refine X.onE hKK ?_
        refine K.d_on rfl (fun KK hKK => ?_)
        refine X.sto ?_
        refine K.l_nil ?_
        refine X.onE hKK ?_
        refine K.d_cl rfl (fun KK hKK => ?_)
        refine X.sto ?_
        refine K.l_nil ?_
        refine K.d_clE hKK ?_
        refine K.d_nil ?_
        refine K.AT.sel [0, 0, 0] rfl ?_
        exact K.joined ⟨a6, k6, a7, k7⟩ (by repeat (first | exact K.Sub.nil _ | refine K.Sub.cons rfl ?_)) rfl rfl
      refine fun r => K.a_qn ?_
      refine K.AT.closed (Hs := [_, _, _, _, _]) (K.pp [0, 0, 0, 0, 0] rfl) ?_
      refine K.doneXC (vs := []) (by first | exact Or.inl rfl | exact Or.inr rfl) .nil (K.Base.le.refl _) (D := []) (H' := [_]) rfl ⟨_, _, hv, ⟨hsg1, by simp; omega, by simp; omega, hx, ?_, ?_, r.a6, r.k6, r.a7, r.k7, ?_⟩, rfl⟩
      · intro z hz
        rcases List.mem_append.1 hz with hz | hz
        · exact hb1 z hz
        · rw [List.mem_singleton.1 hz]; exact hn
      · intro z hz
        rcases List.mem_append.1 hz with hz | hz
        · exact hb2 z hz
        · rw [List.mem_singleton.1 hz]; exact hw.next
      · rw [List.length_append, List.length_append, List.map_append, List.map_append]
        rfl
    · have h2 : ¬ p.kind = 2 := by assumption
      have hv : visC ⟨sdeep, leaves, nexts⟩ n p ⟨deep, lo, hi, fin⟩ = .ok ⟨sdeep, leaves, nexts⟩ := by
        unfold visC
        rw [if_pos hall, if_neg h2]
      refine K.AT.sel [0, 0] rfl (K.AT.closed (Hs := [_, _, _, _, _]) (K.pp [0, 0, 0, 0, 0] rfl) ?_)
      refine K.doneXC (vs := []) (by first | exact Or.inl rfl | exact Or.inr rfl) .nil (K.Base.le.refl _) (D := []) (H' := [_]) rfl ⟨_, _, hv, ⟨hsg1, by rw [List.length_cons]; dsimp only; omega, hnl, hd8, hb1, hb2, a4, c4, a5, c5, rfl⟩, rfl⟩

/-! ### Whether a tree is right -/
theorem fold_lt {α σ : Type} {f : σ → α → Except Int σ} {μ : σ → Nat} (hf : ∀ s a q, f s a = .ok q → μ s < μ q) : ∀ (l : List α) (s q : σ), foldE f l s = .ok q → μ s ≤ μ q ∧ (l ≠ [] → μ s < μ q)
  | [], s, q, h => by cases h; exact ⟨Nat.le_refl _, fun h => absurd rfl h⟩
  | a :: l, s, q, h => by
    rw [foldE] at h
    split at h
    · cases h
    · rename_i s' hs
      have h1 := hf _ _ _ hs
      have h2 := (fold_lt hf l _ _ h).1
      exact ⟨by omega, fun _ => by omega⟩
theorem visC_leaf {st st' : CkS} {n : Nat} {p : Pag} {x : Plc} (h : visC st n p x = .ok st') : (p.kind = 2 ∧ st' = ⟨x.deep, st.leaves ++ [n], st.nexts ++ [p.next]⟩ ∧ (st.deep = 0 ∨ st.deep = x.deep)) ∨ (¬ p.kind = 2 ∧ st' = st) := by
  unfold visC at h
  split at h
  · split at h
    · split at h
      · rename_i h2 h3
        cases h; exact .inl ⟨h2, rfl, h3⟩
      · cases h
    · rename_i h2
      cases h; exact .inr ⟨h2, rfl⟩
  · cases h
theorem walk_lt {G : Option GetQ} : ∀ (k : Nat) (s : List Nat × CkS) (y : Nat × Plc) (q : List Nat × CkS), walkQ G visC k s y = .ok q → s.2.leaves.length < q.2.leaves.length
  | 0, s, y, q, h => by cases h
  | k + 1, s, y, q, h => by
    rw [walkQ] at h
    split at h
    · cases h
    · split at h
      · cases h
      · rename_i p hp
        split at h
        · cases h
        · rename_i st hst
          rcases visC_leaf hst with ⟨h2, rfl, _⟩ | ⟨h2, rfl⟩
          · rw [if_pos h2] at h
            cases h
            show s.2.leaves.length < (s.2.leaves ++ [y.1]).length
            rw [List.length_append]; simp
          · rw [if_neg h2] at h
            exact (fold_lt (μ := fun s : List Nat × CkS => s.2.leaves.length) (walk_lt k) _ _ _ h).2 (by
              intro e
              have := congrArg List.length e
              rw [kplc_len, kids_len] at this
              cases this)
def checkQ (G : Option GetQ) (root : Nat) : Except Int Nat := match allQ G visC ⟨0, [], []⟩ root with
  | .error e => .error e
  | .ok q => if q.2.leaves.tail ++ [0] = q.2.nexts then .ok 0 else .error 5
set_option maxHeartbeats 2000000 in
theorem CheckC (h : Base) (gv : Value) (G : Option GetQ) (hG : FewG G) (root : Nat) (B0 B1 : Nat) (hg : GetV h gv G) (hr : root < 4294967296) :
    TrX Try.prog 42 [.pointer (some ⟨B0, 0, none⟩), .pointer (some ⟨B1, 0, none⟩)] h [blk B0 61 [gv], blk B1 23 [uV root]]
      (fun v h' H' => ∃ l, checkQ G root = .ok l ∧ (H' = [] ∧ v = .int .i64 l)) (UpE (checkQ G root)) := by
  refine K.enterX Try.func42 rfl (Nat.le_of_ble_eq_true rfl) (fun F => ?_)
  simp only [List.cons_append, List.nil_append]
  (repeat' (first | refine X.rq ?_ | (refine X.rc ?_ ?_ <;> intro hc <;> first | (exfalso; omega) | skip)))
  refine K.l_alloc (Fx.zr rfl) rfl rfl (fun B3 => ?_)
  refine X.sto ?_
  simp only [List.set_cons_zero, List.set_cons_succ, List.eraseIdx_cons_zero, List.eraseIdx_cons_succ, List.cons_append, List.nil_append]
  (repeat' (first | refine X.rq ?_ | (refine X.rc ?_ ?_ <;> intro hc <;> first | (exfalso; omega) | skip)))
  refine K.l_alloc (Fx.zr rfl) rfl rfl (fun B4 => ?_)
  refine K.l_alloc (Fx.zr rfl) rfl rfl (fun B5 => ?_)
  (repeat' (first | refine X.rq ?_ | (refine X.rc ?_ ?_ <;> intro hc <;> first | (exfalso; omega) | skip)))
  refine K.s_pure (K.p_makeFunc rfl) rfl ?_
  refine K.WL.nilBuf 23 1 ?_
  refine K.WL.nilBuf 23 1 ?_
  refine K.WL.perm (K.pp [4, 3, 0, 1, 0] rfl) ?_
  refine K.WL.close [_, _, _, _, _] ?_
  refine K.l_callX (Fx.cal rfl) rfl (GAll G (CkA G B3 B4 B5) visC 44 _ (Fx.cal rfl) (fun seen st h h' A hle e => e) (fun h seen st A n p cs x a b c d e f => ChkV G hG B3 B4 B5 h seen st A n p cs x a b c d e f) h gv root ⟨0, [], []⟩ _ hg hr ⟨⟨List.nodup_nil, fun n hn => by cases hn⟩, Nat.le_refl _, rfl, Nat.zero_le _, (fun x hx => by cases hx), (fun x hx => by cases hx), none, 0, none, 0, rfl⟩) (K.pp [0] rfl) rfl ?_ ?_
  · rintro v h' H' hle ⟨rfl, e, rfl, he⟩
    repeat (first | with_reducible refine K.a_then_panic ?_ | with_reducible refine K.a_block_panic ?_)
    exact K.upXD (D := [_, _]) (H' := []) hle rfl ⟨rfl, e, rfl, by rw [checkQ, he]⟩
  rintro v h1 H' hle ⟨⟨seen, ⟨deep, leaves, nexts⟩⟩, A', he, ⟨hsg, hsl, hnl, hd8, hb1, hb2, a4, c4, a5, c5, rfl⟩, rfl⟩
  simp only at hsg hsl hnl hd8 hb1 hb2
  have hfew := hG seen hsg
  have hpos : 0 < leaves.length := by
    unfold allQ at he
    split at he
    · cases he
    · exact walk_lt _ _ _ _ he
  obtain ⟨u, lt, rfl⟩ : ∃ u lt, leaves = u :: lt := by
    cases leaves with
    | nil => cases hpos
    | cons u lt => exact ⟨u, lt, rfl⟩
  have hck : checkQ G root = if lt ++ [0] = nexts then .ok 0 else .error 5 := by rw [checkQ, he]; rfl
  simp only [List.set_cons_zero, List.set_cons_succ, List.eraseIdx_cons_zero, List.eraseIdx_cons_succ, List.cons_append, List.nil_append]
  refine K.WL.open ?_
  simp only [List.set_cons_zero, List.set_cons_succ, List.eraseIdx_cons_zero, List.eraseIdx_cons_succ, List.cons_append, List.nil_append]
  (repeat' (first | refine X.rq ?_ | (refine X.rc ?_ ?_ <;> intro hc <;> first | (exfalso; omega) | skip)))
  refine K.WC.someBuf 2 rfl (by rw [List.length_cons]; omega) (fun b hb => ?_)
  subst hb
  rw [List.map_cons, List.length_cons]
  rw [List.length_cons] at hsl
  refine K.WC.perm (K.pp [2] rfl) (K.WC.tailBuf (fun hc4 hm4 => ?_))
  refine K.WC.perm (K.pp [4] rfl) ?_
  simp only [List.set_cons_zero, List.set_cons_succ, List.eraseIdx_cons_zero, List.eraseIdx_cons_succ, List.cons_append, List.nil_append]
  refine WC.freezeRowE (nexts.map fun n => [uV n]) (List.length_map _).symm (flat_u nexts).symm (fun e he => by
    obtain ⟨z, _, rfl⟩ := List.mem_map.1 he
    rfl) (fun h2 le2 hsl2 => ?_)
  have hu2 : U32s h2 (bufV a5 nexts.length c5) nexts := ⟨hsl2, hb2⟩
  refine X.draw ([blk B4 30 [bufV (some b) (lt.length + 1) c4], blk B5 30 [bufV a5 nexts.length c5]]) [] (.st 0 (.pu 1 (.st 4 (.on 2 (.on 3 (.on 5 (.on 6 .nil))))))) ?_ (hQ := by repeat (first | with_reducible refine K.NoPanic.then ?_ | with_reducible refine K.NoPanic.inBlock ?_ | with_reducible exact K.post_noPanic _ _ | exact K.post_noPanic _ _ | exact K.QN_noPanic | exact K.postS_noPanic | exact K.postX_noPanic | exact K.RPX_noPanic))
  refine K.d_st rfl X.ld rfl ?_
  refine K.d_pu rfl (fun _ _ => K.p_slice (k1 := .i64) (k2 := .i64) (l := 1) (u := lt.length + 1) (ao := some ⟨b, if c4 = 1 then 0 else 1, none⟩) (Fx.und rfl) (Fx.sz rfl) rfl ⟨1, rfl, rfl⟩ rfl (by omega) (by omega) (by split <;> rfl)) rfl ?_
  refine K.d_st rfl X.ld rfl ?_
  refine K.d_on rfl (fun KK hKK => ?_)
  refine K.l_buildSlice (Fx.und rfl) (Fx.sz rfl) rfl (Fx.zr rfl) rfl rfl rfl rfl rfl (fun B20 => ?_)
  refine K.l_nil ?_
  refine X.onE hKK ?_
  refine K.d_on rfl (fun KK hKK => ?_)
  refine K.WL.perm (K.pp [1] rfl) ?_
  simp only [List.set_cons_zero, List.set_cons_succ, List.eraseIdx_cons_zero, List.eraseIdx_cons_succ, List.cons_append, List.nil_append]
  refine K.l_appendQ (Fx.und rfl) (Fx.sz rfl) (Fx.zr rfl) rfl (Fx.byt rfl) rfl rfl (K.src_cells (K.cels_own (pre := []) (cs := [.int .u32 0]) (post := []) 0 rfl rfl) rfl (by simp [oneCell])) (by omega) (by omega) rfl (fun b4 o4 c4 => ?_)
  refine K.l_nil ?_
  refine X.onE hKK ?_
  refine K.d_on rfl (fun KK hKK => ?_)
  refine K.WL.freezeQu (fun h3 le3 hsl3 => ?_)
  rw [show (lt.map uV ++ [Value.int .u32 0]).map (fun v => [v]) = (lt ++ [0]).map (fun n => [uV n]) by simp] at hsl3
  have hu3 : U32s h3 (quV b4 o4 (lt.length + 1) c4) (lt ++ [0]) := ⟨hsl3, fun z hz => by
  rcases List.mem_append.1 hz with hz | hz
  · exact hb1 z (List.mem_cons_of_mem _ hz)
  · rw [List.mem_singleton.1 hz]; exact Nat.zero_lt_succ _⟩
  refine K.l_callV (Fx.cal rfl) rfl (EqualU h3 _ _ (lt ++ [0]) nexts hu3 (hu2.le le3) (by rw [List.length_append, List.length_singleton]; omega) (by rw [hnl, List.length_cons]; omega)) (K.pp [] rfl) rfl rfl ?_
  simp only [List.set_cons_zero, List.set_cons_succ, List.eraseIdx_cons_zero, List.eraseIdx_cons_succ, List.cons_append, List.nil_append]
  refine K.l_nil ?_
  refine X.onE hKK ?_
  refine K.d_on rfl (fun KK hKK => ?_)
  refine K.l_callX (Fx.cal rfl) rfl (Need h3 _ 5) (K.pp [] rfl) rfl ?_ ?_
  · (rintro v h' H' hle5 ⟨e5, rfl, e1, rfl⟩; obtain rfl := e5.symm; (repeat (first | with_reducible refine K.a_then_panic ?_ | with_reducible refine K.a_block_panic ?_)); exact K.upXD (D := [_, _, _, _, _, _]) (H' := []) (hle.trans (le2.trans le3)) rfl ⟨rfl, 5, rfl, by rw [hck, if_neg (of_decide_eq_false e1)]⟩)
  rintro v h' H' - ⟨e5, rfl, e1⟩
  obtain rfl := e5.symm
  have e1 := of_decide_eq_true e1
  simp only [List.set_cons_zero, List.set_cons_succ, List.eraseIdx_cons_zero, List.eraseIdx_cons_succ, List.cons_append, List.nil_append]
  refine K.l_nil ?_
  refine X.onE hKK ?_
  refine K.d_nil ?_
  refine K.AT.sel [0, 0, 0, 0, 0, 0] rfl ?_
  (repeat' (first | refine X.rq ?_ | (refine X.rc ?_ ?_ <;> intro hc <;> first | (exfalso; omega) | skip)))
  exact K.doneXC (vs := [.int .i64 0]) (by first | exact Or.inl rfl | exact Or.inr rfl) (.tmp rfl .nil) (hle.trans (le2.trans le3)) (D := []) (H' := []) rfl ⟨0, by rw [hck, if_pos e1], rfl, rfl⟩
end Go.Proofs.Ytahdbncfegedjaa.Nd
