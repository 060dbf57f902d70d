/-
 Pages: which may be, as the document says. Conditions: each theorem's own.
-/
import Derived.Test.YtijbhgiigddjdaaGreatPB5
set_option linter.unusedVariables false
set_option linter.unusedSimpArgs false
namespace Go.Proofs.YtijbhgiigddjdaaGreat.Pg
open Go Go.K Go.Proofs Go.Proofs.YtijbhgiigddjdaaGreat
set_option maxRecDepth 10000

set_option maxHeartbeats 4000000 in
theorem RMay (h : Base) (cs : List Value) (p : Pag) (hx : PagC h cs p) : TrV Tryz.prog 26 [.agg cs.toArray] h [] (.bool (mayQ p)) [] := by
 have hx0 := hx
 obtain ⟨hw, cv, rfl, es, hv, hel, hr⟩ := hx
 have hlen := hw.len
 obtain ⟨ao, ca, rfl⟩ := hv.len
 rw [hel] at hv hx0 ⊢
 have hsz : small p.cells → _ := RSize h _ p hx0
 generalize hpl : p.cells = l at *
 refine K.enter Tryz.func26 rfl (Nat.le_of_ble_eq_true rfl) (fun F => ?_)
 (repeat' first | refine X.rq ?_ | refine X.rc ?_ ?_ <;> intro hc <;> try omega)
 refine K.l_box rfl rfl rfl (fun B => ?_)
 have no : ¬ mayP p → ∀ E, AT Tryz.prog Tryz.f26.ntmps (K.post Tryz.prog Tryz.f26 fun v w' => ∃ h' H', h.le h' ∧ (v = Value.bool (mayQ p) ∧ h' = h ∧ H' = []) ∧ Ok h' (H' ++ F) w') .ret ((2, .bool false) :: E) h (blk B 41 (cP p (.slice ao l.length ca)) :: F) := fun hn E => by
  rw [may_false hn]
  refine K.AT.drop ?_
  refine K.dl rfl (H' := []) rfl ⟨rfl, rfl, rfl⟩
 by_cases hkn : (1 ≤ p.kind ∧ p.kind ≤ 3) ∧ l.length ≤ 60
 ·obtain ⟨hkd, h60⟩ := hkn
  (repeat' first | refine X.rq ?_ | refine X.rc ?_ ?_ <;> intro hc <;> try omega)
  refine K.c_loop (σ := Nat) (fun j => [(1, .pointer (some ⟨B, 0, none⟩)), (3, .int .i64 j)]) (fun _ => h) (fun _ => blk B 41 (cP p (.slice ao l.length ca)) :: F) (fun j => j ≤ l.length ∧ ∀ (i : Nat) x, i < j → l[i]? = some x → cellP p i x) (fun j => l.length - j) 0 ⟨Nat.zero_le _, fun i x hi => by omega⟩ (by repeat (first | exact K.Sub.nil _ | refine K.Sub.cons rfl ?_)) rfl rfl ?_
  rintro j ⟨hj, hyes⟩ KL hKL
  by_cases hjl : j < l.length
  ·have hc1 : es[j]? = some (es[j]'(by omega)) := List.getElem?_eq_getElem (by omega)
   have hc0 : es[((j : Nat) : Int).toNat]? = some (es[j]'(by omega)) := by rw [Int.toNat_natCast]; exact hc1
   have he1 : l[j]? = some l[j] := List.getElem?_eq_getElem hjl
   generalize es[j]'(by omega) = c at hc0 hc1
   generalize l[j] = x at he1
   obtain ⟨hkl, hdl, ao3, ca3, rfl, hbv⟩ := hr j c x hc1 he1
   have hok : okCell x ↔ (x.used = true → 1 ≤ x.data.length ∧ x.data.length ≤ 180) ∧ (x.used = false → x.killer = 0 ∧ x.data.length = 0) := Iff.rfl
   have hcx : cellP p j x ↔ okCell x ∧ (p.kind = 1 → j + 1 = p.cells.length → x.used = true) ∧ (p.kind ≠ 1 → x.used = true ∧ (p.kind = 3 → x.killer = 0 ∧ 5 ≤ x.data.length) ∧ (0 < j → ltPrev p j x = true)) := Iff.rfl
   rw [hpl] at hcx
   have nx : ¬ cellP p j x → ¬ mayP p := fun hn hm => hn (hm.2.2.1 j x (by rw [hpl]; exact he1))
   have yx : cellP p j x → ∀ (i : Nat) y, i < j + 1 → l[i]? = some y → cellP p i y := fun ho i y hi h2 => by
    by_cases hij : i < j
    ·exact hyes i y hij h2
    ·obtain rfl : i = j := by omega
     rw [he1] at h2; cases h2; exact ho
   cases hu : x.used with
   | true =>
    simp only [hu, true_implies, reduceCtorEq, false_implies, and_true, implies_true, true_and, ne_eq] at hok hcx
    rw [hu] at hc0
    have hcx2 : CellC h [.bool true, .int .u32 x.killer, .slice ao3 x.data.length ca3] x := ⟨hkl, hdl, ao3, ca3, by rw [hu], hbv⟩
    (repeat' first | refine X.rq ?_ | refine X.rc ?_ ?_ <;> intro hc <;> try omega)
    refine K.s_pureE (K.p_indexL hv (Fx.und rfl) (Fx.sz rfl) rfl rfl (by omega) hc0) rfl ?_
    rintro v2 ⟨b, o, rfl, hcel⟩
    refine K.s_pure (K.p_loadM (Fx.agg rfl) rfl (Cels.up hcel) (Fx.sz rfl) rfl) rfl ?_
    refine K.l_alloc (Fx.zr rfl) rfl rfl (fun B5 => ?_)
    refine X.stw ?_
    by_cases ho : 1 ≤ x.data.length ∧ x.data.length ≤ 180
    ·by_cases h3 : p.kind = 3 → x.killer = 0 ∧ 5 ≤ x.data.length
     ·have hoc := hok.2 ho
      by_cases k1 : p.kind = 1
      ·have hyx : cellP p j x := hcx.2 ⟨hoc, fun e => absurd k1 e⟩
       (repeat' first | refine X.rq ?_ | refine X.rc ?_ ?_ <;> intro hc <;> try omega)
       refine X.draw ([blk B5 120 [.bool true, .int .u32 x.killer, .slice ao3 x.data.length ca3], blk B 41 (cP p (.slice ao l.length ca))]) [] (.pu 0 (.st 1 (.pu 2 (.pu 3 (.pu 4 (.pu 5 (.pu 6 (.pu 7 (.pu 8 (.pu 10 (.pu 12 (.pu 13 (.pu 17 (.st 9 (.st 11 (.pu 14 (.st 15 (.st 18 (.st 19 (.on 16 (.on 20 (.pu 21 (.pu 22 .nil))))))))))))))))))))))) ?_
       refine K.d_pu rfl (fun _ _ => X.fa) rfl ?_
       refine K.d_st rfl X.ld rfl ?_
       refine K.d_pu rfl (fun _ _ => X.bneq) rfl ?_
       rw [decide_eq_false (fun e : p.kind ≠ 1 => e k1)]
       refine K.d_pu rfl (fun _ _ => X.mv) rfl ?_
       first | refine K.d_skip rfl rfl rfl rfl ?_ | refine K.d_skipU rfl rfl rfl rfl rfl ?_ | refine K.d_puG rfl rfl rfl (fun _ _ => X.mv) rfl ?_
       first | refine K.d_skip rfl rfl rfl rfl ?_ | refine K.d_skipU rfl rfl rfl rfl rfl ?_ | refine K.d_puG rfl rfl rfl (fun _ _ => X.bgtr) rfl ?_
       refine K.d_pu rfl (fun _ _ => X.pk) rfl ?_
       refine K.d_pu rfl (fun _ _ => X.mv) rfl ?_
       first | refine K.d_skip rfl rfl rfl rfl ?_ | refine K.d_skipU rfl rfl rfl rfl rfl ?_ | refine K.d_puG rfl rfl rfl (fun _ _ => X.fa) rfl ?_
       first | refine K.d_skip rfl rfl rfl rfl ?_ | refine K.d_skipU rfl rfl rfl rfl rfl ?_ | refine K.d_puG rfl rfl rfl (fun _ _ => X.fa) rfl ?_
       first | refine K.d_skip rfl rfl rfl rfl ?_ | refine K.d_skipU rfl rfl rfl rfl rfl ?_ | refine K.d_puG rfl rfl rfl (fun _ _ => X.mv) rfl ?_
       first | refine K.d_skip rfl rfl rfl rfl ?_ | refine K.d_skipU rfl rfl rfl rfl rfl ?_ | refine K.d_puG rfl rfl rfl (fun _ _ => X.bsub) rfl ?_
       first | refine K.d_skip rfl rfl rfl rfl ?_ | refine K.d_skipU rfl rfl rfl rfl rfl ?_ | refine K.d_puG rfl rfl rfl (fun _ _ => X.fa) rfl ?_
       first | refine K.d_skipS rfl rfl rfl rfl ?_ | refine K.d_skipUS rfl rfl rfl rfl rfl ?_ | refine K.d_stG rfl rfl rfl X.ld rfl ?_
       first | refine K.d_skipS rfl rfl rfl rfl ?_ | refine K.d_skipUS rfl rfl rfl rfl rfl ?_ | refine K.d_stG rfl rfl rfl X.ld rfl ?_
       first | refine K.d_skip rfl rfl rfl rfl ?_ | refine K.d_skipU rfl rfl rfl rfl rfl ?_ | refine K.d_puG rfl rfl rfl (fun _ _ => X.ia) rfl ?_
       first | refine K.d_skipS rfl rfl rfl rfl ?_ | refine K.d_skipUS rfl rfl rfl rfl rfl ?_ | refine K.d_stG rfl rfl rfl X.ld rfl ?_
       first | refine K.d_skipS rfl rfl rfl rfl ?_ | refine K.d_skipUS rfl rfl rfl rfl rfl ?_ | refine K.d_stG rfl rfl rfl X.ld rfl ?_
       first | refine K.d_skipS rfl rfl rfl rfl ?_ | refine K.d_skipUS rfl rfl rfl rfl rfl ?_ | refine K.d_stG rfl rfl rfl X.ld rfl ?_
       refine K.d_on rfl (fun KK hKK => ?_)
       first | refine K.s_skip rfl rfl rfl ?_ | refine K.s_skipU rfl rfl rfl rfl ?_
       refine K.l_nil ?_
       refine X.onE hKK ?_
       refine K.d_on rfl (fun KK hKK => ?_)
       first | refine K.s_skip rfl rfl rfl ?_ | refine K.s_skipU rfl rfl rfl rfl ?_
       refine K.l_nil ?_
       refine X.onE hKK ?_
       first | refine K.d_skip rfl rfl rfl rfl ?_ | refine K.d_skipU rfl rfl rfl rfl rfl ?_ | refine K.d_puG rfl rfl rfl (fun _ _ => X.bgeq) rfl ?_
       refine K.d_pu rfl (fun _ _ => X.pk) rfl ?_
       refine K.d_nil ?_
       (repeat' first | refine X.rq ?_ | refine X.rc ?_ ?_ <;> intro hc <;> try omega)
       all_goals
        refine K.AT.drop ?_
        exact K.a_round hKL (j + 1) ⟨by omega, yx hyx⟩ (by repeat (first | exact K.Sub.nil _ | refine K.Sub.cons rfl ?_)) rfl rfl (by omega)
      ·by_cases hj0 : 0 < j
       ·have hd1 : es[j - 1]? = some (es[j - 1]'(by omega)) := List.getElem?_eq_getElem (by omega)
        have hd0 : es[((j : Int) - 1).toNat]? = some (es[j - 1]'(by omega)) := by rw [show ((j : Int) - 1).toNat = j - 1 by omega]; exact hd1
        have hy1 : l[j - 1]? = some (l[j - 1]'(by omega)) := List.getElem?_eq_getElem (by omega)
        generalize es[j - 1]'(by omega) = c2 at hd0 hd1
        generalize l[j - 1]'(by omega) = y at hy1
        have hcc2 := hr _ c2 y hd1 hy1
        have hyy := hyes (j - 1) y (by omega) hy1
        have hz2 : c2.length = 3 := by obtain ⟨_, _, _, _, e, _⟩ := hcc2; rw [e]; rfl
        have hlp : ltPrev p j x = decide (Lib.compareBytes (keyQ p.kind y) (keyQ p.kind x) < 0) := by rw [ltPrev, hpl, hy1]
        (repeat' first | refine X.rq ?_ | refine X.rc ?_ ?_ <;> intro hc <;> try omega)
        all_goals
         refine X.draw ([blk B5 120 [.bool true, .int .u32 x.killer, .slice ao3 x.data.length ca3], blk B 41 (cP p (.slice ao l.length ca))]) [] (.pu 0 (.st 1 (.pu 2 (.pu 3 (.pu 4 (.pu 5 (.pu 6 (.pu 7 (.pu 8 (.pu 10 (.pu 12 (.pu 13 (.pu 17 (.st 9 (.st 11 (.st 14 (.st 15 (.st 18 (.st 19 (.on 16 (.on 20 (.pu 21 (.pu 22 .nil))))))))))))))))))))))) ?_
         refine K.d_pu rfl (fun _ _ => X.fa) rfl ?_
         refine K.d_st rfl X.ld rfl ?_
         refine K.d_pu rfl (fun _ _ => X.bneq) rfl ?_
         rw [decide_eq_true (show p.kind ≠ 1 from k1)]
         refine K.d_pu rfl (fun _ _ => X.mv) rfl ?_
         first | refine K.d_skip rfl rfl rfl rfl ?_ | refine K.d_skipU rfl rfl rfl rfl rfl ?_ | refine K.d_puG rfl rfl rfl (fun _ _ => X.mv) rfl ?_
         first | refine K.d_skip rfl rfl rfl rfl ?_ | refine K.d_skipU rfl rfl rfl rfl rfl ?_ | refine K.d_puG rfl rfl rfl (fun _ _ => X.bgtr) rfl ?_
         rw [decide_eq_true (show (0 : Int) < (j : Int) by omega)]
         refine K.d_pu rfl (fun _ _ => X.pk) rfl ?_
         refine K.d_pu rfl (fun _ _ => X.mv) rfl ?_
         first | refine K.d_skip rfl rfl rfl rfl ?_ | refine K.d_skipU rfl rfl rfl rfl rfl ?_ | refine K.d_puG rfl rfl rfl (fun _ _ => X.fa) rfl ?_
         first | refine K.d_skip rfl rfl rfl rfl ?_ | refine K.d_skipU rfl rfl rfl rfl rfl ?_ | refine K.d_puG rfl rfl rfl (fun _ _ => X.fa) rfl ?_
         first | refine K.d_skip rfl rfl rfl rfl ?_ | refine K.d_skipU rfl rfl rfl rfl rfl ?_ | refine K.d_puG rfl rfl rfl (fun _ _ => X.mv) rfl ?_
         first | refine K.d_skip rfl rfl rfl rfl ?_ | refine K.d_skipU rfl rfl rfl rfl rfl ?_ | refine K.d_puG rfl rfl rfl (fun _ _ => X.bsub) rfl ?_
         first | refine K.d_skip rfl rfl rfl rfl ?_ | refine K.d_skipU rfl rfl rfl rfl rfl ?_ | refine K.d_puG rfl rfl rfl (fun _ _ => X.fa) rfl ?_
         first | refine K.d_skipS rfl rfl rfl rfl ?_ | refine K.d_skipUS rfl rfl rfl rfl rfl ?_ | refine K.d_stG rfl rfl rfl X.ld rfl ?_
         first | refine K.d_skipS rfl rfl rfl rfl ?_ | refine K.d_skipUS rfl rfl rfl rfl rfl ?_ | refine K.d_stG rfl rfl rfl X.ld rfl ?_
         refine K.d_stGE rfl rfl rfl (K.p_indexL hv (Fx.und rfl) (Fx.sz rfl) rfl rfl (by omega) hd0) rfl ?_
         rintro v3 ⟨b3, o3, rfl, hcel3⟩
         refine K.d_stG rfl rfl rfl (K.p_loadM (Fx.agg rfl) rfl (Cels.up hcel3) (Fx.sz rfl) hz2) rfl ?_
         first | refine K.d_skipS rfl rfl rfl rfl ?_ | refine K.d_skipUS rfl rfl rfl rfl rfl ?_ | refine K.d_stG rfl rfl rfl X.ld rfl ?_
         first | refine K.d_skipS rfl rfl rfl rfl ?_ | refine K.d_skipUS rfl rfl rfl rfl rfl ?_ | refine K.d_stG rfl rfl rfl X.ld rfl ?_
         refine K.d_on rfl (fun KK hKK => ?_)
         refine K.s_take rfl rfl ?_
         refine K.l_callV (Fx.cal rfl) rfl (ROrder h p.kind c2 y hcc2 (fun e => by have := ((hyy.2.2 k1).2.1 e); omega)) (K.pp [] rfl) rfl rfl ?_
         simp only [List.nil_append]
         refine K.l_nil ?_
         refine X.onE hKK ?_
         refine K.d_on rfl (fun KK hKK => ?_)
         refine K.s_take rfl rfl ?_
         refine K.l_callV (Fx.cal rfl) rfl (ROrder h p.kind _ x hcx2 (fun e => by have := h3 e; omega)) (K.pp [] rfl) rfl rfl ?_
         simp only [List.nil_append]
         refine K.l_nil ?_
         refine X.onE hKK ?_
         first | refine K.d_skip rfl rfl rfl rfl ?_ | refine K.d_skipU rfl rfl rfl rfl rfl ?_ | refine K.d_puG rfl rfl rfl (fun _ _ => X.bgeq) rfl ?_
         rw [ByteArray.toList_mk, ByteArray.toList_mk, K.less_iff]
         refine K.d_pu rfl (fun _ _ => X.pk) rfl ?_
         refine K.d_nil ?_
         by_cases hlt : Lib.compareBytes (keyQ p.kind y) (keyQ p.kind x) < 0
         ·rw [decide_eq_true hlt]
          (repeat' first | refine X.rq ?_ | refine X.rc ?_ ?_ <;> intro hc <;> try omega)
          all_goals
           refine K.AT.drop ?_
           exact K.a_round hKL (j + 1) ⟨by omega, yx (hcx.2 ⟨hoc, fun _ => ⟨h3, fun _ => by rw [hlp]; exact decide_eq_true hlt⟩⟩)⟩ (by repeat (first | exact K.Sub.nil _ | refine K.Sub.cons rfl ?_)) rfl rfl (by omega)
         ·rw [decide_eq_false hlt]
          (repeat' first | refine X.rq ?_ | refine X.rc ?_ ?_ <;> intro hc <;> try omega)
          refine K.AT.drop ?_
          exact no (nx fun e => hlt (by
           have := ((hcx.1 e).2 k1).2 hj0
           rw [hlp] at this
           exact of_decide_eq_true this)) _
       ·(repeat' first | refine X.rq ?_ | refine X.rc ?_ ?_ <;> intro hc <;> try omega)
        all_goals
         refine X.draw ([blk B5 120 [.bool true, .int .u32 x.killer, .slice ao3 x.data.length ca3], blk B 41 (cP p (.slice ao l.length ca))]) [] (.pu 0 (.st 1 (.pu 2 (.pu 3 (.pu 4 (.pu 5 (.pu 6 (.pu 7 (.pu 8 (.pu 10 (.pu 12 (.pu 13 (.pu 17 (.st 9 (.st 11 (.pu 14 (.st 15 (.st 18 (.st 19 (.on 16 (.on 20 (.pu 21 (.pu 22 .nil))))))))))))))))))))))) ?_
         refine K.d_pu rfl (fun _ _ => X.fa) rfl ?_
         refine K.d_st rfl X.ld rfl ?_
         refine K.d_pu rfl (fun _ _ => X.bneq) rfl ?_
         rw [decide_eq_true (show p.kind ≠ 1 from k1)]
         refine K.d_pu rfl (fun _ _ => X.mv) rfl ?_
         first | refine K.d_skip rfl rfl rfl rfl ?_ | refine K.d_skipU rfl rfl rfl rfl rfl ?_ | refine K.d_puG rfl rfl rfl (fun _ _ => X.mv) rfl ?_
         first | refine K.d_skip rfl rfl rfl rfl ?_ | refine K.d_skipU rfl rfl rfl rfl rfl ?_ | refine K.d_puG rfl rfl rfl (fun _ _ => X.bgtr) rfl ?_
         rw [decide_eq_false (show ¬ (0 : Int) < (j : Int) by omega)]
         refine K.d_pu rfl (fun _ _ => X.pk) rfl ?_
         refine K.d_pu rfl (fun _ _ => X.mv) rfl ?_
         first | refine K.d_skip rfl rfl rfl rfl ?_ | refine K.d_skipU rfl rfl rfl rfl rfl ?_ | refine K.d_puG rfl rfl rfl (fun _ _ => X.fa) rfl ?_
         first | refine K.d_skip rfl rfl rfl rfl ?_ | refine K.d_skipU rfl rfl rfl rfl rfl ?_ | refine K.d_puG rfl rfl rfl (fun _ _ => X.fa) rfl ?_
         first | refine K.d_skip rfl rfl rfl rfl ?_ | refine K.d_skipU rfl rfl rfl rfl rfl ?_ | refine K.d_puG rfl rfl rfl (fun _ _ => X.mv) rfl ?_
         first | refine K.d_skip rfl rfl rfl rfl ?_ | refine K.d_skipU rfl rfl rfl rfl rfl ?_ | refine K.d_puG rfl rfl rfl (fun _ _ => X.bsub) rfl ?_
         first | refine K.d_skip rfl rfl rfl rfl ?_ | refine K.d_skipU rfl rfl rfl rfl rfl ?_ | refine K.d_puG rfl rfl rfl (fun _ _ => X.fa) rfl ?_
         first | refine K.d_skipS rfl rfl rfl rfl ?_ | refine K.d_skipUS rfl rfl rfl rfl rfl ?_ | refine K.d_stG rfl rfl rfl X.ld rfl ?_
         first | refine K.d_skipS rfl rfl rfl rfl ?_ | refine K.d_skipUS rfl rfl rfl rfl rfl ?_ | refine K.d_stG rfl rfl rfl X.ld rfl ?_
         first | refine K.d_skip rfl rfl rfl rfl ?_ | refine K.d_skipU rfl rfl rfl rfl rfl ?_ | refine K.d_puG rfl rfl rfl (fun _ _ => X.ia) rfl ?_
         first | refine K.d_skipS rfl rfl rfl rfl ?_ | refine K.d_skipUS rfl rfl rfl rfl rfl ?_ | refine K.d_stG rfl rfl rfl X.ld rfl ?_
         first | refine K.d_skipS rfl rfl rfl rfl ?_ | refine K.d_skipUS rfl rfl rfl rfl rfl ?_ | refine K.d_stG rfl rfl rfl X.ld rfl ?_
         first | refine K.d_skipS rfl rfl rfl rfl ?_ | refine K.d_skipUS rfl rfl rfl rfl rfl ?_ | refine K.d_stG rfl rfl rfl X.ld rfl ?_
         refine K.d_on rfl (fun KK hKK => ?_)
         first | refine K.s_skip rfl rfl rfl ?_ | refine K.s_skipU rfl rfl rfl rfl ?_
         refine K.l_nil ?_
         refine X.onE hKK ?_
         refine K.d_on rfl (fun KK hKK => ?_)
         first | refine K.s_skip rfl rfl rfl ?_ | refine K.s_skipU rfl rfl rfl rfl ?_
         refine K.l_nil ?_
         refine X.onE hKK ?_
         first | refine K.d_skip rfl rfl rfl rfl ?_ | refine K.d_skipU rfl rfl rfl rfl rfl ?_ | refine K.d_puG rfl rfl rfl (fun _ _ => X.bgeq) rfl ?_
         refine K.d_pu rfl (fun _ _ => X.pk) rfl ?_
         refine K.d_nil ?_
         (repeat' first | refine X.rq ?_ | refine X.rc ?_ ?_ <;> intro hc <;> try omega)
         all_goals
          refine K.AT.drop ?_
          exact K.a_round hKL (j + 1) ⟨by omega, yx (hcx.2 ⟨hoc, fun _ => ⟨h3, fun e => absurd e hj0⟩⟩)⟩ (by repeat (first | exact K.Sub.nil _ | refine K.Sub.cons rfl ?_)) rfl rfl (by omega)
     ·have k3 : p.kind = 3 := Classical.byContradiction fun e => h3 (fun e2 => absurd e2 e)
      have hn : ¬ cellP p j x := fun e => h3 (fun _ => ((hcx.1 e).2 (by omega)).1 k3)
      have h3' : ¬ (x.killer = 0 ∧ 5 ≤ x.data.length) := fun e => h3 fun _ => e
      (repeat' first | refine X.rq ?_ | refine X.rc ?_ ?_ <;> intro hc <;> try omega)
      all_goals
       refine K.AT.drop ?_
       exact no (nx hn) _
    ·have hn : ¬ cellP p j x := fun e => ho (hok.1 (hcx.1 e).1)
     (repeat' first | refine X.rq ?_ | refine X.rc ?_ ?_ <;> intro hc <;> try omega)
     all_goals
      refine K.AT.drop ?_
      exact no (nx hn) _
   | false =>
    simp only [hu, true_implies, reduceCtorEq, false_implies, and_true, implies_true, true_and, ne_eq, Bool.false_eq_true, false_and] at hok hcx
    rw [hu] at hc0
    (repeat' first | refine X.rq ?_ | refine X.rc ?_ ?_ <;> intro hc <;> try omega)
    refine K.s_pureE (K.p_indexL hv (Fx.und rfl) (Fx.sz rfl) rfl rfl (by omega) hc0) rfl ?_
    rintro v2 ⟨b, o, rfl, hcel⟩
    refine K.s_pure (K.p_loadM (Fx.agg rfl) rfl (Cels.up hcel) (Fx.sz rfl) rfl) rfl ?_
    refine K.l_alloc (Fx.zr rfl) rfl rfl (fun B5 => ?_)
    refine X.stw ?_
    by_cases ho : x.killer = 0 ∧ x.data.length = 0
    ·have hoc := hok.2 ho
     by_cases k1 : p.kind = 1
     ·(repeat' first | refine X.rq ?_ | refine X.rc ?_ ?_ <;> intro hc <;> try omega)
      refine X.draw ([blk B5 120 [.bool false, .int .u32 x.killer, .slice ao3 x.data.length ca3], blk B 41 (cP p (.slice ao l.length ca))]) [] (.pu 0 (.st 1 (.pu 2 (.pu 3 (.pu 4 (.pu 5 (.pu 6 (.pu 7 (.pu 8 (.pu 10 (.pu 12 (.pu 13 (.pu 17 (.st 9 (.st 11 (.pu 14 (.st 15 (.st 18 (.st 19 (.on 16 (.on 20 (.pu 21 (.pu 22 .nil))))))))))))))))))))))) ?_
      refine K.d_pu rfl (fun _ _ => X.fa) rfl ?_
      refine K.d_st rfl X.ld rfl ?_
      refine K.d_pu rfl (fun _ _ => X.bneq) rfl ?_
      rw [decide_eq_false (fun e : p.kind ≠ 1 => e k1)]
      refine K.d_pu rfl (fun _ _ => X.mv) rfl ?_
      first | refine K.d_skip rfl rfl rfl rfl ?_ | refine K.d_skipU rfl rfl rfl rfl rfl ?_ | refine K.d_puG rfl rfl rfl (fun _ _ => X.mv) rfl ?_
      first | refine K.d_skip rfl rfl rfl rfl ?_ | refine K.d_skipU rfl rfl rfl rfl rfl ?_ | refine K.d_puG rfl rfl rfl (fun _ _ => X.bgtr) rfl ?_
      refine K.d_pu rfl (fun _ _ => X.pk) rfl ?_
      refine K.d_pu rfl (fun _ _ => X.mv) rfl ?_
      first | refine K.d_skip rfl rfl rfl rfl ?_ | refine K.d_skipU rfl rfl rfl rfl rfl ?_ | refine K.d_puG rfl rfl rfl (fun _ _ => X.fa) rfl ?_
      first | refine K.d_skip rfl rfl rfl rfl ?_ | refine K.d_skipU rfl rfl rfl rfl rfl ?_ | refine K.d_puG rfl rfl rfl (fun _ _ => X.fa) rfl ?_
      first | refine K.d_skip rfl rfl rfl rfl ?_ | refine K.d_skipU rfl rfl rfl rfl rfl ?_ | refine K.d_puG rfl rfl rfl (fun _ _ => X.mv) rfl ?_
      first | refine K.d_skip rfl rfl rfl rfl ?_ | refine K.d_skipU rfl rfl rfl rfl rfl ?_ | refine K.d_puG rfl rfl rfl (fun _ _ => X.bsub) rfl ?_
      first | refine K.d_skip rfl rfl rfl rfl ?_ | refine K.d_skipU rfl rfl rfl rfl rfl ?_ | refine K.d_puG rfl rfl rfl (fun _ _ => X.fa) rfl ?_
      first | refine K.d_skipS rfl rfl rfl rfl ?_ | refine K.d_skipUS rfl rfl rfl rfl rfl ?_ | refine K.d_stG rfl rfl rfl X.ld rfl ?_
      first | refine K.d_skipS rfl rfl rfl rfl ?_ | refine K.d_skipUS rfl rfl rfl rfl rfl ?_ | refine K.d_stG rfl rfl rfl X.ld rfl ?_
      first | refine K.d_skip rfl rfl rfl rfl ?_ | refine K.d_skipU rfl rfl rfl rfl rfl ?_ | refine K.d_puG rfl rfl rfl (fun _ _ => X.ia) rfl ?_
      first | refine K.d_skipS rfl rfl rfl rfl ?_ | refine K.d_skipUS rfl rfl rfl rfl rfl ?_ | refine K.d_stG rfl rfl rfl X.ld rfl ?_
      first | refine K.d_skipS rfl rfl rfl rfl ?_ | refine K.d_skipUS rfl rfl rfl rfl rfl ?_ | refine K.d_stG rfl rfl rfl X.ld rfl ?_
      first | refine K.d_skipS rfl rfl rfl rfl ?_ | refine K.d_skipUS rfl rfl rfl rfl rfl ?_ | refine K.d_stG rfl rfl rfl X.ld rfl ?_
      refine K.d_on rfl (fun KK hKK => ?_)
      first | refine K.s_skip rfl rfl rfl ?_ | refine K.s_skipU rfl rfl rfl rfl ?_
      refine K.l_nil ?_
      refine X.onE hKK ?_
      refine K.d_on rfl (fun KK hKK => ?_)
      first | refine K.s_skip rfl rfl rfl ?_ | refine K.s_skipU rfl rfl rfl rfl ?_
      refine K.l_nil ?_
      refine X.onE hKK ?_
      first | refine K.d_skip rfl rfl rfl rfl ?_ | refine K.d_skipU rfl rfl rfl rfl rfl ?_ | refine K.d_puG rfl rfl rfl (fun _ _ => X.bgeq) rfl ?_
      refine K.d_pu rfl (fun _ _ => X.pk) rfl ?_
      refine K.d_nil ?_
      by_cases hlast : j + 1 = l.length
      ·(repeat' first | refine X.rq ?_ | refine X.rc ?_ ?_ <;> intro hc <;> try omega)
       refine K.AT.drop ?_
       exact no (nx fun e => (hcx.1 e).2.1 k1 hlast) _
      ·(repeat' first | refine X.rq ?_ | refine X.rc ?_ ?_ <;> intro hc <;> try omega)
       refine K.AT.drop ?_
       exact K.a_round hKL (j + 1) ⟨by omega, yx (hcx.2 ⟨hoc, fun _ e => hlast e, fun e => e k1⟩)⟩ (by repeat (first | exact K.Sub.nil _ | refine K.Sub.cons rfl ?_)) rfl rfl (by omega)
     ·have hn : ¬ cellP p j x := fun e => (hcx.1 e).2.2 k1
      (repeat' first | refine X.rq ?_ | refine X.rc ?_ ?_ <;> intro hc <;> try omega)
      refine K.AT.drop ?_
      exact no (nx hn) _
    ·have hn : ¬ cellP p j x := fun e => ho (hok.1 (hcx.1 e).1)
     (repeat' first | refine X.rq ?_ | refine X.rc ?_ ?_ <;> intro hc <;> try omega)
     all_goals
      refine K.AT.drop ?_
      exact no (nx hn) _
  ·obtain rfl : j = l.length := by omega
   have hall : ∀ (i : Nat) x, l[i]? = some x → cellP p i x := fun i x hi => hyes i x (List.getElem?_eq_some_iff.1 hi).1 hi
   rw [show mayQ p = decide (sizeQ l ≤ 512) by
    rw [Bool.eq_iff_iff, mayQ_iff, decide_eq_true_iff]
    exact ⟨fun e => by rw [← hpl]; exact e.2.2.2, fun e => ⟨hkd, by rw [hpl]; exact h60, by rw [hpl]; exact hall, by rw [hpl]; exact e⟩⟩]
   (repeat' first | refine X.rq ?_ | refine X.rc ?_ ?_ <;> intro hc <;> try omega)
   refine K.l_callV (Fx.cal rfl) rfl (hsz (small_of (fun i x hi => (hall i x hi).1) (by omega))) (K.pp [] rfl) rfl rfl ?_
   simp only [List.nil_append]
   (repeat' first | refine X.rq ?_ | refine X.rc ?_ ?_ <;> intro hc <;> try omega)
   refine K.AT.drop ?_
   refine K.dl rfl (H' := []) rfl ⟨?_, rfl, rfl⟩
   show Value.bool _ = Value.bool _
   congr 1
   rw [decide_eq_decide]; omega
 ·have hno : ¬ mayP p := fun hm => hkn ⟨hm.1, by rw [← hpl]; exact hm.2.1⟩
  (repeat' first | refine X.rq ?_ | refine X.rc ?_ ?_ <;> intro hc <;> try omega)
  all_goals exact no hno _
end Go.Proofs.YtijbhgiigddjdaaGreat.Pg
