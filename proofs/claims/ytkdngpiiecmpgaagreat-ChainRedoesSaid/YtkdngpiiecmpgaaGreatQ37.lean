/-
 The document's operations: where a cell is; a cell put. Conditions: each theorem's own.
-/
import Derived.Test.YtkdngpiiecmpgaaGreatQ36
namespace Go.Proofs.YtkdngpiiecmpgaaGreat.Pg
open Go Go.K Go.Proofs Go.Proofs.YtkdngpiiecmpgaaGreat
set_option linter.unusedVariables false
set_option linter.unusedSimpArgs false
set_option maxRecDepth 10000

def hitQ (p : Pag) (o : POp) (i : Nat) (x : PCell) : Bool := x.used && (decide (p.kind = 1 ∧ (i : Int) = o.slot) || decide (p.kind = 2 ∧ x.data = o.data))
def ratQ (p : Pag) (o : POp) : Int := if (whereQ p o).2 = true then (whereQ p o).1 else -1
theorem hit_at {p : Pag} {o : POp} {j : Nat} {x : PCell} (hm : mayQ p = true) (hk : p.kind = 1 ∨ p.kind = 2) (hx : p.cells[j]? = some x) (hh : hitQ p o j x = true) : ratQ p o = j := by
 simp only [hitQ, Bool.and_eq_true, Bool.or_eq_true, decide_eq_true_eq] at hh
 obtain ⟨hu, hh⟩ := hh
 have hw : whereQ p o = ((j : Int), true) := where_at (c := x) (fun e => ⟨by omega, hu⟩) (fun e => by
  have hk2 : p.kind = 2 := by omega
  have hd : x.data = o.data := by
   rcases hh with ⟨h1, _⟩ | ⟨_, h2⟩
   ·exact absurd h1 e
   ·exact h2
  refine ⟨?_, hd⟩
  obtain ⟨hlt, hxe⟩ := List.getElem?_eq_some_iff.1 hx
  have hs := (((may_leaf hk2).1 hm).2).2
  have e2 : p.cells = p.cells.take j ++ x :: p.cells.drop (j + 1) := by
   conv => lhs; rw [← List.take_append_drop j p.cells]
   rw [List.drop_eq_getElem_cons hlt, hxe]
  have hp := List.pairwise_append.1 (e2 ▸ hs)
  rw [e2]
  refine (leaf_pos (fun y hy => ?_) (fun y hy => ?_)).trans (by rw [List.length_take]; omega)
  ·rw [← hd]; exact hp.2.2 y hy x (List.mem_cons_self ..)
  ·rcases List.mem_cons.1 hy with rfl | hy
   ·rw [hd, K.cmp_refl]; exact Int.le_refl _
   ·have h1 : Lib.compareBytes x.data y.data < 0 := (List.pairwise_cons.1 hp.2.1).1 y hy
    have h2 := K.cmp_swap y.data x.data
    rw [← hd]; omega) hx
 rw [ratQ, hw, if_pos rfl]
theorem hit_no {p : Pag} {o : POp} (hm : mayQ p = true) (hk : p.kind = 1 ∨ p.kind = 2) (hno : ∀ (i : Nat) x, i < p.cells.length → p.cells[i]? = some x → hitQ p o i x = false) : ratQ p o = -1 := by
 unfold ratQ
 split
 ·rename_i ht
  exfalso
  have hth := @where_there p o
  generalize hw : whereQ p o = ib at ht hth
  obtain ⟨i, t⟩ := ib
  obtain rfl : t = true := ht
  obtain ⟨j, rfl, x, hx⟩ := hth rfl
  have hn := hno j x (List.getElem?_eq_some_iff.1 hx).1 hx
  obtain ⟨w1, w2⟩ := where_kind hw
  simp only [hitQ, Bool.and_eq_false_imp, Bool.or_eq_false_iff, decide_eq_false_iff_not] at hn
  rcases hk with hk | hk
  ·obtain ⟨q1, q2⟩ := w1 hk
   rw [q1, used_some hx] at q2
   exact (hn q2).1 ⟨hk, q1.symm⟩
  ·obtain ⟨q1, q2⟩ := w2 (by omega)
   rw [dataAt, hx] at q2
   exact (hn (((may_leaf hk).1 hm).2.1 x (List.mem_of_getElem? hx))).2 ⟨hk, of_decide_eq_true q2⟩
 ·rfl
set_option maxHeartbeats 4000000 in
theorem RAt (h : Base) (cs ds : List Value) (p : Pag) (o : POp) (hx : PagC h cs p) (ho : OpC h ds o) (hm : mayQ p = true) (hk : p.kind = 1 ∨ p.kind = 2) :
  TrV Tryz.prog 74 [.agg cs.toArray, .agg ds.toArray] h [] (.int .i64 (ratQ p o)) [] := by
 obtain ⟨hw, cv, rfl, es, hv, hel, hr⟩ := hx
 obtain ⟨ao, ca, rfl⟩ := hv.len
 obtain ⟨hwo, ao4, ca4, rfl, hbo⟩ := ho
 have hlen := hw.len
 have hhit := @hit_at p o
 rw [hel] at hv ⊢
 refine K.enter Tryz.func74 rfl (Nat.le_of_ble_eq_true rfl) (fun F => ?_)
 simp only [List.nil_append]
 (repeat' (first | refine X.rq ?_ | (refine X.rc ?_ ?_ <;> intro hc <;> first | (exfalso; omega) | skip)))
 refine K.l_box rfl rfl rfl (fun B2 => ?_)
 refine K.l_box rfl rfl rfl (fun B3 => ?_)
 (repeat' (first | refine X.rq ?_ | (refine X.rc ?_ ?_ <;> intro hc <;> first | (exfalso; omega) | skip)))
 refine K.c_loop (σ := Nat) (fun j => [(2, .pointer (some ⟨B2, 0, none⟩)), (3, .pointer (some ⟨B3, 0, none⟩)), (5, .int .i64 j)]) (fun _ => h) (fun _ => blk B3 61 (cO o (.slice ao4 o.data.length ca4)) :: blk B2 50 (cP p (.slice ao p.cells.length ca)) :: F)
  (fun j => j ≤ p.cells.length ∧ ∀ (i : Nat) x, i < j → p.cells[i]? = some x → hitQ p o i x = false) (fun j => p.cells.length - j) 0 ⟨Nat.zero_le _, fun i y hi => by omega⟩ (by repeat (first | exact K.Sub.nil _ | refine K.Sub.cons rfl ?_)) rfl rfl ?_
 rintro j ⟨hj, hno⟩ KL hKL
 by_cases hjl : j < p.cells.length
 ·have hc1 : es[j]? = some (es[j]'(by omega)) := List.getElem?_eq_getElem (by omega)
  have hc0 : es[((j : Nat) : Int).toNat]? = some (es[j]'(by omega)) := by rw [Int.toNat_natCast]; exact hc1
  have he1 : p.cells[j]? = some p.cells[j] := List.getElem?_eq_getElem hjl
  generalize es[j]'(by omega) = c at hc0 hc1
  generalize p.cells[j] = x at he1
  obtain ⟨hkl, hdl, ao3, ca3, rfl, hbv⟩ := hr j c x hc1 he1
  have go : hitQ p o j x = false → ∀ (i : Nat) y, i < j + 1 → p.cells[i]? = some y → hitQ p o i y = false := fun e i y hi hy => by
   by_cases hij : i < j
   ·exact hno i y hij hy
   ·obtain rfl : i = j := by omega
    rw [he1] at hy; cases hy; exact e
  have hh := hhit (j := j) (x := x) hm hk he1
  (repeat' (first | refine X.rq ?_ | (refine X.rc ?_ ?_ <;> intro hc <;> first | (exfalso; omega) | skip)))
  refine K.c_join (β := Bool) (fun t => [(2, .pointer (some ⟨B2, 0, none⟩)), (3, .pointer (some ⟨B3, 0, none⟩)), (5, .int .i64 j), (47, .bool t)]) (fun _ => h) (fun _ => blk B3 61 (cO o (.slice ao4 o.data.length ca4)) :: blk B2 50 (cP p (.slice ao p.cells.length ca)) :: F) (fun t => t = hitQ p o j x) (fun KJ hJ => ?_) (fun t ht => ?_)
  ·clear hh go hno
   cases hu : x.used with
   | false =>
    refine X.draw ([blk B3 61 (cO o (.slice ao4 o.data.length ca4)), blk B2 50 (cP p (.slice ao p.cells.length ca))]) [] (.pu 0 (.pu 2 (.st 1 (.st 3 (.pu 4 (.st 5 (.pu 6 (.pu 7 (.st 8 (.pu 9 (.pu 10 (.pu 11 (.pu 12 (.st 13 (.pu 14 (.pu 15 (.pu 16 (.pu 17 (.st 18 (.pu 19 (.pu 20 (.pu 21 (.pu 23 (.pu 28 (.st 22 (.st 24 (.pu 25 (.st 26 (.st 27 (.st 29 (.st 30 (.pu 31 (.pu 32 (.pu 33 (.pu 34 .nil))))))))))))))))))))))))))))))))))) ?_
    refine K.d_pu rfl (fun _ _ => X.fa) rfl ?_
    refine K.d_pu rfl (fun _ _ => X.mv) rfl ?_
    refine K.d_st rfl X.ld rfl ?_
    refine K.d_stE rfl (K.p_indexL hv (Fx.und rfl) (Fx.sz rfl) rfl rfl (by omega) hc0) rfl ?_
    rintro v2 ⟨b, o1, rfl, hcel⟩
    refine K.d_pu rfl (fun _ _ => X.fa) rfl ?_
    refine K.d_st rfl (K.p_load (Fx.agg rfl) rfl (Cels.up hcel).1) rfl ?_
    rw [hu]
    refine K.d_pu rfl (fun _ _ => X.mv) rfl ?_
    first | refine K.d_skip rfl rfl rfl rfl ?_ | refine K.d_skipU rfl rfl rfl rfl rfl ?_ | refine K.d_puG rfl rfl rfl (fun _ _ => X.fa) rfl ?_
    first | refine K.d_skipS rfl rfl rfl rfl ?_ | refine K.d_skipUS rfl rfl rfl rfl rfl ?_ | refine K.d_stG rfl rfl rfl X.ld rfl ?_
    first | refine K.d_skip rfl rfl rfl rfl ?_ | refine K.d_skipU rfl rfl rfl rfl rfl ?_ | refine K.d_puG rfl rfl rfl (fun _ _ => X.beql) rfl ?_
    first | refine K.d_skip rfl rfl rfl rfl ?_ | refine K.d_skipU rfl rfl rfl rfl rfl ?_ | refine K.d_puG rfl rfl rfl (fun _ _ => X.mv) rfl ?_
    first | refine K.d_skip rfl rfl rfl rfl ?_ | refine K.d_skipU rfl rfl rfl rfl rfl ?_ | refine K.d_puG rfl rfl rfl (fun _ _ => X.mv) rfl ?_
    first | refine K.d_skip rfl rfl rfl rfl ?_ | refine K.d_skipU rfl rfl rfl rfl rfl ?_ | refine K.d_puG rfl rfl rfl (fun _ _ => X.fa) rfl ?_
    first | refine K.d_skipS rfl rfl rfl rfl ?_ | refine K.d_skipUS rfl rfl rfl rfl rfl ?_ | refine K.d_stG rfl rfl rfl X.ld rfl ?_
    first | refine K.d_skip rfl rfl rfl rfl ?_ | refine K.d_skipU rfl rfl rfl rfl rfl ?_ | refine K.d_puG rfl rfl rfl (fun _ _ => X.beql) rfl ?_
    first | refine K.d_skip rfl rfl rfl rfl ?_ | refine K.d_skipU rfl rfl rfl rfl rfl ?_ | refine K.d_puG rfl rfl rfl (fun _ _ => X.pk) rfl ?_
    first | refine K.d_skip rfl rfl rfl rfl ?_ | refine K.d_skipU rfl rfl rfl rfl rfl ?_ | refine K.d_puG rfl rfl rfl (fun _ _ => X.mv) rfl ?_
    first | refine K.d_skip rfl rfl rfl rfl ?_ | refine K.d_skipU rfl rfl rfl rfl rfl ?_ | refine K.d_puG rfl rfl rfl (fun _ _ => X.fa) rfl ?_
    first | refine K.d_skipS rfl rfl rfl rfl ?_ | refine K.d_skipUS rfl rfl rfl rfl rfl ?_ | refine K.d_stG rfl rfl rfl X.ld rfl ?_
    first | refine K.d_skip rfl rfl rfl rfl ?_ | refine K.d_skipU rfl rfl rfl rfl rfl ?_ | refine K.d_puG rfl rfl rfl (fun _ _ => X.beql) rfl ?_
    first | refine K.d_skip rfl rfl rfl rfl ?_ | refine K.d_skipU rfl rfl rfl rfl rfl ?_ | refine K.d_puG rfl rfl rfl (fun _ _ => X.mv) rfl ?_
    first | refine K.d_skip rfl rfl rfl rfl ?_ | refine K.d_skipU rfl rfl rfl rfl rfl ?_ | refine K.d_puG rfl rfl rfl (fun _ _ => X.fa) rfl ?_
    first | refine K.d_skip rfl rfl rfl rfl ?_ | refine K.d_skipU rfl rfl rfl rfl rfl ?_ | refine K.d_puG rfl rfl rfl (fun _ _ => X.mv) rfl ?_
    first | refine K.d_skip rfl rfl rfl rfl ?_ | refine K.d_skipU rfl rfl rfl rfl rfl ?_ | refine K.d_puG rfl rfl rfl (fun _ _ => X.fa) rfl ?_
    first | refine K.d_skipS rfl rfl rfl rfl ?_ | refine K.d_skipUS rfl rfl rfl rfl rfl ?_ | refine K.d_stG rfl rfl rfl X.ld rfl ?_
    refine K.d_skipUS rfl rfl rfl rfl rfl ?_
    first | refine K.d_skip rfl rfl rfl rfl ?_ | refine K.d_skipU rfl rfl rfl rfl rfl ?_ | refine K.d_puG rfl rfl rfl (fun _ _ => X.fa) rfl ?_
    refine K.d_skipUS rfl rfl rfl rfl rfl ?_
    refine K.d_skipUS rfl rfl rfl rfl rfl ?_
    first | refine K.d_skipS rfl rfl rfl rfl ?_ | refine K.d_skipUS rfl rfl rfl rfl rfl ?_ | refine K.d_stG rfl rfl rfl X.ld rfl ?_
    refine K.d_skipUS rfl rfl rfl rfl rfl ?_
    first | refine K.d_skip rfl rfl rfl rfl ?_ | refine K.d_skipU rfl rfl rfl rfl rfl ?_ | refine K.d_puG rfl rfl rfl (fun _ _ => X.beql) rfl ?_
    first | refine K.d_skip rfl rfl rfl rfl ?_ | refine K.d_skipU rfl rfl rfl rfl rfl ?_ | refine K.d_puG rfl rfl rfl (fun _ _ => X.pk) rfl ?_
    first | refine K.d_skip rfl rfl rfl rfl ?_ | refine K.d_skipU rfl rfl rfl rfl rfl ?_ | refine K.d_puG rfl rfl rfl (fun _ _ => X.pk) rfl ?_
    refine K.d_pu rfl (fun _ _ => X.pk) rfl ?_
    refine K.d_nil ?_
    refine K.a_join hJ false (by rw [hitQ, hu]; rfl) (by repeat (first | exact K.Sub.nil _ | refine K.Sub.cons rfl ?_)) rfl rfl
   | true =>
    rcases hk with hk | hk
    ·by_cases hs : (j : Int) = o.slot
     ·refine X.draw ([blk B3 61 (cO o (.slice ao4 o.data.length ca4)), blk B2 50 (cP p (.slice ao p.cells.length ca))]) [] (.pu 0 (.pu 2 (.st 1 (.st 3 (.pu 4 (.st 5 (.pu 6 (.pu 7 (.st 8 (.pu 9 (.pu 10 (.pu 11 (.pu 12 (.st 13 (.pu 14 (.pu 15 (.pu 16 (.pu 17 (.st 18 (.pu 19 (.pu 20 (.pu 21 (.pu 23 (.pu 28 (.st 22 (.st 24 (.pu 25 (.st 26 (.st 27 (.st 29 (.st 30 (.pu 31 (.pu 32 (.pu 33 (.pu 34 .nil))))))))))))))))))))))))))))))))))) ?_
      refine K.d_pu rfl (fun _ _ => X.fa) rfl ?_
      refine K.d_pu rfl (fun _ _ => X.mv) rfl ?_
      refine K.d_st rfl X.ld rfl ?_
      refine K.d_stE rfl (K.p_indexL hv (Fx.und rfl) (Fx.sz rfl) rfl rfl (by omega) hc0) rfl ?_
      rintro v2 ⟨b, o1, rfl, hcel⟩
      refine K.d_pu rfl (fun _ _ => X.fa) rfl ?_
      refine K.d_st rfl (K.p_load (Fx.agg rfl) rfl (Cels.up hcel).1) rfl ?_
      rw [hu]
      refine K.d_pu rfl (fun _ _ => X.mv) rfl ?_
      first | refine K.d_skip rfl rfl rfl rfl ?_ | refine K.d_skipU rfl rfl rfl rfl rfl ?_ | refine K.d_puG rfl rfl rfl (fun _ _ => X.fa) rfl ?_
      first | refine K.d_skipS rfl rfl rfl rfl ?_ | refine K.d_skipUS rfl rfl rfl rfl rfl ?_ | refine K.d_stG rfl rfl rfl X.ld rfl ?_
      first | refine K.d_skip rfl rfl rfl rfl ?_ | refine K.d_skipU rfl rfl rfl rfl rfl ?_ | refine K.d_puG rfl rfl rfl (fun _ _ => X.beql) rfl ?_
      rw [decide_eq_true hk]
      first | refine K.d_skip rfl rfl rfl rfl ?_ | refine K.d_skipU rfl rfl rfl rfl rfl ?_ | refine K.d_puG rfl rfl rfl (fun _ _ => X.mv) rfl ?_
      first | refine K.d_skip rfl rfl rfl rfl ?_ | refine K.d_skipU rfl rfl rfl rfl rfl ?_ | refine K.d_puG rfl rfl rfl (fun _ _ => X.mv) rfl ?_
      first | refine K.d_skip rfl rfl rfl rfl ?_ | refine K.d_skipU rfl rfl rfl rfl rfl ?_ | refine K.d_puG rfl rfl rfl (fun _ _ => X.fa) rfl ?_
      first | refine K.d_skipS rfl rfl rfl rfl ?_ | refine K.d_skipUS rfl rfl rfl rfl rfl ?_ | refine K.d_stG rfl rfl rfl X.ld rfl ?_
      first | refine K.d_skip rfl rfl rfl rfl ?_ | refine K.d_skipU rfl rfl rfl rfl rfl ?_ | refine K.d_puG rfl rfl rfl (fun _ _ => X.beql) rfl ?_
      rw [decide_eq_true hs]
      first | refine K.d_skip rfl rfl rfl rfl ?_ | refine K.d_skipU rfl rfl rfl rfl rfl ?_ | refine K.d_puG rfl rfl rfl (fun _ _ => X.pk) rfl ?_
      first | refine K.d_skip rfl rfl rfl rfl ?_ | refine K.d_skipU rfl rfl rfl rfl rfl ?_ | refine K.d_puG rfl rfl rfl (fun _ _ => X.mv) rfl ?_
      first | refine K.d_skip rfl rfl rfl rfl ?_ | refine K.d_skipU rfl rfl rfl rfl rfl ?_ | refine K.d_puG rfl rfl rfl (fun _ _ => X.fa) rfl ?_
      first | refine K.d_skipS rfl rfl rfl rfl ?_ | refine K.d_skipUS rfl rfl rfl rfl rfl ?_ | refine K.d_stG rfl rfl rfl X.ld rfl ?_
      first | refine K.d_skip rfl rfl rfl rfl ?_ | refine K.d_skipU rfl rfl rfl rfl rfl ?_ | refine K.d_puG rfl rfl rfl (fun _ _ => X.beql) rfl ?_
      first | refine K.d_skip rfl rfl rfl rfl ?_ | refine K.d_skipU rfl rfl rfl rfl rfl ?_ | refine K.d_puG rfl rfl rfl (fun _ _ => X.mv) rfl ?_
      first | refine K.d_skip rfl rfl rfl rfl ?_ | refine K.d_skipU rfl rfl rfl rfl rfl ?_ | refine K.d_puG rfl rfl rfl (fun _ _ => X.fa) rfl ?_
      first | refine K.d_skip rfl rfl rfl rfl ?_ | refine K.d_skipU rfl rfl rfl rfl rfl ?_ | refine K.d_puG rfl rfl rfl (fun _ _ => X.mv) rfl ?_
      first | refine K.d_skip rfl rfl rfl rfl ?_ | refine K.d_skipU rfl rfl rfl rfl rfl ?_ | refine K.d_puG rfl rfl rfl (fun _ _ => X.fa) rfl ?_
      first | refine K.d_skipS rfl rfl rfl rfl ?_ | refine K.d_skipUS rfl rfl rfl rfl rfl ?_ | refine K.d_stG rfl rfl rfl X.ld rfl ?_
      refine K.d_skipUS rfl rfl rfl rfl rfl ?_
      first | refine K.d_skip rfl rfl rfl rfl ?_ | refine K.d_skipU rfl rfl rfl rfl rfl ?_ | refine K.d_puG rfl rfl rfl (fun _ _ => X.fa) rfl ?_
      refine K.d_skipUS rfl rfl rfl rfl rfl ?_
      refine K.d_skipUS rfl rfl rfl rfl rfl ?_
      first | refine K.d_skipS rfl rfl rfl rfl ?_ | refine K.d_skipUS rfl rfl rfl rfl rfl ?_ | refine K.d_stG rfl rfl rfl X.ld rfl ?_
      refine K.d_skipUS rfl rfl rfl rfl rfl ?_
      first | refine K.d_skip rfl rfl rfl rfl ?_ | refine K.d_skipU rfl rfl rfl rfl rfl ?_ | refine K.d_puG rfl rfl rfl (fun _ _ => X.beql) rfl ?_
      first | refine K.d_skip rfl rfl rfl rfl ?_ | refine K.d_skipU rfl rfl rfl rfl rfl ?_ | refine K.d_puG rfl rfl rfl (fun _ _ => X.pk) rfl ?_
      first | refine K.d_skip rfl rfl rfl rfl ?_ | refine K.d_skipU rfl rfl rfl rfl rfl ?_ | refine K.d_puG rfl rfl rfl (fun _ _ => X.pk) rfl ?_
      refine K.d_pu rfl (fun _ _ => X.pk) rfl ?_
      refine K.d_nil ?_
      refine K.a_join hJ true (by rw [hitQ, hu, decide_eq_true (⟨hk, hs⟩ : p.kind = 1 ∧ (j : Int) = o.slot)]; rfl) (by repeat (first | exact K.Sub.nil _ | refine K.Sub.cons rfl ?_)) rfl rfl
     ·refine X.draw ([blk B3 61 (cO o (.slice ao4 o.data.length ca4)), blk B2 50 (cP p (.slice ao p.cells.length ca))]) [] (.pu 0 (.pu 2 (.st 1 (.st 3 (.pu 4 (.st 5 (.pu 6 (.pu 7 (.st 8 (.pu 9 (.pu 10 (.pu 11 (.pu 12 (.st 13 (.pu 14 (.pu 15 (.pu 16 (.pu 17 (.st 18 (.pu 19 (.pu 20 (.pu 21 (.pu 23 (.pu 28 (.st 22 (.st 24 (.pu 25 (.st 26 (.st 27 (.st 29 (.st 30 (.pu 31 (.pu 32 (.pu 33 (.pu 34 .nil))))))))))))))))))))))))))))))))))) ?_
      refine K.d_pu rfl (fun _ _ => X.fa) rfl ?_
      refine K.d_pu rfl (fun _ _ => X.mv) rfl ?_
      refine K.d_st rfl X.ld rfl ?_
      refine K.d_stE rfl (K.p_indexL hv (Fx.und rfl) (Fx.sz rfl) rfl rfl (by omega) hc0) rfl ?_
      rintro v2 ⟨b, o1, rfl, hcel⟩
      refine K.d_pu rfl (fun _ _ => X.fa) rfl ?_
      refine K.d_st rfl (K.p_load (Fx.agg rfl) rfl (Cels.up hcel).1) rfl ?_
      rw [hu]
      refine K.d_pu rfl (fun _ _ => X.mv) rfl ?_
      first | refine K.d_skip rfl rfl rfl rfl ?_ | refine K.d_skipU rfl rfl rfl rfl rfl ?_ | refine K.d_puG rfl rfl rfl (fun _ _ => X.fa) rfl ?_
      first | refine K.d_skipS rfl rfl rfl rfl ?_ | refine K.d_skipUS rfl rfl rfl rfl rfl ?_ | refine K.d_stG rfl rfl rfl X.ld rfl ?_
      first | refine K.d_skip rfl rfl rfl rfl ?_ | refine K.d_skipU rfl rfl rfl rfl rfl ?_ | refine K.d_puG rfl rfl rfl (fun _ _ => X.beql) rfl ?_
      rw [decide_eq_true hk]
      first | refine K.d_skip rfl rfl rfl rfl ?_ | refine K.d_skipU rfl rfl rfl rfl rfl ?_ | refine K.d_puG rfl rfl rfl (fun _ _ => X.mv) rfl ?_
      first | refine K.d_skip rfl rfl rfl rfl ?_ | refine K.d_skipU rfl rfl rfl rfl rfl ?_ | refine K.d_puG rfl rfl rfl (fun _ _ => X.mv) rfl ?_
      first | refine K.d_skip rfl rfl rfl rfl ?_ | refine K.d_skipU rfl rfl rfl rfl rfl ?_ | refine K.d_puG rfl rfl rfl (fun _ _ => X.fa) rfl ?_
      first | refine K.d_skipS rfl rfl rfl rfl ?_ | refine K.d_skipUS rfl rfl rfl rfl rfl ?_ | refine K.d_stG rfl rfl rfl X.ld rfl ?_
      first | refine K.d_skip rfl rfl rfl rfl ?_ | refine K.d_skipU rfl rfl rfl rfl rfl ?_ | refine K.d_puG rfl rfl rfl (fun _ _ => X.beql) rfl ?_
      rw [decide_eq_false hs]
      first | refine K.d_skip rfl rfl rfl rfl ?_ | refine K.d_skipU rfl rfl rfl rfl rfl ?_ | refine K.d_puG rfl rfl rfl (fun _ _ => X.pk) rfl ?_
      first | refine K.d_skip rfl rfl rfl rfl ?_ | refine K.d_skipU rfl rfl rfl rfl rfl ?_ | refine K.d_puG rfl rfl rfl (fun _ _ => X.mv) rfl ?_
      first | refine K.d_skip rfl rfl rfl rfl ?_ | refine K.d_skipU rfl rfl rfl rfl rfl ?_ | refine K.d_puG rfl rfl rfl (fun _ _ => X.fa) rfl ?_
      first | refine K.d_skipS rfl rfl rfl rfl ?_ | refine K.d_skipUS rfl rfl rfl rfl rfl ?_ | refine K.d_stG rfl rfl rfl X.ld rfl ?_
      first | refine K.d_skip rfl rfl rfl rfl ?_ | refine K.d_skipU rfl rfl rfl rfl rfl ?_ | refine K.d_puG rfl rfl rfl (fun _ _ => X.beql) rfl ?_
      rw [decide_eq_false (show ¬ p.kind = 2 by omega)]
      first | refine K.d_skip rfl rfl rfl rfl ?_ | refine K.d_skipU rfl rfl rfl rfl rfl ?_ | refine K.d_puG rfl rfl rfl (fun _ _ => X.mv) rfl ?_
      first | refine K.d_skip rfl rfl rfl rfl ?_ | refine K.d_skipU rfl rfl rfl rfl rfl ?_ | refine K.d_puG rfl rfl rfl (fun _ _ => X.fa) rfl ?_
      first | refine K.d_skip rfl rfl rfl rfl ?_ | refine K.d_skipU rfl rfl rfl rfl rfl ?_ | refine K.d_puG rfl rfl rfl (fun _ _ => X.mv) rfl ?_
      first | refine K.d_skip rfl rfl rfl rfl ?_ | refine K.d_skipU rfl rfl rfl rfl rfl ?_ | refine K.d_puG rfl rfl rfl (fun _ _ => X.fa) rfl ?_
      first | refine K.d_skipS rfl rfl rfl rfl ?_ | refine K.d_skipUS rfl rfl rfl rfl rfl ?_ | refine K.d_stG rfl rfl rfl X.ld rfl ?_
      refine K.d_skipS rfl rfl rfl rfl ?_
      first | refine K.d_skip rfl rfl rfl rfl ?_ | refine K.d_skipU rfl rfl rfl rfl rfl ?_ | refine K.d_puG rfl rfl rfl (fun _ _ => X.fa) rfl ?_
      refine K.d_skipS rfl rfl rfl rfl ?_
      refine K.d_skipS rfl rfl rfl rfl ?_
      first | refine K.d_skipS rfl rfl rfl rfl ?_ | refine K.d_skipUS rfl rfl rfl rfl rfl ?_ | refine K.d_stG rfl rfl rfl X.ld rfl ?_
      refine K.d_skipS rfl rfl rfl rfl ?_
      first | refine K.d_skip rfl rfl rfl rfl ?_ | refine K.d_skipU rfl rfl rfl rfl rfl ?_ | refine K.d_puG rfl rfl rfl (fun _ _ => X.beql) rfl ?_
      first | refine K.d_skip rfl rfl rfl rfl ?_ | refine K.d_skipU rfl rfl rfl rfl rfl ?_ | refine K.d_puG rfl rfl rfl (fun _ _ => X.pk) rfl ?_
      first | refine K.d_skip rfl rfl rfl rfl ?_ | refine K.d_skipU rfl rfl rfl rfl rfl ?_ | refine K.d_puG rfl rfl rfl (fun _ _ => X.pk) rfl ?_
      refine K.d_pu rfl (fun _ _ => X.pk) rfl ?_
      refine K.d_nil ?_
      refine K.a_join hJ false (by rw [hitQ, hu, decide_eq_false (fun e => hs e.2), decide_eq_false (fun e => by omega)]; rfl) (by repeat (first | exact K.Sub.nil _ | refine K.Sub.cons rfl ?_)) rfl rfl
    ·refine X.draw ([blk B3 61 (cO o (.slice ao4 o.data.length ca4)), blk B2 50 (cP p (.slice ao p.cells.length ca))]) [] (.pu 0 (.pu 2 (.st 1 (.st 3 (.pu 4 (.st 5 (.pu 6 (.pu 7 (.st 8 (.pu 9 (.pu 10 (.pu 11 (.pu 12 (.st 13 (.pu 14 (.pu 15 (.pu 16 (.pu 17 (.st 18 (.pu 19 (.pu 20 (.pu 21 (.pu 23 (.pu 28 (.st 22 (.st 24 (.pu 25 (.st 26 (.st 27 (.st 29 (.st 30 (.pu 31 (.pu 32 (.pu 33 (.pu 34 .nil))))))))))))))))))))))))))))))))))) ?_
     refine K.d_pu rfl (fun _ _ => X.fa) rfl ?_
     refine K.d_pu rfl (fun _ _ => X.mv) rfl ?_
     refine K.d_st rfl X.ld rfl ?_
     refine K.d_stE rfl (K.p_indexL hv (Fx.und rfl) (Fx.sz rfl) rfl rfl (by omega) hc0) rfl ?_
     rintro v2 ⟨b, o1, rfl, hcel⟩
     refine K.d_pu rfl (fun _ _ => X.fa) rfl ?_
     refine K.d_st rfl (K.p_load (Fx.agg rfl) rfl (Cels.up hcel).1) rfl ?_
     rw [hu]
     refine K.d_pu rfl (fun _ _ => X.mv) rfl ?_
     first | refine K.d_skip rfl rfl rfl rfl ?_ | refine K.d_skipU rfl rfl rfl rfl rfl ?_ | refine K.d_puG rfl rfl rfl (fun _ _ => X.fa) rfl ?_
     first | refine K.d_skipS rfl rfl rfl rfl ?_ | refine K.d_skipUS rfl rfl rfl rfl rfl ?_ | refine K.d_stG rfl rfl rfl X.ld rfl ?_
     first | refine K.d_skip rfl rfl rfl rfl ?_ | refine K.d_skipU rfl rfl rfl rfl rfl ?_ | refine K.d_puG rfl rfl rfl (fun _ _ => X.beql) rfl ?_
     rw [decide_eq_false (show ¬ p.kind = 1 by omega)]
     first | refine K.d_skip rfl rfl rfl rfl ?_ | refine K.d_skipU rfl rfl rfl rfl rfl ?_ | refine K.d_puG rfl rfl rfl (fun _ _ => X.mv) rfl ?_
     first | refine K.d_skip rfl rfl rfl rfl ?_ | refine K.d_skipU rfl rfl rfl rfl rfl ?_ | refine K.d_puG rfl rfl rfl (fun _ _ => X.mv) rfl ?_
     first | refine K.d_skip rfl rfl rfl rfl ?_ | refine K.d_skipU rfl rfl rfl rfl rfl ?_ | refine K.d_puG rfl rfl rfl (fun _ _ => X.fa) rfl ?_
     first | refine K.d_skipS rfl rfl rfl rfl ?_ | refine K.d_skipUS rfl rfl rfl rfl rfl ?_ | refine K.d_stG rfl rfl rfl X.ld rfl ?_
     first | refine K.d_skip rfl rfl rfl rfl ?_ | refine K.d_skipU rfl rfl rfl rfl rfl ?_ | refine K.d_puG rfl rfl rfl (fun _ _ => X.beql) rfl ?_
     first | refine K.d_skip rfl rfl rfl rfl ?_ | refine K.d_skipU rfl rfl rfl rfl rfl ?_ | refine K.d_puG rfl rfl rfl (fun _ _ => X.pk) rfl ?_
     first | refine K.d_skip rfl rfl rfl rfl ?_ | refine K.d_skipU rfl rfl rfl rfl rfl ?_ | refine K.d_puG rfl rfl rfl (fun _ _ => X.mv) rfl ?_
     first | refine K.d_skip rfl rfl rfl rfl ?_ | refine K.d_skipU rfl rfl rfl rfl rfl ?_ | refine K.d_puG rfl rfl rfl (fun _ _ => X.fa) rfl ?_
     first | refine K.d_skipS rfl rfl rfl rfl ?_ | refine K.d_skipUS rfl rfl rfl rfl rfl ?_ | refine K.d_stG rfl rfl rfl X.ld rfl ?_
     first | refine K.d_skip rfl rfl rfl rfl ?_ | refine K.d_skipU rfl rfl rfl rfl rfl ?_ | refine K.d_puG rfl rfl rfl (fun _ _ => X.beql) rfl ?_
     rw [decide_eq_true hk]
     first | refine K.d_skip rfl rfl rfl rfl ?_ | refine K.d_skipU rfl rfl rfl rfl rfl ?_ | refine K.d_puG rfl rfl rfl (fun _ _ => X.mv) rfl ?_
     first | refine K.d_skip rfl rfl rfl rfl ?_ | refine K.d_skipU rfl rfl rfl rfl rfl ?_ | refine K.d_puG rfl rfl rfl (fun _ _ => X.fa) rfl ?_
     first | refine K.d_skip rfl rfl rfl rfl ?_ | refine K.d_skipU rfl rfl rfl rfl rfl ?_ | refine K.d_puG rfl rfl rfl (fun _ _ => X.mv) rfl ?_
     first | refine K.d_skip rfl rfl rfl rfl ?_ | refine K.d_skipU rfl rfl rfl rfl rfl ?_ | refine K.d_puG rfl rfl rfl (fun _ _ => X.fa) rfl ?_
     first | refine K.d_skipS rfl rfl rfl rfl ?_ | refine K.d_skipUS rfl rfl rfl rfl rfl ?_ | refine K.d_stG rfl rfl rfl X.ld rfl ?_
     refine K.d_stGE rfl rfl rfl (K.p_indexL hv (Fx.und rfl) (Fx.sz rfl) rfl rfl (by omega) hc0) rfl ?_
     rintro v3 ⟨b3, o3, rfl, hcel3⟩
     first | refine K.d_skip rfl rfl rfl rfl ?_ | refine K.d_skipU rfl rfl rfl rfl rfl ?_ | refine K.d_puG rfl rfl rfl (fun _ _ => X.fa) rfl ?_
     refine K.d_stG rfl rfl rfl (K.p_load (Fx.agg rfl) rfl (Cels.up hcel3).2.2.1) rfl ?_
     refine K.d_stG rfl rfl rfl (K.p_textB hbv (Fx.und rfl) (Fx.und rfl) (Fx.und rfl) rfl) rfl ?_
     first | refine K.d_skipS rfl rfl rfl rfl ?_ | refine K.d_skipUS rfl rfl rfl rfl rfl ?_ | refine K.d_stG rfl rfl rfl X.ld rfl ?_
     refine K.d_stG rfl rfl rfl (K.p_textB hbo (Fx.und rfl) (Fx.und rfl) (Fx.und rfl) rfl) rfl ?_
     first | refine K.d_skip rfl rfl rfl rfl ?_ | refine K.d_skipU rfl rfl rfl rfl rfl ?_ | refine K.d_puG rfl rfl rfl (fun _ _ => X.beql) rfl ?_
     rw [text_eq]
     first | refine K.d_skip rfl rfl rfl rfl ?_ | refine K.d_skipU rfl rfl rfl rfl rfl ?_ | refine K.d_puG rfl rfl rfl (fun _ _ => X.pk) rfl ?_
     first | refine K.d_skip rfl rfl rfl rfl ?_ | refine K.d_skipU rfl rfl rfl rfl rfl ?_ | refine K.d_puG rfl rfl rfl (fun _ _ => X.pk) rfl ?_
     refine K.d_pu rfl (fun _ _ => X.pk) rfl ?_
     refine K.d_nil ?_
     by_cases hd : x.data = o.data
     ·rw [decide_eq_true hd]
      refine K.a_join hJ true (by rw [hitQ, hu, decide_eq_true (⟨hk, hd⟩ : p.kind = 2 ∧ x.data = o.data), Bool.or_true]; rfl) (by repeat (first | exact K.Sub.nil _ | refine K.Sub.cons rfl ?_)) rfl rfl
     ·rw [decide_eq_false hd]
      refine K.a_join hJ false (by rw [hitQ, hu, decide_eq_false (fun e => by omega), decide_eq_false (fun e => hd e.2)]; rfl) (by repeat (first | exact K.Sub.nil _ | refine K.Sub.cons rfl ?_)) rfl rfl
  ·cases t with
   | true =>
    rw [hh ht.symm]
    (repeat' (first | refine X.rq ?_ | (refine X.rc ?_ ?_ <;> intro hc <;> first | (exfalso; omega) | skip)))
    refine K.AT.sel [0, 0] rfl ?_
    refine K.done (by first | exact Or.inl rfl | exact Or.inr rfl) rfl (by first | exact K.Base.le.refl _ | assumption) (H' := []) rfl ⟨rfl, rfl, rfl⟩
   | false =>
    (repeat' (first | refine X.rq ?_ | (refine X.rc ?_ ?_ <;> intro hc <;> first | (exfalso; omega) | skip)))
    refine K.a_round hKL (j + 1) ⟨by omega, go ht.symm⟩ (by repeat (first | exact K.Sub.nil _ | refine K.Sub.cons rfl ?_)) rfl rfl (by omega)
 ·obtain rfl : j = p.cells.length := by omega
  rw [hit_no hm hk hno]
  (repeat' (first | refine X.rq ?_ | (refine X.rc ?_ ?_ <;> intro hc <;> first | (exfalso; omega) | skip)))
  refine K.AT.sel [0, 0] rfl ?_
  refine K.done (by first | exact Or.inl rfl | exact Or.inr rfl) rfl (by first | exact K.Base.le.refl _ | assumption) (H' := []) rfl ⟨rfl, rfl, rfl⟩
end Go.Proofs.YtkdngpiiecmpgaaGreat.Pg
