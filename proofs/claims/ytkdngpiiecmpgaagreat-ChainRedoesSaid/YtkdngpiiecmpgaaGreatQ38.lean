/-
 The document's operations: a cell put. Conditions: each theorem's own.
-/
import Derived.Test.YtkdngpiiecmpgaaGreatQ37
namespace Go.Proofs.YtkdngpiiecmpgaaGreat.Pg
open Go Go.K Go.Proofs Go.Proofs.YtkdngpiiecmpgaaGreat
set_option linter.unusedVariables false
set_option linter.unusedSimpArgs false
set_option maxRecDepth 10000

def NewR (r : Pag × Int) (v : Value) (h' : Base) (H' : List Asrt) : Prop := ∃ a cap es, v = .tuple #[.agg (cP r.1 (bufV a r.1.cells.length cap)).toArray, .int .i64 r.2] ∧ RowC h' es r.1.cells ∧ H' = [bufA 55 3 a r.1.cells.length cap es.flatten]
theorem RowC.set {h : Base} {es : List (List Value)} {l : List PCell} {c : List Value} {x : PCell} (i : Nat) (hr : RowC h es l) (hc : CellC h c x) : RowC h (es.set i c) (l.set i x) := by
 obtain ⟨h1, h2, h3⟩ := hr
 refine ⟨by simp [h1], fun e he => ?_, fun j c' x' hj hx => ?_⟩
 ·rcases List.mem_or_eq_of_mem_set he with he | he
  ·exact h2 e he
  ·rw [he]; exact hc.three
 ·rw [List.getElem?_set] at hj hx
  split at hj
  ·rename_i e
   rw [if_pos e] at hx
   split at hj
   ·split at hx
    ·cases hj; cases hx; exact hc
    ·cases hx
   ·cases hj
  ·rename_i e
   rw [if_neg e] at hx
   exact h3 j c' x' hj hx
theorem RowC.ones {h : Base} {es : List (List Value)} {l : List PCell} (hr : RowC h es l) : ∀ e ∈ es, K.ones e = true := fun e he => by
 obtain ⟨j, hj, rfl⟩ := List.getElem_of_mem he
 have hx : l[j]? = some (l[j]'(by rw [← hr.1]; exact hj)) := List.getElem?_eq_getElem _
 exact (hr.2.2 j _ _ (List.getElem?_eq_getElem hj) hx).ones
theorem page_of_says {h : Base} {a : Option Nat} {cap : Nat} {es : List (List Value)} {p : Pag} (hw : wfP p) (hr : RowC h es p.cells) (hs : Says h [bufA 55 3 a p.cells.length cap es.flatten]) : PagC h (cP p (bufV a p.cells.length cap)) p := by
 have h1 := K.says_sl (T := 55) (a := a) (cap := cap) (es := es) hr.2.1 (by rw [hr.1]; exact hs)
 rw [hr.1] at h1
 exact page_of_row hw h1 hr
theorem gtr_text (a b : List UInt8) : (!(Op.bytesLess (⟨a.toArray⟩ : ByteArray).toList (⟨b.toArray⟩ : ByteArray).toList || decide ((⟨a.toArray⟩ : ByteArray) = ⟨b.toArray⟩))) = decide (0 < Lib.compareBytes a b) := by
 rw [text_eq]
 have e : ∀ a : List UInt8, (⟨a.toArray⟩ : ByteArray).toList = a := fun a => by simp [ByteArray.toList_eq]
 rw [e, e, K.less_iff]
 rcases K.cmp_cases a b with h | h | h
 ·rw [h]; simp
 ·have := K.cmp_zero h
  rw [h]; simp [this]
 ·have hne : a ≠ b := fun e => by rw [e, K.cmp_refl] at h; omega
  rw [h]; simp [hne]
def curQ (l : List PCell) (k : Nat) (c : PCell) (j : Nat) : List PCell := if k < j then l.take k ++ c :: (l.take j).drop k else l.take j
theorem cur_step {l : List PCell} {k j : Nat} {c x : PCell} (hx : l[j]? = some x) : curQ l k c (j + 1) = if j = k then curQ l k c j ++ [c] ++ [x] else curQ l k c j ++ [x] := by
 have hlt := (List.getElem?_eq_some_iff.1 hx).1
 have e : l.take (j + 1) = l.take j ++ [x] := by rw [List.take_add_one, hx]; rfl
 unfold curQ
 by_cases h : j = k
 ·subst h
  rw [if_pos (by omega), if_pos rfl, if_neg (by omega), e, List.drop_append_of_le_length (by rw [List.length_take]; omega), List.drop_of_length_le (by rw [List.length_take]; omega)]
  simp
 ·rw [if_neg h]
  by_cases h2 : k < j
  ·rw [if_pos (by omega), if_pos h2, e, List.drop_append_of_le_length (by rw [List.length_take]; omega)]
   simp
  ·rw [if_neg (by omega), if_neg h2, e]
theorem doQ_put {p : Pag} {o : POp} {i : Nat} (hm : mayQ p = true) (hr : rightP p.kind o) (hk : o.kind = 1) (hw : whereQ p o = ((i : Int), false)) (hi : i ≤ p.cells.length) :
  doQ p o = if (putC p.kind p.cells i o.data).length ≤ 60 ∧ sizeQ (putC p.kind p.cells i o.data) ≤ 512 then ({ p with cells := putC p.kind p.cells i o.data }, 0) else (zP, 4) := by
 have hd : 1 ≤ o.data.length ∧ o.data.length ≤ 180 := hr.2.2.2.2.2 (by omega)
 rw [do_put hm hr hw hi hk, putQ, put_fits hm hi hd ((sizeS (putC p.kind p.cells i o.data)) - sizeS p.cells) (by
  unfold putC
  split
  ·rw [sizeS_ins]; omega
  ·rename_i hne
   have hx : p.cells[i]? = some (p.cells[i]'(by omega)) := List.getElem?_eq_getElem (by omega)
   have h1 := sizeS_set ⟨true, 0, o.data⟩ hx
   have h2 : sizeC (p.cells[i]'(by omega)) ≤ sizeC ⟨true, 0, o.data⟩ := by
    have hu : (p.cells[i]'(by omega)).used = false := by
     have hk1 : p.kind = 1 := by have := hr.1; omega
     obtain ⟨w1, w2⟩ := (where_kind hw).1 hk1
     rw [w1, used_some hx] at w2; exact w2
    have h3 : sizeC (p.cells[i]'(by omega)) = 2 := by rw [sizeC, hu]; rfl
    have := sizeC_pos ⟨true, 0, o.data⟩
    omega
   omega)]
 have e : sizeQ p.cells + (sizeS (putC p.kind p.cells i o.data) - sizeS p.cells) = sizeQ (putC p.kind p.cells i o.data) := by
  have : sizeS p.cells ≤ sizeS (putC p.kind p.cells i o.data) := by
   unfold putC
   split
   ·rw [sizeS_ins]; omega
   ·have hx : p.cells[i]? = some (p.cells[i]'(by omega)) := List.getElem?_eq_getElem (by omega)
    have h1 := sizeS_set ⟨true, 0, o.data⟩ hx
    have hu : (p.cells[i]'(by omega)).used = false := by
     have hk1 : p.kind = 1 := by have := hr.1; omega
     obtain ⟨w1, w2⟩ := (where_kind hw).1 hk1
     rw [w1, used_some hx] at w2; exact w2
    have h3 : sizeC (p.cells[i]'(by omega)) = 2 := by rw [sizeC, hu]; rfl
    have := sizeC_pos ⟨true, 0, o.data⟩
    omega
  unfold sizeQ; omega
 rw [e]
 by_cases h : (putC p.kind p.cells i o.data).length ≤ 60 ∧ sizeQ (putC p.kind p.cells i o.data) ≤ 512
 ·rw [decide_eq_true h, if_pos rfl, if_pos h]
 ·rw [decide_eq_false h, if_neg (by decide), if_neg h]
set_option maxHeartbeats 4000000 in
theorem RPut (h : Base) (a : Option Nat) (cap : Nat) (es : List (List Value)) (ds : List Value) (p : Pag) (o : POp) (hw : wfP p) (hm : mayQ p = true) (hr : rightP p.kind o) (hko : o.kind = 1) (hno : (whereQ p o).2 = false) (hrow : RowC h es p.cells) (ho : OpC h ds o) :
  Tr Tryz.prog 75 [.agg (cP p (bufV a p.cells.length cap)).toArray, .agg ds.toArray] h [bufA 55 3 a p.cells.length cap es.flatten] (fun v h' H' => h.le h' ∧ NewR (doQ p o) v h' H') := by
 obtain ⟨hwo, ao4, ca4, rfl, hbo⟩ := ho
 have h60 := ((mayQ_iff p).1 hm).2.1
 have hd180 : 1 ≤ o.data.length ∧ o.data.length ≤ 180 := hr.2.2.2.2.2 (by omega)
 have hel := hrow.1
 refine K.enter Tryz.func75 rfl (Nat.le_of_ble_eq_true rfl) (fun F => ?_)
 simp only [List.cons_append, List.nil_append]
 (repeat' (first | refine X.rq ?_ | (refine X.rc ?_ ?_ <;> intro hc <;> first | (exfalso; omega) | skip)))
 refine K.l_box rfl rfl rfl (fun B2 => ?_)
 refine K.l_box rfl rfl rfl (fun B3 => ?_)
 refine K.l_alloc (Fx.zr rfl) rfl rfl (fun B4 => ?_)
 (repeat' (first | refine X.rq ?_ | (refine X.rc ?_ ?_ <;> intro hc <;> first | (exfalso; omega) | skip)))
 refine K.l_call (Fx.cal rfl) rfl (Copy h _ o.data hbo (by omega)) (K.pp [] rfl) rfl ?_
 rintro u h' H' - ⟨e, a5, cap5, rfl, rfl⟩
 obtain rfl := e.symm
 simp only [List.cons_append, List.nil_append]
 refine K.WL.freezeBuf (fun h1 le1 hbv1 => ?_)
 obtain ⟨ao5, ca5, e5⟩ : ∃ ao5 ca5, bufV a5 o.data.length cap5 = .slice ao5 o.data.length ca5 := ⟨_, _, rfl⟩
 rw [e5] at hbv1 ⊢
 have hc1 : CellC h1 [.bool true, .int .u32 0, .slice ao5 o.data.length ca5] ⟨true, 0, o.data⟩ := ⟨(by decide : (0 : Nat) < 4294967296), by show o.data.length ≤ _; omega, ao5, ca5, rfl, hbv1⟩
 have hrow := hrow.le le1
 have hbo := hbo.le le1
 (repeat' (first | refine X.rq ?_ | (refine X.rc ?_ ?_ <;> intro hc <;> first | (exfalso; omega) | skip)))
 refine K.l_alloc (Fx.zr rfl) rfl rfl (fun B6 => ?_)
 refine X.stw ?_
 simp only [List.set_cons_zero, List.set_cons_succ, List.eraseIdx_cons_zero, List.eraseIdx_cons_succ, List.cons_append, List.nil_append]
 (repeat' (first | refine X.rq ?_ | (refine X.rg ?_ ?_ <;> intro hc <;> first | (exfalso; omega) | skip)))
 by_cases hout : p.kind = 1 ∧ (o.slot < 0 ∨ (p.cells.length : Int) < o.slot)
 ·obtain ⟨hk, hsl⟩ := hout
  have hres : doQ p o = (zP, 2) := by
   have hw1 : (whereQ p o).1 = o.slot := by rw [whereQ, if_pos hk]
   rw [doQ_yes hm hr, hw1, doR, if_pos hko, if_pos (by omega)]
  rw [hres]
  clear hno
  by_cases hneg : o.slot < 0
  all_goals
   (repeat' (first | refine X.rq ?_ | (refine X.rc ?_ ?_ <;> intro hc <;> first | (exfalso; omega) | skip)))
   refine X.stw ?_
   simp only [List.set_cons_zero, List.set_cons_succ, List.eraseIdx_cons_zero, List.eraseIdx_cons_succ, List.cons_append, List.nil_append]
   (repeat' (first | refine X.rq ?_ | (refine X.rc ?_ ?_ <;> intro hc <;> first | (exfalso; omega) | skip)))
   refine K.AT.nilBuf 55 3 ?_
   refine K.AT.perm (K.pp [1, 1, 1, 1, 1, 0] rfl) ?_
   simp only [List.set_cons_zero, List.set_cons_succ, List.eraseIdx_cons_zero, List.eraseIdx_cons_succ, List.cons_append, List.nil_append]
   refine K.doneC (vs := [.agg (cP zP (bufV none 0 0)).toArray, .int .i64 2]) (by first | exact Or.inl rfl | exact Or.inr rfl) (.cell rfl (Fx.agg rfl) (Fx.sz rfl) (by first | exact K.cels_own (pre := []) (post := []) 0 rfl rfl | exact K.cels_own (pre := []) (post := []) 1 rfl rfl) (.tmp rfl .nil)) le1 (D := [_, _, _, _, _]) (H' := [bufA 55 3 none 0 0 []]) rfl ⟨le1, none, 0, [], rfl, ⟨rfl, fun e he => (by cases he), fun j c x hj => (by cases hj)⟩, rfl⟩
 ·obtain ⟨i, hw1, hi⟩ : ∃ i : Nat, whereQ p o = ((i : Int), false) ∧ i ≤ p.cells.length := by
   by_cases hk : p.kind = 1
   ·refine ⟨o.slot.toNat, ?_, by omega⟩
    refine Prod.ext ?_ hno
    have : (whereQ p o).1 = o.slot := by rw [whereQ, if_pos hk]
    rw [this]; omega
   ·refine ⟨posQ p.cells o.data, ?_, posQ_le _ _⟩
    refine Prod.ext ?_ hno
    rw [whereQ, if_neg hk]
  rw [doQ_put hm hr hko hw1 hi]
  have hlen61 := putC_len (kind := p.kind) (d := o.data) hi
  obtain ⟨np, hnp⟩ : ∃ np, np = putC p.kind p.cells i o.data := ⟨_, rfl⟩
  rw [← hnp] at hlen61 ⊢
  refine K.c_join (β := Option Nat × Nat × List (List Value) × Base) (fun _ => [(2, .pointer (some ⟨B2, 0, none⟩)), (3, .pointer (some ⟨B3, 0, none⟩)), (4, .pointer (some ⟨B4, 0, none⟩)), (5, .int .i64 0), (6, .pointer (some ⟨B6, 0, none⟩))]) (fun q => q.2.2.2)
   (fun q => blk B2 50 (cP p (bufV q.1 np.length q.2.1)) :: bufA 55 3 q.1 np.length q.2.1 q.2.2.1.flatten :: blk B6 55 [.bool true, .int .u32 0, .slice ao5 o.data.length ca5] :: blk B4 50 (cP zP (.slice none 0 0)) :: blk B3 61 (cO o (.slice ao4 o.data.length ca4)) :: F)
   (fun q => h1.le q.2.2.2 ∧ RowC q.2.2.2 q.2.2.1 np) (fun KJ hJ => ?_) (fun q hq => ?_)
  ·by_cases hk : p.kind = 1
   ·obtain ⟨w1, w2⟩ := (where_kind hw1).1 hk
    by_cases hil : i = p.cells.length
    ·have hnp : np = p.cells ++ [⟨true, 0, o.data⟩] := by rw [hnp, putC, if_pos (.inr hil), hil, List.take_length, List.drop_length]
     subst hnp
     (repeat' (first | refine X.rq ?_ | (refine X.rc ?_ ?_ <;> intro hc <;> first | (exfalso; omega) | skip)))
     refine K.l_buildSlice (Fx.und rfl) (Fx.sz rfl) rfl (Fx.zr rfl) rfl rfl rfl (cs := [.bool true, .int .u32 0, .slice ao5 o.data.length ca5]) rfl rfl (fun B7 => ?_)
     refine K.l_append_at 5 rfl (Fx.und rfl) (Fx.und rfl) rfl (Fx.sz rfl) (Fx.zr rfl) rfl (Fx.byt rfl) rfl rfl (K.src_cells (K.cels_own (pre := []) (cs := [.bool true, .int .u32 0, .slice ao5 o.data.length ca5]) (post := []) 0 rfl rfl) rfl (by simp [oneCell])) (by omega) (by omega) rfl (fun a7 cap7 => ?_)
     simp only [List.set_cons_zero, List.set_cons_succ, List.eraseIdx_cons_zero, List.eraseIdx_cons_succ, List.cons_append, List.nil_append]
     (repeat' (first | refine X.rq ?_ | (refine X.rc ?_ ?_ <;> intro hc <;> first | (exfalso; omega) | skip)))
     refine X.sto ?_
     simp only [List.set_cons_zero, List.set_cons_succ, List.eraseIdx_cons_zero, List.eraseIdx_cons_succ, List.cons_append, List.nil_append]
     (repeat' (first | refine X.rq ?_ | (refine X.rc ?_ ?_ <;> intro hc <;> first | (exfalso; omega) | skip)))
     refine K.AT.sel [0] rfl ?_
     refine K.AT.perm (K.pp [3, 3, 0, 0, 0] rfl) ?_
     simp only [List.set_cons_zero, List.set_cons_succ, List.eraseIdx_cons_zero, List.eraseIdx_cons_succ, List.cons_append, List.nil_append]
     refine K.a_join hJ (a7, cap7, es ++ [[.bool true, .int .u32 0, .slice ao5 o.data.length ca5]], h1) ⟨K.Base.le.refl _, hrow.snoc hc1⟩ (by repeat (first | exact K.Sub.nil _ | refine K.Sub.cons rfl ?_)) rfl ?_
     dsimp only
     rw [List.length_append, List.length_singleton, List.flatten_append]
     rfl
    ·have hnp : np = p.cells.set i ⟨true, 0, o.data⟩ := by rw [hnp, putC, if_neg (by omega)]
     have hnl : np.length = p.cells.length := by rw [hnp, List.length_set]
     refine K.WC.perm (K.pp [4] rfl) ?_
     simp only [List.set_cons_zero, List.set_cons_succ, List.eraseIdx_cons_zero, List.eraseIdx_cons_succ, List.cons_append, List.nil_append]
     refine K.oc_buf (fun e h0 _ _ => by omega) ?_
     rintro b sp fz rfl g2 g3 g4 g5 g6
     (repeat' (first | refine X.rq ?_ | (refine X.rc ?_ ?_ <;> intro hc <;> first | (exfalso; omega) | skip)))
     refine K.l_storeRow (s := 3) (i := i) (us := [.bool true, .int .u32 0, .slice ao5 o.data.length ca5]) (Fx.sz rfl) (by
      show some (Value.pointer (some ⟨b, 0 + (o.slot).toNat * 3, none⟩)) = _
      rw [w1, Nat.zero_add]; rfl) rfl rfl hrow.2.1 rfl (by omega) (fun o ho => g6 o (by
      have : p.cells.length * 3 ≤ cap * 3 := Nat.mul_le_mul_right _ g4
      omega)) ?_
     have hrow2 := hrow.set i hc1
     (repeat' (first | refine X.rq ?_ | (refine X.rc ?_ ?_ <;> intro hc <;> first | (exfalso; omega) | skip)))
     refine K.AT.shut (s := 3) (m := p.cells.length) (cap := cap) (by rw [K.flatten_len _ hrow2.2.1, List.length_set, hel]) (by rw [← g3, List.length_append, List.length_append, K.flatten_len _ hrow2.2.1, K.flatten_len _ hrow.2.1, List.length_set]) g4 g5 g6 ?_
     refine K.AT.perm (K.pp [4, 0, 0, 0, 0] rfl) ?_
     simp only [List.set_cons_zero, List.set_cons_succ, List.eraseIdx_cons_zero, List.eraseIdx_cons_succ, List.cons_append, List.nil_append]
     refine K.a_join hJ (some b, cap, es.set i [.bool true, .int .u32 0, .slice ao5 o.data.length ca5], h1) ⟨K.Base.le.refl _, by rw [hnp]; exact hrow2⟩ (by repeat (first | exact K.Sub.nil _ | refine K.Sub.cons rfl ?_)) rfl ?_
     dsimp only
     rw [hnl]
     rfl
   ·have hk2 : p.kind = 2 := by have := hr.1; omega
    obtain ⟨w1, w2⟩ := (where_kind hw1).2 hk
    have hnp : np = p.cells.take i ++ ⟨true, 0, o.data⟩ :: p.cells.drop i := by rw [hnp, putC, if_pos (.inl hk2)]
    have hs2 := ((may_leaf hk2).1 hm).2
    obtain ⟨A, B, e, hp, hA, hB⟩ := leaf_split (d := o.data) hs2.2
    rw [w1] at hp hB
    have hB : ∀ x ∈ B, 0 < Lib.compareBytes x.data o.data := by
     rcases hB with ⟨_, hB⟩ | ⟨c, B', _, _, hB, _⟩
     ·exact hB
     ·rw [w2] at hB; cases hB
    have hcmp : ∀ (j : Nat) x, p.cells[j]? = some x → decide (0 < Lib.compareBytes x.data o.data) = decide (i ≤ j) := fun j x hx => by
     rw [decide_eq_decide]
     rw [e] at hx
     by_cases hj : j < A.length
     ·rw [List.getElem?_append_left hj] at hx
      have := hA x (List.mem_of_getElem? hx)
      omega
     ·rw [List.getElem?_append_right (by omega)] at hx
      have := hB x (List.mem_of_getElem? hx)
      omega
    clear e hp hA w1 w2 hs2
    refine K.WC.perm (K.pp [4] rfl) ?_
    simp only [List.set_cons_zero, List.set_cons_succ, List.eraseIdx_cons_zero, List.eraseIdx_cons_succ, List.cons_append, List.nil_append]
    rw [← hel]
    refine K.WC.freezeRow (fun e he => hrow.2.1 e he) (fun h2 le2 hsl2 hcap2 => ?_)
    rw [hel] at hsl2 ⊢
    obtain ⟨ao, ca, e2⟩ : ∃ ao ca, bufV a p.cells.length cap = .slice ao p.cells.length ca := ⟨_, _, rfl⟩
    rw [e2] at hsl2 ⊢
    have hrow := hrow.le le2
    have hc2 := hc1.le le2
    have hbo := hbo.le le2
    refine K.c_condF (by show some (Value.bool (decide _)) = some (Value.bool false); rw [decide_eq_false hk]) ?_
    (repeat' (first | refine X.rq ?_ | (refine X.rc ?_ ?_ <;> intro hc <;> first | (exfalso; omega) | skip)))
    refine K.WC.nilBuf 55 3 ?_
    refine K.c_loop (σ := Nat × Option Nat × Nat × List (List Value)) (fun q => [(2, .pointer (some ⟨B2, 0, none⟩)), (3, .pointer (some ⟨B3, 0, none⟩)), (4, .pointer (some ⟨B4, 0, none⟩)), (5, .int .i64 0), (6, .pointer (some ⟨B6, 0, none⟩)), (7, bufV q.2.1 (curQ p.cells i ⟨true, 0, o.data⟩ q.1).length q.2.2.1), (8, .bool (decide (i < q.1))), (9, .int .i64 q.1)]) (fun _ => h2)
     (fun q => bufA 55 3 q.2.1 (curQ p.cells i ⟨true, 0, o.data⟩ q.1).length q.2.2.1 q.2.2.2.flatten :: blk B6 55 [.bool true, .int .u32 0, .slice ao5 o.data.length ca5] :: blk B4 50 (cP zP (.slice none 0 0)) :: blk B3 61 (cO o (.slice ao4 o.data.length ca4)) :: blk B2 50 (cP p (.slice ao p.cells.length ca)) :: F)
     (fun q => q.1 ≤ p.cells.length ∧ RowC h2 q.2.2.2 (curQ p.cells i ⟨true, 0, o.data⟩ q.1)) (fun q => p.cells.length - q.1) (0, none, 0, []) ⟨Nat.zero_le _, by rw [curQ, if_neg (by omega)]; exact ⟨rfl, fun e he => (by cases he), fun j c x hj => (by cases hj)⟩⟩ (by rw [curQ, if_neg (by omega)]; exact (by repeat (first | exact K.Sub.nil _ | refine K.Sub.cons rfl ?_))) rfl (by rw [curQ, if_neg (by omega)]; rfl) ?_
    rintro ⟨j, a8, cap8, fs⟩ ⟨hj, hfs⟩ KL hKL
    dsimp only at hj hfs ⊢
    have hcl : (curQ p.cells i ⟨true, 0, o.data⟩ j).length ≤ 62 := by
     unfold curQ
     split <;> simp <;> omega
    by_cases hjl : j < p.cells.length
    ·have hcj1 : es[j]? = some (es[j]'(by omega)) := List.getElem?_eq_getElem (by omega)
     have hcj0 : es[((j : Nat) : Int).toNat]? = some (es[j]'(by omega)) := by rw [Int.toNat_natCast]; exact hcj1
     have he1 : p.cells[j]? = some p.cells[j] := List.getElem?_eq_getElem hjl
     have hst := cur_step (k := i) (c := ⟨true, 0, o.data⟩) he1
     generalize es[j]'(by omega) = c at hcj0 hcj1
     generalize p.cells[j] = x at he1 hst
     have hcm := hcmp j x he1
     obtain ⟨hkl, hdl, ao9, ca9, rfl, hbv⟩ := hrow.2.2 j c x hcj1 he1
     have hcx : CellC h2 [.bool x.used, .int .u32 x.killer, .slice ao9 x.data.length ca9] x := ⟨hkl, hdl, ao9, ca9, rfl, hbv⟩
     by_cases hij : i < j
     ·rw [decide_eq_true hij]
      rw [if_neg (by omega)] at hst
      (repeat' (first | refine X.rq ?_ | (refine X.rc ?_ ?_ <;> intro hc <;> first | (exfalso; omega) | skip)))
      refine X.draw ([blk B6 55 [.bool true, .int .u32 0, .slice ao5 o.data.length ca5], blk B3 61 (cO o (.slice ao4 o.data.length ca4)), blk B2 50 (cP p (.slice ao p.cells.length ca))]) [] (.pu 0 (.pu 1 (.pu 2 (.pu 3 (.pu 5 (.pu 10 (.st 4 (.st 6 (.pu 7 (.st 8 (.st 9 (.st 11 (.st 12 (.pu 13 (.pu 14 .nil))))))))))))))) ?_
      refine K.d_pu rfl (fun _ _ => X.mv) rfl ?_
      refine K.d_pu rfl (fun _ _ => X.nt) rfl ?_
      refine K.d_pu rfl (fun _ _ => X.mv) rfl ?_
      first | refine K.d_skip rfl rfl rfl rfl ?_ | refine K.d_skipU rfl rfl rfl rfl rfl ?_ | refine K.d_puG rfl rfl rfl (fun _ _ => X.fa) rfl ?_
      first | refine K.d_skip rfl rfl rfl rfl ?_ | refine K.d_skipU rfl rfl rfl rfl rfl ?_ | refine K.d_puG rfl rfl rfl (fun _ _ => X.mv) rfl ?_
      first | refine K.d_skip rfl rfl rfl rfl ?_ | refine K.d_skipU rfl rfl rfl rfl rfl ?_ | refine K.d_puG rfl rfl rfl (fun _ _ => X.fa) rfl ?_
      first | refine K.d_skipS rfl rfl rfl rfl ?_ | refine K.d_skipUS rfl rfl rfl rfl rfl ?_ | refine K.d_stG rfl rfl rfl X.ld rfl ?_
      refine K.d_skipS rfl rfl rfl rfl ?_
      first | refine K.d_skip rfl rfl rfl rfl ?_ | refine K.d_skipU rfl rfl rfl rfl rfl ?_ | refine K.d_puG rfl rfl rfl (fun _ _ => X.fa) rfl ?_
      refine K.d_skipS rfl rfl rfl rfl ?_
      refine K.d_skipS rfl rfl rfl rfl ?_
      first | refine K.d_skipS rfl rfl rfl rfl ?_ | refine K.d_skipUS rfl rfl rfl rfl rfl ?_ | refine K.d_stG rfl rfl rfl X.ld rfl ?_
      refine K.d_skipS rfl rfl rfl rfl ?_
      first | refine K.d_skip rfl rfl rfl rfl ?_ | refine K.d_skipU rfl rfl rfl rfl rfl ?_ | refine K.d_puG rfl rfl rfl (fun _ _ => X.bgtr) rfl ?_
      refine K.d_pu rfl (fun _ _ => X.pk) rfl ?_
      refine K.d_nil ?_
      (repeat' (first | refine X.rq ?_ | (refine X.rc ?_ ?_ <;> intro hc <;> first | (exfalso; omega) | skip)))
      refine K.s_pureE (K.p_indexL hsl2 (Fx.und rfl) (Fx.sz rfl) rfl rfl (by omega) hcj0) rfl ?_
      rintro v3 ⟨b3, o3, rfl, hcel3⟩
      refine K.s_pure (K.p_loadM (Fx.agg rfl) rfl (Cels.up hcel3) (Fx.sz rfl) rfl) rfl ?_
      refine K.l_buildSlice (Fx.und rfl) (Fx.sz rfl) rfl (Fx.zr rfl) rfl rfl rfl (cs := [.bool x.used, .int .u32 x.killer, .slice ao9 x.data.length ca9]) rfl rfl (fun B7 => ?_)
      refine K.l_append_at 1 rfl (Fx.und rfl) (Fx.und rfl) rfl (Fx.sz rfl) (Fx.zr rfl) rfl (Fx.byt rfl) rfl rfl (K.src_cells (K.cels_own (pre := []) (cs := [.bool x.used, .int .u32 x.killer, .slice ao9 x.data.length ca9]) (post := []) 0 rfl rfl) rfl (by simp [oneCell])) (by omega) (by omega) rfl (fun a9 cap9 => ?_)
      simp only [List.set_cons_zero, List.set_cons_succ, List.eraseIdx_cons_zero, List.eraseIdx_cons_succ, List.cons_append, List.nil_append]
      (repeat' (first | refine X.rq ?_ | (refine X.rc ?_ ?_ <;> intro hc <;> first | (exfalso; omega) | skip)))
      refine K.AT.sel [0] rfl ?_
      refine K.a_round hKL (j + 1, a9, cap9, fs ++ [[.bool x.used, .int .u32 x.killer, .slice ao9 x.data.length ca9]]) ⟨by dsimp only; omega, by dsimp only; rw [hst]; exact hfs.snoc hcx⟩ ?_ rfl ?_ (by dsimp only; omega)
      ·dsimp only
       rw [hst, decide_eq_true (show i < j + 1 by omega), List.length_append, List.length_singleton]
       exact (by repeat (first | exact K.Sub.nil _ | refine K.Sub.cons rfl ?_))
      ·dsimp only
       rw [hst, List.length_append, List.length_singleton, List.flatten_append]
       rfl
     ·rw [decide_eq_false hij]
      (repeat' (first | refine X.rq ?_ | (refine X.rc ?_ ?_ <;> intro hc <;> first | (exfalso; omega) | skip)))
      refine X.draw ([blk B6 55 [.bool true, .int .u32 0, .slice ao5 o.data.length ca5], blk B3 61 (cO o (.slice ao4 o.data.length ca4)), blk B2 50 (cP p (.slice ao p.cells.length ca))]) [] (.pu 0 (.pu 1 (.pu 2 (.pu 3 (.pu 5 (.pu 10 (.st 4 (.st 6 (.pu 7 (.st 8 (.st 9 (.st 11 (.st 12 (.pu 13 (.pu 14 .nil))))))))))))))) ?_
      refine K.d_pu rfl (fun _ _ => X.mv) rfl ?_
      refine K.d_pu rfl (fun _ _ => X.nt) rfl ?_
      refine K.d_pu rfl (fun _ _ => X.mv) rfl ?_
      first | refine K.d_skip rfl rfl rfl rfl ?_ | refine K.d_skipU rfl rfl rfl rfl rfl ?_ | refine K.d_puG rfl rfl rfl (fun _ _ => X.fa) rfl ?_
      first | refine K.d_skip rfl rfl rfl rfl ?_ | refine K.d_skipU rfl rfl rfl rfl rfl ?_ | refine K.d_puG rfl rfl rfl (fun _ _ => X.mv) rfl ?_
      first | refine K.d_skip rfl rfl rfl rfl ?_ | refine K.d_skipU rfl rfl rfl rfl rfl ?_ | refine K.d_puG rfl rfl rfl (fun _ _ => X.fa) rfl ?_
      first | refine K.d_skipS rfl rfl rfl rfl ?_ | refine K.d_skipUS rfl rfl rfl rfl rfl ?_ | refine K.d_stG rfl rfl rfl X.ld rfl ?_
      refine K.d_stGE rfl rfl rfl (K.p_indexL hsl2 (Fx.und rfl) (Fx.sz rfl) rfl rfl (by omega) hcj0) rfl ?_
      rintro v3 ⟨b3, o3, rfl, hcel3⟩
      first | refine K.d_skip rfl rfl rfl rfl ?_ | refine K.d_skipU rfl rfl rfl rfl rfl ?_ | refine K.d_puG rfl rfl rfl (fun _ _ => X.fa) rfl ?_
      refine K.d_stG rfl rfl rfl (K.p_load (Fx.agg rfl) rfl (Cels.up hcel3).2.2.1) rfl ?_
      refine K.d_stG rfl rfl rfl (K.p_textB hbv (Fx.und rfl) (Fx.und rfl) (Fx.und rfl) rfl) rfl ?_
      first | refine K.d_skipS rfl rfl rfl rfl ?_ | refine K.d_skipUS rfl rfl rfl rfl rfl ?_ | refine K.d_stG rfl rfl rfl X.ld rfl ?_
      refine K.d_stG rfl rfl rfl (K.p_textB hbo (Fx.und rfl) (Fx.und rfl) (Fx.und rfl) rfl) rfl ?_
      first | refine K.d_skip rfl rfl rfl rfl ?_ | refine K.d_skipU rfl rfl rfl rfl rfl ?_ | refine K.d_puG rfl rfl rfl (fun _ _ => X.bgtr) rfl ?_
      rw [gtr_text, hcm]
      refine K.d_pu rfl (fun _ _ => X.pk) rfl ?_
      refine K.d_nil ?_
      by_cases hje : j = i
      ·rw [decide_eq_true (show i ≤ j by omega)]
       rw [if_pos hje] at hst
       (repeat' (first | refine X.rq ?_ | (refine X.rc ?_ ?_ <;> intro hc <;> first | (exfalso; omega) | skip)))
       refine K.l_buildSlice (Fx.und rfl) (Fx.sz rfl) rfl (Fx.zr rfl) rfl rfl rfl (cs := [.bool true, .int .u32 0, .slice ao5 o.data.length ca5]) rfl rfl (fun B7 => ?_)
       refine K.l_append_at 1 rfl (Fx.und rfl) (Fx.und rfl) rfl (Fx.sz rfl) (Fx.zr rfl) rfl (Fx.byt rfl) rfl rfl (K.src_cells (K.cels_own (pre := []) (cs := [.bool true, .int .u32 0, .slice ao5 o.data.length ca5]) (post := []) 0 rfl rfl) rfl (by simp [oneCell])) (by omega) (by omega) rfl (fun a9 cap9 => ?_)
       simp only [List.set_cons_zero, List.set_cons_succ, List.eraseIdx_cons_zero, List.eraseIdx_cons_succ, List.cons_append, List.nil_append]
       (repeat' (first | refine X.rq ?_ | (refine X.rc ?_ ?_ <;> intro hc <;> first | (exfalso; omega) | skip)))
       refine K.s_pureE (K.p_indexL hsl2 (Fx.und rfl) (Fx.sz rfl) rfl rfl (by omega) hcj0) rfl ?_
       rintro v4 ⟨b4, o4, rfl, hcel4⟩
       refine K.s_pure (K.p_loadM (Fx.agg rfl) rfl (Cels.up hcel4) (Fx.sz rfl) rfl) rfl ?_
       refine K.l_buildSlice (Fx.und rfl) (Fx.sz rfl) rfl (Fx.zr rfl) rfl rfl rfl (cs := [.bool x.used, .int .u32 x.killer, .slice ao9 x.data.length ca9]) rfl rfl (fun B8 => ?_)
       refine K.l_append_at 2 rfl (Fx.und rfl) (Fx.und rfl) rfl (Fx.sz rfl) (Fx.zr rfl) rfl (Fx.byt rfl) rfl rfl (K.src_cells (K.cels_own (pre := []) (cs := [.bool x.used, .int .u32 x.killer, .slice ao9 x.data.length ca9]) (post := []) 0 rfl rfl) rfl (by simp [oneCell])) (by omega) (by omega) rfl (fun a10 cap10 => ?_)
       simp only [List.set_cons_zero, List.set_cons_succ, List.eraseIdx_cons_zero, List.eraseIdx_cons_succ, List.cons_append, List.nil_append]
       (repeat' (first | refine X.rq ?_ | (refine X.rc ?_ ?_ <;> intro hc <;> first | (exfalso; omega) | skip)))
       refine K.AT.sel [0, 0] rfl ?_
       refine K.a_round hKL (j + 1, a10, cap10, fs ++ [[.bool true, .int .u32 0, .slice ao5 o.data.length ca5]] ++ [[.bool x.used, .int .u32 x.killer, .slice ao9 x.data.length ca9]]) ⟨by dsimp only; omega, by dsimp only; rw [hst]; exact (hfs.snoc hc2).snoc hcx⟩ ?_ rfl ?_ (by dsimp only; omega)
       ·dsimp only
        rw [hst, decide_eq_true (show i < j + 1 by omega), List.length_append, List.length_append, List.length_singleton, List.length_singleton]
        exact (by repeat (first | exact K.Sub.nil _ | refine K.Sub.cons rfl ?_))
       ·dsimp only
        rw [hst, List.length_append, List.length_append, List.length_singleton, List.length_singleton, List.flatten_append, List.flatten_append]
        rfl
      ·rw [decide_eq_false (show ¬ i ≤ j by omega)]
       rw [if_neg hje] at hst
       (repeat' (first | refine X.rq ?_ | (refine X.rc ?_ ?_ <;> intro hc <;> first | (exfalso; omega) | skip)))
       refine K.s_pureE (K.p_indexL hsl2 (Fx.und rfl) (Fx.sz rfl) rfl rfl (by omega) hcj0) rfl ?_
       rintro v4 ⟨b4, o4, rfl, hcel4⟩
       refine K.s_pure (K.p_loadM (Fx.agg rfl) rfl (Cels.up hcel4) (Fx.sz rfl) rfl) rfl ?_
       refine K.l_buildSlice (Fx.und rfl) (Fx.sz rfl) rfl (Fx.zr rfl) rfl rfl rfl (cs := [.bool x.used, .int .u32 x.killer, .slice ao9 x.data.length ca9]) rfl rfl (fun B7 => ?_)
       refine K.l_append_at 1 rfl (Fx.und rfl) (Fx.und rfl) rfl (Fx.sz rfl) (Fx.zr rfl) rfl (Fx.byt rfl) rfl rfl (K.src_cells (K.cels_own (pre := []) (cs := [.bool x.used, .int .u32 x.killer, .slice ao9 x.data.length ca9]) (post := []) 0 rfl rfl) rfl (by simp [oneCell])) (by omega) (by omega) rfl (fun a9 cap9 => ?_)
       simp only [List.set_cons_zero, List.set_cons_succ, List.eraseIdx_cons_zero, List.eraseIdx_cons_succ, List.cons_append, List.nil_append]
       (repeat' (first | refine X.rq ?_ | (refine X.rc ?_ ?_ <;> intro hc <;> first | (exfalso; omega) | skip)))
       refine K.AT.sel [0] rfl ?_
       refine K.a_round hKL (j + 1, a9, cap9, fs ++ [[.bool x.used, .int .u32 x.killer, .slice ao9 x.data.length ca9]]) ⟨by dsimp only; omega, by dsimp only; rw [hst]; exact hfs.snoc hcx⟩ ?_ rfl ?_ (by dsimp only; omega)
       ·dsimp only
        rw [hst, decide_eq_false (show ¬ i < j + 1 by omega), List.length_append, List.length_singleton]
        exact (by repeat (first | exact K.Sub.nil _ | refine K.Sub.cons rfl ?_))
       ·dsimp only
        rw [hst, List.length_append, List.length_singleton, List.flatten_append]
        rfl
    ·obtain rfl : j = p.cells.length := by omega
     by_cases hil : i < p.cells.length
     ·have hcu : curQ p.cells i ⟨true, 0, o.data⟩ p.cells.length = np := by rw [curQ, if_pos hil, List.take_length, hnp]
      rw [hcu] at hfs hcl ⊢
      rw [decide_eq_true hil]
      (repeat' (first | refine X.rq ?_ | (refine X.rc ?_ ?_ <;> intro hc <;> first | (exfalso; omega) | skip)))
      refine X.sto ?_
      simp only [List.set_cons_zero, List.set_cons_succ, List.eraseIdx_cons_zero, List.eraseIdx_cons_succ, List.cons_append, List.nil_append]
      (repeat' (first | refine X.rq ?_ | (refine X.rc ?_ ?_ <;> intro hc <;> first | (exfalso; omega) | skip)))
      refine K.AT.perm (K.pp [4, 0, 0, 0, 0] rfl) ?_
      simp only [List.set_cons_zero, List.set_cons_succ, List.eraseIdx_cons_zero, List.eraseIdx_cons_succ, List.cons_append, List.nil_append]
      refine K.a_join hJ (a8, cap8, fs, h2) ⟨le2, hfs⟩ (by repeat (first | exact K.Sub.nil _ | refine K.Sub.cons rfl ?_)) rfl rfl
     ·have hcu : curQ p.cells i ⟨true, 0, o.data⟩ p.cells.length = p.cells := by rw [curQ, if_neg hil, List.take_length]
      have hnp2 : np = p.cells ++ [⟨true, 0, o.data⟩] := by rw [hnp, show i = p.cells.length by omega, List.take_length, List.drop_length]
      rw [hcu] at hfs hcl ⊢
      rw [decide_eq_false hil]
      (repeat' (first | refine X.rq ?_ | (refine X.rc ?_ ?_ <;> intro hc <;> first | (exfalso; omega) | skip)))
      refine K.l_buildSlice (Fx.und rfl) (Fx.sz rfl) rfl (Fx.zr rfl) rfl rfl rfl (cs := [.bool true, .int .u32 0, .slice ao5 o.data.length ca5]) rfl rfl (fun B7 => ?_)
      refine K.l_append_at 1 rfl (Fx.und rfl) (Fx.und rfl) rfl (Fx.sz rfl) (Fx.zr rfl) rfl (Fx.byt rfl) rfl rfl (K.src_cells (K.cels_own (pre := []) (cs := [.bool true, .int .u32 0, .slice ao5 o.data.length ca5]) (post := []) 0 rfl rfl) rfl (by simp [oneCell])) (by omega) (by omega) rfl (fun a9 cap9 => ?_)
      simp only [List.set_cons_zero, List.set_cons_succ, List.eraseIdx_cons_zero, List.eraseIdx_cons_succ, List.cons_append, List.nil_append]
      (repeat' (first | refine X.rq ?_ | (refine X.rc ?_ ?_ <;> intro hc <;> first | (exfalso; omega) | skip)))
      refine X.sto ?_
      simp only [List.set_cons_zero, List.set_cons_succ, List.eraseIdx_cons_zero, List.eraseIdx_cons_succ, List.cons_append, List.nil_append]
      (repeat' (first | refine X.rq ?_ | (refine X.rc ?_ ?_ <;> intro hc <;> first | (exfalso; omega) | skip)))
      refine K.AT.sel [0] rfl ?_
      refine K.AT.perm (K.pp [4, 0, 0, 0, 0] rfl) ?_
      simp only [List.set_cons_zero, List.set_cons_succ, List.eraseIdx_cons_zero, List.eraseIdx_cons_succ, List.cons_append, List.nil_append]
      refine K.a_join hJ (a9, cap9, fs ++ [[.bool true, .int .u32 0, .slice ao5 o.data.length ca5]], h2) ⟨le2, by rw [hnp2]; exact hfs.snoc hc2⟩ (by repeat (first | exact K.Sub.nil _ | refine K.Sub.cons rfl ?_)) rfl ?_
      dsimp only
      rw [hnp2, List.length_append, List.length_singleton, List.flatten_append]
      rfl
  ·obtain ⟨a7, cap7, fs, h7⟩ := q
   obtain ⟨le7, hrow7⟩ := hq
   dsimp only at le7 hrow7 ⊢
   have hokc : ∀ x ∈ np, x.data.length ≤ 180 := fun x hx => by
    rw [hnp] at hx
    have hok : ∀ y ∈ p.cells, y.data.length ≤ 180 := fun y hy => by
     have := may_ok hm y hy
     cases hu : y.used with
     | true => have := this.1 hu; omega
     | false => have := this.2 hu; omega
    unfold putC at hx
    split at hx
    ·rcases List.mem_append.1 hx with hx | hx
     ·exact hok x (List.mem_of_mem_take hx)
     ·rcases List.mem_cons.1 hx with rfl | hx
      ·exact hd180.2
      ·exact hok x (List.mem_of_mem_drop hx)
    ·rcases List.mem_or_eq_of_mem_set hx with hx | hx
     ·exact hok x hx
     ·rw [hx]; exact hd180.2
   have hsm : small np := ⟨by omega, fun x hx => by have := hokc x hx; omega⟩
   have hszb := sizeS_le hsm.2
   have hw7 : wfP { p with cells := np } := ⟨hw.kind, hw.lsn, hw.next, by show np.length ≤ _; omega⟩
   clear hno hnp
   have hle7 : h.le h7 := le1.trans le7
   by_cases h60n : np.length ≤ 60
   ·by_cases hsz : sizeQ np ≤ 512
    ·rw [if_pos ⟨h60n, hsz⟩]
     (repeat' (first | refine X.rq ?_ | (refine X.rc ?_ ?_ <;> intro hc <;> first | (exfalso; omega) | skip)))
     refine K.l_callV (Fx.cal rfl) rfl (K.TrV.borrow (h := h7) (A := [bufA 55 3 a7 np.length cap7 fs.flatten]) (R := []) fun h' hle hs => RSize h' _ { p with cells := np } (page_of_says (p := { p with cells := np }) hw7 (hrow7.le hle) hs) hsm) (K.pp [1] rfl) rfl rfl ?_
     simp only [List.cons_append, List.nil_append]
     (repeat' (first | refine X.rq ?_ | (refine X.rc ?_ ?_ <;> intro hc <;> first | (exfalso; omega) | skip)))
     refine X.stw ?_
     simp only [List.set_cons_zero, List.set_cons_succ, List.eraseIdx_cons_zero, List.eraseIdx_cons_succ, List.cons_append, List.nil_append]
     (repeat' (first | refine X.rq ?_ | (refine X.rc ?_ ?_ <;> intro hc <;> first | (exfalso; omega) | skip)))
     refine K.AT.perm (K.pp [1, 1, 1, 1, 0] rfl) ?_
     simp only [List.set_cons_zero, List.set_cons_succ, List.eraseIdx_cons_zero, List.eraseIdx_cons_succ, List.cons_append, List.nil_append]
     refine K.doneC (by first | exact Or.inl rfl | exact Or.inr rfl) (.cell rfl (Fx.agg rfl) (Fx.sz rfl) (by first | exact K.cels_own (pre := []) (post := []) 0 rfl rfl | exact K.cels_own (pre := []) (post := []) 1 rfl rfl | exact K.cels_own (pre := []) (post := []) 2 rfl rfl | exact K.cels_own (pre := []) (post := []) 3 rfl rfl | exact K.cels_own (pre := []) (post := []) 4 rfl rfl | exact K.cels_own (pre := []) (post := []) 5 rfl rfl) (.tmp rfl .nil)) (by first | exact K.Base.le.refl _ | assumption) (vs := [.agg (cP p (bufV a7 np.length cap7)).toArray, .int .i64 0]) (D := [_, _, _, _]) (H' := [bufA 55 3 a7 np.length cap7 fs.flatten]) rfl ⟨hle7, a7, cap7, fs, rfl, hrow7, rfl⟩
    ·rw [if_neg (fun e => hsz e.2)]
     (repeat' (first | refine X.rq ?_ | (refine X.rc ?_ ?_ <;> intro hc <;> first | (exfalso; omega) | skip)))
     refine K.l_callV (Fx.cal rfl) rfl (K.TrV.borrow (h := h7) (A := [bufA 55 3 a7 np.length cap7 fs.flatten]) (R := []) fun h' hle hs => RSize h' _ { p with cells := np } (page_of_says (p := { p with cells := np }) hw7 (hrow7.le hle) hs) hsm) (K.pp [1] rfl) rfl rfl ?_
     simp only [List.cons_append, List.nil_append]
     (repeat' (first | refine X.rq ?_ | (refine X.rc ?_ ?_ <;> intro hc <;> first | (exfalso; omega) | skip)))
     refine X.stw ?_
     simp only [List.set_cons_zero, List.set_cons_succ, List.eraseIdx_cons_zero, List.eraseIdx_cons_succ, List.cons_append, List.nil_append]
     (repeat' (first | refine X.rq ?_ | (refine X.rc ?_ ?_ <;> intro hc <;> first | (exfalso; omega) | skip)))
     refine K.AT.nilBuf 55 3 ?_
     refine K.AT.perm (K.pp [1, 1, 1, 1, 1, 0] rfl) ?_
     simp only [List.set_cons_zero, List.set_cons_succ, List.eraseIdx_cons_zero, List.eraseIdx_cons_succ, List.cons_append, List.nil_append]
     refine K.doneC (by first | exact Or.inl rfl | exact Or.inr rfl) (.cell rfl (Fx.agg rfl) (Fx.sz rfl) (by first | exact K.cels_own (pre := []) (post := []) 0 rfl rfl | exact K.cels_own (pre := []) (post := []) 1 rfl rfl | exact K.cels_own (pre := []) (post := []) 2 rfl rfl | exact K.cels_own (pre := []) (post := []) 3 rfl rfl | exact K.cels_own (pre := []) (post := []) 4 rfl rfl | exact K.cels_own (pre := []) (post := []) 5 rfl rfl) (.tmp rfl .nil)) (by first | exact K.Base.le.refl _ | assumption) (vs := [.agg (cP zP (bufV none 0 0)).toArray, .int .i64 4]) (D := [_, _, _, _, _]) (H' := [bufA 55 3 none 0 0 []]) rfl ⟨hle7, none, 0, [], rfl, ⟨rfl, fun e he => (by cases he), fun j c x hj => (by cases hj)⟩, rfl⟩
   ·rw [if_neg (fun e => h60n e.1)]
    (repeat' (first | refine X.rq ?_ | (refine X.rc ?_ ?_ <;> intro hc <;> first | (exfalso; omega) | skip)))
    refine X.stw ?_
    simp only [List.set_cons_zero, List.set_cons_succ, List.eraseIdx_cons_zero, List.eraseIdx_cons_succ, List.cons_append, List.nil_append]
    (repeat' (first | refine X.rq ?_ | (refine X.rc ?_ ?_ <;> intro hc <;> first | (exfalso; omega) | skip)))
    refine K.AT.nilBuf 55 3 ?_
    refine K.AT.perm (K.pp [1, 1, 1, 1, 1, 0] rfl) ?_
    simp only [List.set_cons_zero, List.set_cons_succ, List.eraseIdx_cons_zero, List.eraseIdx_cons_succ, List.cons_append, List.nil_append]
    refine K.doneC (by first | exact Or.inl rfl | exact Or.inr rfl) (.cell rfl (Fx.agg rfl) (Fx.sz rfl) (by first | exact K.cels_own (pre := []) (post := []) 0 rfl rfl | exact K.cels_own (pre := []) (post := []) 1 rfl rfl | exact K.cels_own (pre := []) (post := []) 2 rfl rfl | exact K.cels_own (pre := []) (post := []) 3 rfl rfl | exact K.cels_own (pre := []) (post := []) 4 rfl rfl | exact K.cels_own (pre := []) (post := []) 5 rfl rfl) (.tmp rfl .nil)) (by first | exact K.Base.le.refl _ | assumption) (vs := [.agg (cP zP (bufV none 0 0)).toArray, .int .i64 4]) (D := [_, _, _, _, _]) (H' := [bufA 55 3 none 0 0 []]) rfl ⟨hle7, none, 0, [], rfl, ⟨rfl, fun e he => (by cases he), fun j c x hj => (by cases hj)⟩, rfl⟩
end Go.Proofs.YtkdngpiiecmpgaaGreat.Pg
