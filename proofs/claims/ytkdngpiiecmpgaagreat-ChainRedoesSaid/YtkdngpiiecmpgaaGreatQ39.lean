/-
 The document's operations. Conditions: each theorem's own.
-/
import Derived.Test.YtkdngpiiecmpgaaGreatQ38
namespace Go.Proofs.YtkdngpiiecmpgaaGreat.Pg
open Go Go.K Go.Proofs Go.Proofs.YtkdngpiiecmpgaaGreat
set_option linter.unusedVariables false
set_option linter.unusedSimpArgs false
set_option maxRecDepth 10000

theorem RowC.take {h : Base} {es : List (List Value)} {l : List PCell} (n : Nat) (hr : RowC h es l) : RowC h (es.take n) (l.take n) := by
 obtain ⟨h1, h2, h3⟩ := hr
 refine ⟨by simp [h1], fun e he => h2 e (List.mem_of_mem_take he), fun j c x hj hx => ?_⟩
 rw [List.getElem?_take] at hj hx
 split at hj
 ·rename_i e
  rw [if_pos e] at hx
  exact h3 j c x hj hx
 ·cases hj
theorem RowC.drop {h : Base} {es : List (List Value)} {l : List PCell} (n : Nat) (hr : RowC h es l) : RowC h (es.drop n) (l.drop n) := by
 obtain ⟨h1, h2, h3⟩ := hr
 refine ⟨by simp [h1], fun e he => h2 e (List.mem_of_mem_drop he), fun j c x hj hx => ?_⟩
 rw [List.getElem?_drop] at hj hx
 exact h3 _ c x hj hx
theorem RowC.append {h : Base} {es fs : List (List Value)} {l m : List PCell} (hr : RowC h es l) (hs : RowC h fs m) : RowC h (es ++ fs) (l ++ m) := by
 obtain ⟨h1, h2, h3⟩ := hr
 obtain ⟨g1, g2, g3⟩ := hs
 refine ⟨by simp [h1, g1], fun e he => ?_, fun j c x hj hx => ?_⟩
 ·rcases List.mem_append.1 he with he | he
  ·exact h2 e he
  ·exact g2 e he
 ·by_cases hjl : j < l.length
  ·rw [List.getElem?_append_left (by omega)] at hj hx
   exact h3 j c x hj hx
  ·rw [List.getElem?_append_right (by omega)] at hj hx
   rw [h1] at hj
   exact g3 _ c x hj hx
theorem rat_there {p : Pag} {o : POp} {j : Nat} (hw : whereQ p o = ((j : Int), true)) : ratQ p o = j := by rw [ratQ, hw, if_pos rfl]
theorem rat_no {p : Pag} {o : POp} (hw : (whereQ p o).2 = false) : ratQ p o = -1 := by rw [ratQ, if_neg (by rw [hw]; decide)]
set_option maxHeartbeats 8000000 in
theorem RDo (h : Base) (cs ds : List Value) (p : Pag) (o : POp) (hx : PagC h cs p) (ho : OpC h ds o) :
  Tr Tryz.prog 47 [.agg cs.toArray, .agg ds.toArray] h [] (fun v h' H' => h.le h' ∧ NewR (doQ p o) v h' H') := by
 have hx0 := hx
 have ho0 := ho
 obtain ⟨hw, cv, rfl, es0, hv, hel0, hr0⟩ := hx
 obtain ⟨⟨hok, hos, hot, hol⟩, ao4, ca4, rfl, hbo⟩ := ho
 obtain ⟨ao, ca, rfl⟩ := hv.len
 have hmay := RMay h _ p hx0
 have hright := RRight h p.kind _ o ho0
 have hleh := K.Base.le.refl h
 refine K.enter Tryz.func47 rfl (Nat.le_of_ble_eq_true rfl) (fun F => ?_)
 simp only [List.nil_append]
 (repeat' (first | refine X.rq ?_ | (refine X.rc ?_ ?_ <;> intro hc <;> first | (exfalso; omega) | skip)))
 refine K.l_box rfl rfl rfl (fun B2 => ?_)
 refine K.l_box rfl rfl rfl (fun B3 => ?_)
 refine K.l_alloc (Fx.zr rfl) rfl rfl (fun B4 => ?_)
 (repeat' (first | refine X.rq ?_ | (refine X.rc ?_ ?_ <;> intro hc <;> first | (exfalso; omega) | skip)))
 refine K.l_callV (Fx.cal rfl) rfl hmay (K.pp [] rfl) rfl rfl ?_
 simp only [List.nil_append]
 cases hm : mayQ p with
 | false =>
  have hres : doQ p o = (zP, 5) := by rw [doQ, if_pos hm]
  rw [hres]
  (repeat' (first | refine X.rq ?_ | (refine X.rc ?_ ?_ <;> intro hc <;> first | (exfalso; omega) | skip)))
  refine X.stw ?_
  simp only [List.set_cons_zero, List.set_cons_succ, List.eraseIdx_cons_zero, List.eraseIdx_cons_succ, List.cons_append, List.nil_append]
  (repeat' (first | refine X.rq ?_ | (refine X.rc ?_ ?_ <;> intro hc <;> first | (exfalso; omega) | skip)))
  refine K.AT.nilBuf 55 3 ?_
  refine K.AT.perm (K.pp [1, 1, 1, 0] rfl) ?_
  simp only [List.set_cons_zero, List.set_cons_succ, List.eraseIdx_cons_zero, List.eraseIdx_cons_succ, List.cons_append, List.nil_append]
  refine K.doneC (by first | exact Or.inl rfl | exact Or.inr rfl) (.cell rfl (Fx.agg rfl) (Fx.sz rfl) (by first | exact K.cels_own (pre := []) (post := []) 0 rfl rfl | exact K.cels_own (pre := []) (post := []) 1 rfl rfl | exact K.cels_own (pre := []) (post := []) 2 rfl rfl | exact K.cels_own (pre := []) (post := []) 3 rfl rfl | exact K.cels_own (pre := []) (post := []) 4 rfl rfl | exact K.cels_own (pre := []) (post := []) 5 rfl rfl) (.tmp rfl .nil)) (by first | exact K.Base.le.refl _ | assumption) (vs := [.agg (cP zP (bufV none 0 0)).toArray, .int .i64 5]) (D := [_, _, _]) (H' := [bufA 55 3 none 0 0 []]) rfl ⟨hleh, none, 0, [], rfl, ⟨rfl, fun e he => (by cases he), fun j c x hj => (by cases hj)⟩, rfl⟩
 | true =>
  (repeat' (first | refine X.rq ?_ | (refine X.rc ?_ ?_ <;> intro hc <;> first | (exfalso; omega) | skip)))
  refine K.l_callV (Fx.cal rfl) rfl hright (K.pp [] rfl) rfl rfl ?_
  simp only [List.nil_append]
  by_cases hri : rightP p.kind o
  ·rw [decide_eq_true hri]
   have hsm := do_small hm
   have h60 : p.cells.length ≤ 60 := ((mayQ_iff p).1 hm).2.1
   (repeat' (first | refine X.rq ?_ | (refine X.rc ?_ ?_ <;> intro hc <;> first | (exfalso; omega) | skip)))
   refine K.l_call (Fx.cal rfl) rfl (CopyPage h _ p hx0 hsm) (K.pp [] rfl) rfl ?_
   rintro u h1 H' le1 ⟨a, cap, es, rfl, hrow, rfl⟩
   simp only [List.cons_append, List.nil_append]
   have ho1 := ho0.le le1
   clear hv hr0 hel0 hmay hright hx0 ho0 hbo
   have hel := hrow.1
   refine X.stw ?_
   simp only [List.set_cons_zero, List.set_cons_succ, List.eraseIdx_cons_zero, List.eraseIdx_cons_succ, List.cons_append, List.nil_append]
   (repeat' (first | refine X.rq ?_ | (refine X.rc ?_ ?_ <;> intro hc <;> first | (exfalso; omega) | skip)))
   refine K.l_callV (Fx.cal rfl) rfl (K.TrV.borrow (h := h1) (A := [bufA 55 3 a p.cells.length cap es.flatten]) (R := []) fun h' hle hs => RAt h' _ _ p o (page_of_says hw (hrow.le hle) hs) (ho1.le hle) hm hri.1) (K.pp [0] rfl) rfl rfl ?_
   simp only [List.cons_append, List.nil_append]
   have hdo := doQ_yes hm hri
   have hth := @where_there p o
   have hkb := hri.2.1
   cases ht : (whereQ p o).2 with
   | false =>
    rw [rat_no ht]
    by_cases hk1 : o.kind = 1
    ·(repeat' (first | refine X.rq ?_ | (refine X.rc ?_ ?_ <;> intro hc <;> first | (exfalso; omega) | skip)))
     refine K.l_call (Fx.cal rfl) rfl (RPut h1 a cap es _ p o hw hm hri hk1 ht hrow ho1) (K.pp [0] rfl) rfl ?_
     rintro u h7 H' le7 ⟨_, a7, cap7, fs, rfl, hrow7, rfl⟩
     simp only [List.cons_append, List.nil_append]
     have hle7 := le1.trans le7
     generalize doQ p o = r at hrow7 ⊢
     (repeat' (first | refine X.rq ?_ | (refine X.rc ?_ ?_ <;> intro hc <;> first | (exfalso; omega) | skip)))
     refine X.stw ?_
     simp only [List.set_cons_zero, List.set_cons_succ, List.eraseIdx_cons_zero, List.eraseIdx_cons_succ, List.cons_append, List.nil_append]
     (repeat' (first | refine X.rq ?_ | (refine X.rc ?_ ?_ <;> intro hc <;> first | (exfalso; omega) | skip)))
     refine K.AT.perm (K.pp [1, 1, 1, 0] rfl) ?_
     simp only [List.set_cons_zero, List.set_cons_succ, List.eraseIdx_cons_zero, List.eraseIdx_cons_succ, List.cons_append, List.nil_append]
     refine K.doneC (by first | exact Or.inl rfl | exact Or.inr rfl) (.cell rfl (Fx.agg rfl) (Fx.sz rfl) (by first | exact K.cels_own (pre := []) (post := []) 0 rfl rfl | exact K.cels_own (pre := []) (post := []) 1 rfl rfl | exact K.cels_own (pre := []) (post := []) 2 rfl rfl | exact K.cels_own (pre := []) (post := []) 3 rfl rfl | exact K.cels_own (pre := []) (post := []) 4 rfl rfl | exact K.cels_own (pre := []) (post := []) 5 rfl rfl) (.tmp rfl .nil)) (by first | exact K.Base.le.refl _ | assumption) (vs := [.agg (cP r.1 (bufV a7 r.1.cells.length cap7)).toArray, .int .i64 r.2]) (D := [_, _, _]) (H' := [bufA 55 3 a7 r.1.cells.length cap7 fs.flatten]) rfl ⟨hle7, a7, cap7, fs, rfl, hrow7, rfl⟩
    ·have hres : doQ p o = (zP, 6) := by
      rw [hdo, doR, if_neg hk1, if_pos ht]
     rw [hres]
     (repeat' (first | refine X.rq ?_ | (refine X.rc ?_ ?_ <;> intro hc <;> first | (exfalso; omega) | skip)))
     refine X.stw ?_
     simp only [List.set_cons_zero, List.set_cons_succ, List.eraseIdx_cons_zero, List.eraseIdx_cons_succ, List.cons_append, List.nil_append]
     (repeat' (first | refine X.rq ?_ | (refine X.rc ?_ ?_ <;> intro hc <;> first | (exfalso; omega) | skip)))
     refine K.AT.nilBuf 55 3 ?_
     refine K.AT.perm (K.pp [1, 1, 1, 1, 0] rfl) ?_
     simp only [List.set_cons_zero, List.set_cons_succ, List.eraseIdx_cons_zero, List.eraseIdx_cons_succ, List.cons_append, List.nil_append]
     refine K.doneC (by first | exact Or.inl rfl | exact Or.inr rfl) (.cell rfl (Fx.agg rfl) (Fx.sz rfl) (by first | exact K.cels_own (pre := []) (post := []) 0 rfl rfl | exact K.cels_own (pre := []) (post := []) 1 rfl rfl | exact K.cels_own (pre := []) (post := []) 2 rfl rfl | exact K.cels_own (pre := []) (post := []) 3 rfl rfl | exact K.cels_own (pre := []) (post := []) 4 rfl rfl | exact K.cels_own (pre := []) (post := []) 5 rfl rfl) (.tmp rfl .nil)) (by first | exact K.Base.le.refl _ | assumption) (vs := [.agg (cP zP (bufV none 0 0)).toArray, .int .i64 6]) (D := [_, _, _, _]) (H' := [bufA 55 3 none 0 0 []]) rfl ⟨le1, none, 0, [], rfl, ⟨rfl, fun e he => (by cases he), fun j c x hj => (by cases hj)⟩, rfl⟩
   | true =>
    obtain ⟨j, hj, x, hxj⟩ := hth (i := (whereQ p o).1) (Prod.ext rfl ht)
    have hwj : whereQ p o = ((j : Int), true) := Prod.ext hj ht
    rw [rat_there hwj]
    have hjl : j < p.cells.length := (List.getElem?_eq_some_iff.1 hxj).1
    obtain ⟨xu, xk, xd⟩ := x
    rw [hwj, doR_there hxj] at hdo
    rw [hdo]
    clear hdo hth hj
    by_cases hk1 : o.kind = 1
    ·rw [if_pos hk1, if_neg (by omega)]
     (repeat' (first | refine X.rq ?_ | (refine X.rc ?_ ?_ <;> intro hc <;> first | (exfalso; omega) | skip)))
     refine X.stw ?_
     simp only [List.set_cons_zero, List.set_cons_succ, List.eraseIdx_cons_zero, List.eraseIdx_cons_succ, List.cons_append, List.nil_append]
     (repeat' (first | refine X.rq ?_ | (refine X.rc ?_ ?_ <;> intro hc <;> first | (exfalso; omega) | skip)))
     refine K.AT.nilBuf 55 3 ?_
     refine K.AT.perm (K.pp [1, 1, 1, 1, 0] rfl) ?_
     simp only [List.set_cons_zero, List.set_cons_succ, List.eraseIdx_cons_zero, List.eraseIdx_cons_succ, List.cons_append, List.nil_append]
     refine K.doneC (by first | exact Or.inl rfl | exact Or.inr rfl) (.cell rfl (Fx.agg rfl) (Fx.sz rfl) (by first | exact K.cels_own (pre := []) (post := []) 0 rfl rfl | exact K.cels_own (pre := []) (post := []) 1 rfl rfl | exact K.cels_own (pre := []) (post := []) 2 rfl rfl | exact K.cels_own (pre := []) (post := []) 3 rfl rfl | exact K.cels_own (pre := []) (post := []) 4 rfl rfl | exact K.cels_own (pre := []) (post := []) 5 rfl rfl) (.tmp rfl .nil)) (by first | exact K.Base.le.refl _ | assumption) (vs := [.agg (cP zP (bufV none 0 0)).toArray, .int .i64 7]) (D := [_, _, _, _]) (H' := [bufA 55 3 none 0 0 []]) rfl ⟨le1, none, 0, [], rfl, ⟨rfl, fun e he => (by cases he), fun j c x hj => (by cases hj)⟩, rfl⟩
    ·rw [if_neg hk1]
     refine K.WL.perm (K.pp [0] rfl) ?_
     simp only [List.set_cons_zero, List.set_cons_succ, List.eraseIdx_cons_zero, List.eraseIdx_cons_succ, List.cons_append, List.nil_append]
     refine K.o_buf (fun e h0 _ _ => by omega) ?_
     rintro b sp fz rfl g2 g3 g4 g5 g6
     have hcj1 : es[j]? = some (es[j]'(by omega)) := List.getElem?_eq_getElem (by omega)
     generalize es[j]'(by omega) = c at hcj1
     obtain ⟨hkl, hdl, ao9, ca9, rfl, hbv⟩ := hrow.2.2 j c _ hcj1 hxj
     have hle3 : p.cells.length * 3 ≤ cap * 3 := Nat.mul_le_mul_right _ g4
     have hz3 := hrow.2.1
     by_cases hk2 : o.kind = 2
     ·(repeat' (first | refine X.rq ?_ | (refine X.rc ?_ ?_ <;> intro hc <;> first | (exfalso; omega) | skip)))
      refine K.s_pure (K.p_load (Fx.agg rfl) rfl (K.cel_row (s := 3) (i := j) (j := 1) (u := .int .u32 xk) 0 rfl hz3 hcj1 rfl (by omega))) rfl ?_
      by_cases hx0 : xk = 0
      ·rw [if_neg (fun e => e.2 hx0), if_neg (by omega), if_neg (by omega)]
       (repeat' (first | refine X.rq ?_ | (refine X.rc ?_ ?_ <;> intro hc <;> first | (exfalso; omega) | skip)))
       refine K.l_storeFld (s := 3) (i := j) (j := 1) (u := .int .u32 o.txn) (Fx.sz rfl) rfl rfl rfl hz3 hcj1 (by omega) (by rw [Nat.zero_add]; rfl) (fun o ho => g6 o (by omega)) ?_
       have hrow2 := hrow.set j (c := [.bool xu, .int .u32 o.txn, .slice ao9 xd.length ca9]) (x := ⟨xu, o.txn, xd⟩) ⟨hot, hdl, ao9, ca9, rfl, hbv⟩
       have hfl2 := K.flatten_len _ hrow2.2.1
       rw [List.length_set, hel] at hfl2
       (repeat' (first | refine X.rq ?_ | (refine X.rc ?_ ?_ <;> intro hc <;> first | (exfalso; omega) | skip)))
       refine X.stw ?_
       simp only [List.set_cons_zero, List.set_cons_succ, List.eraseIdx_cons_zero, List.eraseIdx_cons_succ, List.cons_append, List.nil_append]
       (repeat' (first | refine X.rq ?_ | (refine X.rc ?_ ?_ <;> intro hc <;> first | (exfalso; omega) | skip)))
       refine K.AT.shut (s := 3) (m := p.cells.length) (cap := cap) hfl2 (by rw [← g3, List.length_append, List.length_append, hfl2, g2]) g4 g5 g6 ?_
       refine K.AT.perm (K.pp [1, 1, 1, 0] rfl) ?_
       simp only [List.set_cons_zero, List.set_cons_succ, List.eraseIdx_cons_zero, List.eraseIdx_cons_succ, List.cons_append, List.nil_append]
       refine K.doneC (by first | exact Or.inl rfl | exact Or.inr rfl) (.cell rfl (Fx.agg rfl) (Fx.sz rfl) (by first | exact K.cels_own (pre := []) (post := []) 0 rfl rfl | exact K.cels_own (pre := []) (post := []) 1 rfl rfl | exact K.cels_own (pre := []) (post := []) 2 rfl rfl | exact K.cels_own (pre := []) (post := []) 3 rfl rfl | exact K.cels_own (pre := []) (post := []) 4 rfl rfl | exact K.cels_own (pre := []) (post := []) 5 rfl rfl) (.tmp rfl .nil)) (by first | exact K.Base.le.refl _ | assumption) (vs := [.agg (cP p (bufV (some b) p.cells.length cap)).toArray, .int .i64 0]) (D := [_, _, _]) (H' := [bufA 55 3 (some b) p.cells.length cap (es.set j [.bool xu, .int .u32 o.txn, .slice ao9 xd.length ca9]).flatten]) rfl ⟨le1, some b, cap, es.set j [.bool xu, .int .u32 o.txn, .slice ao9 xd.length ca9], ?_, hrow2, ?_⟩
       ·show _ = Value.tuple #[Value.agg (cP p (bufV (some b) (p.cells.set j _).length cap)).toArray, _]
        rw [List.length_set]; rfl
       ·show _ = [bufA _ 3 (some b) (p.cells.set j _).length cap _]
        rw [List.length_set]
      ·rw [if_pos ⟨hk2, hx0⟩]
       (repeat' (first | refine X.rq ?_ | (refine X.rc ?_ ?_ <;> intro hc <;> first | (exfalso; omega) | skip)))
       refine X.stw ?_
       simp only [List.set_cons_zero, List.set_cons_succ, List.eraseIdx_cons_zero, List.eraseIdx_cons_succ, List.cons_append, List.nil_append]
       (repeat' (first | refine X.rq ?_ | (refine X.rc ?_ ?_ <;> intro hc <;> first | (exfalso; omega) | skip)))
       refine K.AT.nilBuf 55 3 ?_
       refine K.AT.perm (K.pp [1, 1, 1, 1, 0] rfl) ?_
       simp only [List.set_cons_zero, List.set_cons_succ, List.eraseIdx_cons_zero, List.eraseIdx_cons_succ, List.cons_append, List.nil_append]
       refine K.doneC (by first | exact Or.inl rfl | exact Or.inr rfl) (.cell rfl (Fx.agg rfl) (Fx.sz rfl) (by first | exact K.cels_own (pre := []) (post := []) 0 rfl rfl | exact K.cels_own (pre := []) (post := []) 1 rfl rfl | exact K.cels_own (pre := []) (post := []) 2 rfl rfl | exact K.cels_own (pre := []) (post := []) 3 rfl rfl | exact K.cels_own (pre := []) (post := []) 4 rfl rfl | exact K.cels_own (pre := []) (post := []) 5 rfl rfl) (.tmp rfl .nil)) (by first | exact K.Base.le.refl _ | assumption) (vs := [.agg (cP zP (bufV none 0 0)).toArray, .int .i64 7]) (D := [_, _, _, _]) (H' := [bufA 55 3 none 0 0 []]) rfl ⟨le1, none, 0, [], rfl, ⟨rfl, fun e he => (by cases he), fun j c x hj => (by cases hj)⟩, rfl⟩
     ·by_cases hk3 : o.kind = 3
      ·have htx : o.txn = 0 := by
        have := hri.2.2.1
        by_cases e : o.txn = 0
        ·exact e
        ·exact absurd (this.2 e) hk2
       rw [if_neg (fun e => hk2 e.1)]
       (repeat' (first | refine X.rq ?_ | (refine X.rc ?_ ?_ <;> intro hc <;> first | (exfalso; omega) | skip)))
       refine K.s_pure (K.p_load (Fx.agg rfl) rfl (K.cel_row (s := 3) (i := j) (j := 1) (u := .int .u32 xk) 0 rfl hz3 hcj1 rfl (by omega))) rfl ?_
       by_cases hx0 : xk = 0
       ·rw [if_pos ⟨hk3, hx0⟩]
        (repeat' (first | refine X.rq ?_ | (refine X.rc ?_ ?_ <;> intro hc <;> first | (exfalso; omega) | skip)))
        refine X.stw ?_
        simp only [List.set_cons_zero, List.set_cons_succ, List.eraseIdx_cons_zero, List.eraseIdx_cons_succ, List.cons_append, List.nil_append]
        (repeat' (first | refine X.rq ?_ | (refine X.rc ?_ ?_ <;> intro hc <;> first | (exfalso; omega) | skip)))
        refine K.AT.nilBuf 55 3 ?_
        refine K.AT.perm (K.pp [1, 1, 1, 1, 0] rfl) ?_
        simp only [List.set_cons_zero, List.set_cons_succ, List.eraseIdx_cons_zero, List.eraseIdx_cons_succ, List.cons_append, List.nil_append]
        refine K.doneC (by first | exact Or.inl rfl | exact Or.inr rfl) (.cell rfl (Fx.agg rfl) (Fx.sz rfl) (by first | exact K.cels_own (pre := []) (post := []) 0 rfl rfl | exact K.cels_own (pre := []) (post := []) 1 rfl rfl | exact K.cels_own (pre := []) (post := []) 2 rfl rfl | exact K.cels_own (pre := []) (post := []) 3 rfl rfl | exact K.cels_own (pre := []) (post := []) 4 rfl rfl | exact K.cels_own (pre := []) (post := []) 5 rfl rfl) (.tmp rfl .nil)) (by first | exact K.Base.le.refl _ | assumption) (vs := [.agg (cP zP (bufV none 0 0)).toArray, .int .i64 6]) (D := [_, _, _, _]) (H' := [bufA 55 3 none 0 0 []]) rfl ⟨le1, none, 0, [], rfl, ⟨rfl, fun e he => (by cases he), fun j c x hj => (by cases hj)⟩, rfl⟩
       ·rw [if_neg (fun e => hx0 e.2), if_neg (by omega)]
        (repeat' (first | refine X.rq ?_ | (refine X.rc ?_ ?_ <;> intro hc <;> first | (exfalso; omega) | skip)))
        refine K.l_storeFld (s := 3) (i := j) (j := 1) (u := .int .u32 0) (Fx.sz rfl) rfl rfl rfl hz3 hcj1 (by omega) (by rw [Nat.zero_add]; rfl) (fun o ho => g6 o (by omega)) ?_
        have hrow2 := hrow.set j (c := [.bool xu, .int .u32 0, .slice ao9 xd.length ca9]) (x := ⟨xu, o.txn, xd⟩) ⟨hot, hdl, ao9, ca9, (by rw [htx]; rfl), hbv⟩
        have hfl2 := K.flatten_len _ hrow2.2.1
        rw [List.length_set, hel] at hfl2
        (repeat' (first | refine X.rq ?_ | (refine X.rc ?_ ?_ <;> intro hc <;> first | (exfalso; omega) | skip)))
        refine X.stw ?_
        simp only [List.set_cons_zero, List.set_cons_succ, List.eraseIdx_cons_zero, List.eraseIdx_cons_succ, List.cons_append, List.nil_append]
        (repeat' (first | refine X.rq ?_ | (refine X.rc ?_ ?_ <;> intro hc <;> first | (exfalso; omega) | skip)))
        refine K.AT.shut (s := 3) (m := p.cells.length) (cap := cap) hfl2 (by rw [← g3, List.length_append, List.length_append, hfl2, g2]) g4 g5 g6 ?_
        refine K.AT.perm (K.pp [1, 1, 1, 0] rfl) ?_
        simp only [List.set_cons_zero, List.set_cons_succ, List.eraseIdx_cons_zero, List.eraseIdx_cons_succ, List.cons_append, List.nil_append]
        refine K.doneC (by first | exact Or.inl rfl | exact Or.inr rfl) (.cell rfl (Fx.agg rfl) (Fx.sz rfl) (by first | exact K.cels_own (pre := []) (post := []) 0 rfl rfl | exact K.cels_own (pre := []) (post := []) 1 rfl rfl | exact K.cels_own (pre := []) (post := []) 2 rfl rfl | exact K.cels_own (pre := []) (post := []) 3 rfl rfl | exact K.cels_own (pre := []) (post := []) 4 rfl rfl | exact K.cels_own (pre := []) (post := []) 5 rfl rfl) (.tmp rfl .nil)) (by first | exact K.Base.le.refl _ | assumption) (vs := [.agg (cP p (bufV (some b) p.cells.length cap)).toArray, .int .i64 0]) (D := [_, _, _]) (H' := [bufA 55 3 (some b) p.cells.length cap (es.set j [.bool xu, .int .u32 0, .slice ao9 xd.length ca9]).flatten]) rfl ⟨le1, some b, cap, es.set j [.bool xu, .int .u32 0, .slice ao9 xd.length ca9], ?_, hrow2, ?_⟩
        ·show _ = Value.tuple #[Value.agg (cP p (bufV (some b) (p.cells.set j _).length cap)).toArray, _]
         rw [List.length_set]; rfl
        ·show _ = [bufA _ 3 (some b) (p.cells.set j _).length cap _]
         rw [List.length_set]
      ·have hk4 : o.kind = 4 := by omega
       rw [if_neg (fun e => hk2 e.1), if_neg (fun e => hk3 e.1), if_pos hk4]
       by_cases hp2 : p.kind = 2
       ·have hfr : freeC p.kind p.cells j = p.cells.take j ++ p.cells.drop (j + 1) := by rw [freeC, if_pos hp2]
        have hfl : (p.cells.take j ++ p.cells.drop (j + 1)).length = p.cells.length - 1 := by simp; omega
        rw [hfr]
        have hrow2 := (hrow.take j).append (hrow.drop (j + 1))
        have hres : (es.take j ++ es.drop (j + 1)).flatten = (es.take j).flatten ++ (es.drop (j + 1)).flatten := by simp
        obtain ⟨p1, p2⟩ := three_of hz3 j
        obtain ⟨_, p3⟩ := three_of hz3 (j + 1)
        rw [List.length_take, Nat.min_eq_left (by omega)] at p1
        rw [List.length_drop] at p2 p3
        have hD1 := ones_flat (l := es.drop (j + 1)) fun e he => hrow.ones e (List.mem_of_mem_drop he)
        have hef : es.flatten = (es.take j).flatten ++ ([.bool xu, .int .u32 xk, .slice ao9 xd.length ca9] ++ (es.drop (j + 1)).flatten) := by
         rw [flat_at es j, List.drop_eq_getElem_cons (by omega), List.flatten_cons, (List.getElem?_eq_some_iff.1 hcj1).2]
        rw [hef] at g2 g3 ⊢
        have hfin : ((es.take j ++ es.drop (j + 1)).flatten).length = (p.cells.length - 1) * 3 := by rw [hres, List.length_append, p1, p3]; omega
        rw [hres] at hfin
        generalize (es.take j).flatten = A at hres p1 g2 g3 hfin ⊢
        generalize (es.drop (j + 1)).flatten = D at hres p3 g2 g3 hfin hD1 ⊢
        generalize hrr : ([.bool xu, .int .u32 xk, .slice ao9 xd.length ca9] : List Value) = r at g2 g3 ⊢
        have hr3 : r.length = 3 := by rw [← hrr]; rfl
        obtain ⟨E1, E2, hE1, hE2, hE⟩ : ∃ E1 E2 : List Value, E1.length = D.length ∧ E2.length = 3 ∧ r ++ D = E1 ++ E2 := ⟨(r ++ D).take D.length, (r ++ D).drop D.length, by rw [List.length_take, List.length_append]; omega, by rw [List.length_drop, List.length_append]; omega, (List.take_append_drop _ _).symm⟩
        have e1 : A ++ (r ++ D) ++ sp = A ++ E1 ++ (E2 ++ sp) := by rw [hE]; simp
        have e2 : A ++ E1 ++ (E2 ++ sp) = (A ++ r) ++ D ++ sp := by rw [← e1]; simp
        rw [e1]
        (repeat' (first | refine X.rq ?_ | (refine X.rc ?_ ?_ <;> intro hc <;> first | (exfalso; omega) | skip)))
        by_cases hlast : j + 1 = p.cells.length
        ·have hD0 : D = [] := List.eq_nil_of_length_eq_zero (by omega)
         subst hD0
         have hE10 : E1 = [] := List.eq_nil_of_length_eq_zero hE1
         subst hE10
         refine X.draw ([blk B2 50 (cP p (bufV (some b) p.cells.length cap))]) [11] (.pu 0 (.pu 2 (.pu 4 (.pu 6 (.pu 7 (.st 1 (.pu 3 (.st 5 (.pu 8 (.on 9 (.pu 10 (.cl 11 .nil)))))))))))) ?_
         refine K.d_pu rfl (fun _ _ => X.fa) rfl ?_
         refine K.d_pu rfl (fun _ _ => X.mv) rfl ?_
         refine K.d_pu rfl (fun _ _ => X.fa) rfl ?_
         refine K.d_pu rfl (fun _ _ => X.mv) rfl ?_
         refine K.d_pu rfl (fun _ _ => X.badd) rfl ?_
         refine K.d_st rfl X.ld rfl ?_
         refine K.d_pu rfl (fun _ _ => K.p_slice (k1 := .i64) (k2 := .i64) (l := 0) (u := j) (ao := some ⟨b, 0, none⟩) (Fx.und rfl) (Fx.sz rfl) rfl rfl ⟨_, rfl, rfl⟩ (by omega) (by omega) (by split <;> simp)) rfl ?_
         rw [Nat.sub_zero, Nat.sub_zero]
         refine K.d_st rfl X.ld rfl ?_
         refine K.d_pu rfl (fun _ _ => K.p_slice (k1 := .i64) (k2 := .i64) (l := j + 1) (u := p.cells.length) (ao := if cap = j + 1 then some ⟨b, 0, none⟩ else some ⟨b, 0 + (j + 1) * 3, none⟩) (Fx.und rfl) (Fx.sz rfl) rfl ⟨_, rfl, by omega⟩ rfl (by omega) (by omega) rfl) rfl ?_
         rw [show p.cells.length - (j + 1) = 0 by omega]
         refine K.d_on rfl (fun KK hKK => ?_)
         refine K.l_appendRoom (m := 0) (xs := []) (Fx.und rfl) (Fx.und rfl) rfl (Fx.sz rfl) rfl rfl K.src_empty (by omega) rfl (by omega) (fun o ho => g6 o (by rw [List.length_nil] at ho; omega)) rfl ?_
         rw [show j + 0 = p.cells.length - 1 by omega]
         refine K.l_nil ?_
         refine X.onE hKK ?_
         refine K.d_pu rfl (fun _ _ => X.fa) rfl ?_
         refine K.d_cl rfl (fun KK hKK => ?_)
         refine X.sto ?_
         refine K.l_nil ?_
         refine K.d_clE hKK ?_
         refine K.d_nil ?_
         (repeat' (first | refine X.rq ?_ | (refine X.rc ?_ ?_ <;> intro hc <;> first | (exfalso; omega) | skip)))
         refine X.stw ?_
         simp only [List.set_cons_zero, List.set_cons_succ, List.eraseIdx_cons_zero, List.eraseIdx_cons_succ, List.cons_append, List.nil_append]
         (repeat' (first | refine X.rq ?_ | (refine X.rc ?_ ?_ <;> intro hc <;> first | (exfalso; omega) | skip)))
         rw [show A ++ [] ++ (E2 ++ sp) = A ++ (E2 ++ sp) by simp]
         refine K.AT.shut (s := 3) (m := p.cells.length - 1) (cap := cap) (by simpa using hfin) (by rw [← g3, e1]; simp) (by omega) g5 g6 ?_
         refine K.AT.perm (K.pp [1, 1, 1, 0] rfl) ?_
         simp only [List.set_cons_zero, List.set_cons_succ, List.eraseIdx_cons_zero, List.eraseIdx_cons_succ, List.cons_append, List.nil_append]
         refine K.doneC (by first | exact Or.inl rfl | exact Or.inr rfl) (.cell rfl (Fx.agg rfl) (Fx.sz rfl) (by first | exact K.cels_own (pre := []) (post := []) 0 rfl rfl | exact K.cels_own (pre := []) (post := []) 1 rfl rfl | exact K.cels_own (pre := []) (post := []) 2 rfl rfl | exact K.cels_own (pre := []) (post := []) 3 rfl rfl | exact K.cels_own (pre := []) (post := []) 4 rfl rfl | exact K.cels_own (pre := []) (post := []) 5 rfl rfl) (.tmp rfl .nil)) (by first | exact K.Base.le.refl _ | assumption) (vs := [.agg (cP p (bufV (some b) (p.cells.length - 1) cap)).toArray, .int .i64 0]) (D := [_, _, _]) (H' := [bufA 55 3 (some b) (p.cells.length - 1) cap (A)]) rfl ⟨le1, some b, cap, es.take j ++ es.drop (j + 1), ?_, hrow2, ?_⟩
         ·show _ = Value.tuple #[Value.agg (cP p (bufV (some b) (p.cells.take j ++ p.cells.drop (j + 1)).length cap)).toArray, _]
          rw [hfl]; rfl
         ·show _ = [bufA _ 3 (some b) (p.cells.take j ++ p.cells.drop (j + 1)).length cap _]
          rw [hfl, hres]
          rw [List.append_nil]
        ·refine X.draw ([blk B2 50 (cP p (bufV (some b) p.cells.length cap))]) [11] (.pu 0 (.pu 2 (.pu 4 (.pu 6 (.pu 7 (.st 1 (.pu 3 (.st 5 (.pu 8 (.on 9 (.pu 10 (.cl 11 .nil)))))))))))) ?_
         refine K.d_pu rfl (fun _ _ => X.fa) rfl ?_
         refine K.d_pu rfl (fun _ _ => X.mv) rfl ?_
         refine K.d_pu rfl (fun _ _ => X.fa) rfl ?_
         refine K.d_pu rfl (fun _ _ => X.mv) rfl ?_
         refine K.d_pu rfl (fun _ _ => X.badd) rfl ?_
         refine K.d_st rfl X.ld rfl ?_
         refine K.d_pu rfl (fun _ _ => K.p_slice (k1 := .i64) (k2 := .i64) (l := 0) (u := j) (ao := some ⟨b, 0, none⟩) (Fx.und rfl) (Fx.sz rfl) rfl rfl ⟨_, rfl, rfl⟩ (by omega) (by omega) (by split <;> simp)) rfl ?_
         rw [Nat.sub_zero, Nat.sub_zero]
         refine K.d_st rfl X.ld rfl ?_
         refine K.d_pu rfl (fun _ _ => K.p_slice (k1 := .i64) (k2 := .i64) (l := j + 1) (u := p.cells.length) (ao := some ⟨b, 0 + (j + 1) * 3, none⟩) (Fx.und rfl) (Fx.sz rfl) rfl ⟨_, rfl, by omega⟩ rfl (by omega) (by omega) (by rw [if_neg (by omega)])) rfl ?_
         refine K.d_on rfl (fun KK hKK => ?_)
         refine K.l_appendRoom (m := p.cells.length - (j + 1)) (xs := D) (Fx.und rfl) (Fx.und rfl) rfl (Fx.sz rfl) rfl rfl (K.src_cells (K.cels_own (pre := A ++ r) (cs := D) (post := sp) 0 (by rw [← e2]; rfl) (by rw [List.length_append]; omega)) (by omega) hD1) (by omega) (by omega) (by omega) (fun o ho => g6 o (by omega)) rfl ?_
         rw [show j + (p.cells.length - (j + 1)) = p.cells.length - 1 by omega]
         refine K.l_nil ?_
         refine X.onE hKK ?_
         refine K.d_pu rfl (fun _ _ => X.fa) rfl ?_
         refine K.d_cl rfl (fun KK hKK => ?_)
         refine X.sto ?_
         refine K.l_nil ?_
         refine K.d_clE hKK ?_
         refine K.d_nil ?_
         (repeat' (first | refine X.rq ?_ | (refine X.rc ?_ ?_ <;> intro hc <;> first | (exfalso; omega) | skip)))
         refine X.stw ?_
         simp only [List.set_cons_zero, List.set_cons_succ, List.eraseIdx_cons_zero, List.eraseIdx_cons_succ, List.cons_append, List.nil_append]
         (repeat' (first | refine X.rq ?_ | (refine X.rc ?_ ?_ <;> intro hc <;> first | (exfalso; omega) | skip)))
         refine K.AT.shut (s := 3) (m := p.cells.length - 1) (cap := cap) (by simpa using hfin) (by rw [← g3, e1]; simp only [List.length_append, hE1]) (by omega) g5 g6 ?_
         refine K.AT.perm (K.pp [1, 1, 1, 0] rfl) ?_
         simp only [List.set_cons_zero, List.set_cons_succ, List.eraseIdx_cons_zero, List.eraseIdx_cons_succ, List.cons_append, List.nil_append]
         refine K.doneC (by first | exact Or.inl rfl | exact Or.inr rfl) (.cell rfl (Fx.agg rfl) (Fx.sz rfl) (by first | exact K.cels_own (pre := []) (post := []) 0 rfl rfl | exact K.cels_own (pre := []) (post := []) 1 rfl rfl | exact K.cels_own (pre := []) (post := []) 2 rfl rfl | exact K.cels_own (pre := []) (post := []) 3 rfl rfl | exact K.cels_own (pre := []) (post := []) 4 rfl rfl | exact K.cels_own (pre := []) (post := []) 5 rfl rfl) (.tmp rfl .nil)) (by first | exact K.Base.le.refl _ | assumption) (vs := [.agg (cP p (bufV (some b) (p.cells.length - 1) cap)).toArray, .int .i64 0]) (D := [_, _, _]) (H' := [bufA 55 3 (some b) (p.cells.length - 1) cap (A ++ D)]) rfl ⟨le1, some b, cap, es.take j ++ es.drop (j + 1), ?_, hrow2, ?_⟩
         ·show _ = Value.tuple #[Value.agg (cP p (bufV (some b) (p.cells.take j ++ p.cells.drop (j + 1)).length cap)).toArray, _]
          rw [hfl]; rfl
         ·show _ = [bufA _ 3 (some b) (p.cells.take j ++ p.cells.drop (j + 1)).length cap _]
          rw [hfl, hres]
       ·have hp1 : ¬ p.kind = 2 := hp2
        (repeat' (first | refine X.rq ?_ | (refine X.rc ?_ ?_ <;> intro hc <;> first | (exfalso; omega) | skip)))
        refine K.l_storeRow (s := 3) (i := j) (us := zrow) (Fx.sz rfl) (by show some (Value.pointer (some ⟨b, 0 + ((j : Nat) : Int).toNat * 3, none⟩)) = _; rw [Nat.zero_add]; rfl) rfl rfl hz3 rfl (by omega) (fun o ho => g6 o (by omega)) ?_
        obtain ⟨m, hmm⟩ : ∃ m, m = p.cells.set j ⟨false, 0, []⟩ := ⟨_, rfl⟩
        obtain ⟨e2, he2⟩ : ∃ e2, e2 = es.set j zrow := ⟨_, rfl⟩
        have hml : m.length = p.cells.length := by rw [hmm, List.length_set]
        have hfr : freeC p.kind p.cells j = m.take (trimN m p.cells.length) := by rw [freeC, if_neg hp1, hmm]
        have hrow2 : RowC h1 e2 m := by rw [hmm, he2]; exact hrow.set j (cell_z h1)
        rw [← he2]
        clear hmm he2
        (repeat' (first | refine X.rq ?_ | (refine X.rc ?_ ?_ <;> intro hc <;> first | (exfalso; omega) | skip)))
        refine K.c_loop (σ := Nat) (fun n => [(2, .pointer (some ⟨B2, 0, none⟩)), (4, .pointer (some ⟨B4, 0, none⟩))]) (fun _ => h1)
         (fun n => blkF b 55 (e2.flatten ++ sp) fz :: blk B4 50 (cP zP (.slice none 0 0)) :: blk B3 61 (cO o (.slice ao4 o.data.length ca4)) :: blk B2 50 (cP p (bufV (some b) n cap)) :: F)
         (fun n => n ≤ p.cells.length ∧ trimN m p.cells.length = trimN m n) (fun n => n) p.cells.length ⟨Nat.le_refl _, rfl⟩ (by repeat (first | exact K.Sub.nil _ | refine K.Sub.cons rfl ?_)) rfl rfl ?_
        rintro n ⟨hn, hnt⟩ KL hKL
        by_cases hn0 : n = 0
        ·subst hn0
         have hn2 : trimN m p.cells.length = 0 := hnt
         (repeat' (first | refine X.rq ?_ | (refine X.rc ?_ ?_ <;> intro hc <;> first | (exfalso; omega) | skip)))
         refine X.stw ?_
         simp only [List.set_cons_zero, List.set_cons_succ, List.eraseIdx_cons_zero, List.eraseIdx_cons_succ, List.cons_append, List.nil_append]
         (repeat' (first | refine X.rq ?_ | (refine X.rc ?_ ?_ <;> intro hc <;> first | (exfalso; omega) | skip)))
         all_goals
          have hlj : (m.take 0).length = 0 := by rw [List.length_take]; omega
          have hsplit : e2.flatten ++ sp = (e2.take 0).flatten ++ ((e2.drop 0).flatten ++ sp) := by rw [← List.append_assoc, ← List.flatten_append, List.take_append_drop]
          have hrow3 := hrow2.take 0
          have hlf : (e2.take 0).flatten.length = 0 * 3 := by rw [K.flatten_len _ hrow3.2.1, hrow3.1, hlj]
          have hlc : ((e2.take 0).flatten ++ ((e2.drop 0).flatten ++ sp)).length = cap * 3 := by rw [← hsplit, ← g3, List.length_append, List.length_append, g2, K.flatten_len _ hrow2.2.1, hrow2.1, hml]
          rw [hsplit]
          refine K.AT.shut (s := 3) (m := 0) (cap := cap) hlf hlc (by omega) g5 g6 ?_
          refine K.AT.perm (K.pp [1, 1, 1, 0] rfl) ?_
          simp only [List.set_cons_zero, List.set_cons_succ, List.eraseIdx_cons_zero, List.eraseIdx_cons_succ, List.cons_append, List.nil_append]
          refine K.doneC (by first | exact Or.inl rfl | exact Or.inr rfl) (.cell rfl (Fx.agg rfl) (Fx.sz rfl) (by first | exact K.cels_own (pre := []) (post := []) 0 rfl rfl | exact K.cels_own (pre := []) (post := []) 1 rfl rfl | exact K.cels_own (pre := []) (post := []) 2 rfl rfl | exact K.cels_own (pre := []) (post := []) 3 rfl rfl | exact K.cels_own (pre := []) (post := []) 4 rfl rfl | exact K.cels_own (pre := []) (post := []) 5 rfl rfl) (.tmp rfl .nil)) (by first | exact K.Base.le.refl _ | assumption) (vs := [.agg (cP p (bufV (some b) 0 cap)).toArray, .int .i64 0]) (D := [_, _, _]) (H' := [bufA 55 3 (some b) 0 cap (e2.take 0).flatten]) rfl ⟨le1, some b, cap, e2.take 0, ?_, ?_, ?_⟩
          ·show _ = Value.tuple #[Value.agg (cP p (bufV (some b) (freeC p.kind p.cells j).length cap)).toArray, _]
           rw [hfr, hn2, hlj]; rfl
          ·show RowC h1 _ (freeC p.kind p.cells j)
           rw [hfr, hn2]; exact hrow3
          ·show _ = [bufA _ 3 (some b) (freeC p.kind p.cells j).length cap _]
           rw [hfr, hn2, hlj]
        ·obtain ⟨k, rfl⟩ : ∃ k, n = k + 1 := ⟨n - 1, by omega⟩
         have hm1 : m[k]? = some (m[k]'(by omega)) := List.getElem?_eq_getElem (by omega)
         have hc2 : e2[k]? = some (e2[k]'(by rw [hrow2.1]; omega)) := List.getElem?_eq_getElem _
         generalize m[k]'(by omega) = y at hm1
         generalize e2[k]'(by rw [hrow2.1]; omega) = c at hc2
         obtain ⟨hkl2, hdl2, ao8, ca8, rfl, hbv2⟩ := hrow2.2.2 k c y hc2 hm1
         cases hu : y.used with
         | true =>
          have hn2 : trimN m p.cells.length = k + 1 := by rw [hnt]; exact trim_used hm1 hu
          (repeat' (first | refine X.rq ?_ | (refine X.rc ?_ ?_ <;> intro hc <;> first | (exfalso; omega) | skip)))
          refine K.s_pure (K.p_load (Fx.agg rfl) rfl (K.cel_row (s := 3) (i := k) (j := 0) (u := .bool true) 0 rfl hrow2.2.1 hc2 (by show some (Value.bool y.used) = _; rw [hu]) (by omega))) rfl ?_
          (repeat' (first | refine X.rq ?_ | (refine X.rc ?_ ?_ <;> intro hc <;> first | (exfalso; omega) | skip)))
          refine X.stw ?_
          simp only [List.set_cons_zero, List.set_cons_succ, List.eraseIdx_cons_zero, List.eraseIdx_cons_succ, List.cons_append, List.nil_append]
          (repeat' (first | refine X.rq ?_ | (refine X.rc ?_ ?_ <;> intro hc <;> first | (exfalso; omega) | skip)))
          have hlj : (m.take (k + 1)).length = (k + 1) := by rw [List.length_take]; omega
          have hsplit : e2.flatten ++ sp = (e2.take (k + 1)).flatten ++ ((e2.drop (k + 1)).flatten ++ sp) := by rw [← List.append_assoc, ← List.flatten_append, List.take_append_drop]
          have hrow3 := hrow2.take (k + 1)
          have hlf : (e2.take (k + 1)).flatten.length = (k + 1) * 3 := by rw [K.flatten_len _ hrow3.2.1, hrow3.1, hlj]
          have hlc : ((e2.take (k + 1)).flatten ++ ((e2.drop (k + 1)).flatten ++ sp)).length = cap * 3 := by rw [← hsplit, ← g3, List.length_append, List.length_append, g2, K.flatten_len _ hrow2.2.1, hrow2.1, hml]
          rw [hsplit]
          refine K.AT.shut (s := 3) (m := (k + 1)) (cap := cap) hlf hlc (by omega) g5 g6 ?_
          refine K.AT.perm (K.pp [1, 1, 1, 0] rfl) ?_
          simp only [List.set_cons_zero, List.set_cons_succ, List.eraseIdx_cons_zero, List.eraseIdx_cons_succ, List.cons_append, List.nil_append]
          refine K.doneC (by first | exact Or.inl rfl | exact Or.inr rfl) (.cell rfl (Fx.agg rfl) (Fx.sz rfl) (by first | exact K.cels_own (pre := []) (post := []) 0 rfl rfl | exact K.cels_own (pre := []) (post := []) 1 rfl rfl | exact K.cels_own (pre := []) (post := []) 2 rfl rfl | exact K.cels_own (pre := []) (post := []) 3 rfl rfl | exact K.cels_own (pre := []) (post := []) 4 rfl rfl | exact K.cels_own (pre := []) (post := []) 5 rfl rfl) (.tmp rfl .nil)) (by first | exact K.Base.le.refl _ | assumption) (vs := [.agg (cP p (bufV (some b) (k + 1) cap)).toArray, .int .i64 0]) (D := [_, _, _]) (H' := [bufA 55 3 (some b) (k + 1) cap (e2.take (k + 1)).flatten]) rfl ⟨le1, some b, cap, e2.take (k + 1), ?_, ?_, ?_⟩
          ·show _ = Value.tuple #[Value.agg (cP p (bufV (some b) (freeC p.kind p.cells j).length cap)).toArray, _]
           rw [hfr, hn2, hlj]; rfl
          ·show RowC h1 _ (freeC p.kind p.cells j)
           rw [hfr, hn2]; exact hrow3
          ·show _ = [bufA _ 3 (some b) (freeC p.kind p.cells j).length cap _]
           rw [hfr, hn2, hlj]
         | false =>
          have hn2 : trimN m p.cells.length = trimN m k := by rw [hnt]; exact trim_free hm1 hu
          (repeat' (first | refine X.rq ?_ | (refine X.rc ?_ ?_ <;> intro hc <;> first | (exfalso; omega) | skip)))
          refine K.s_pure (K.p_load (Fx.agg rfl) rfl (K.cel_row (s := 3) (i := k) (j := 0) (u := .bool false) 0 rfl hrow2.2.1 hc2 (by show some (Value.bool y.used) = _; rw [hu]) (by omega))) rfl ?_
          (repeat' (first | refine X.rq ?_ | (refine X.rc ?_ ?_ <;> intro hc <;> first | (exfalso; omega) | skip)))
          refine K.s_pure (K.p_slice (k1 := .i64) (k2 := .i64) (l := 0) (u := k) (ao := some ⟨b, 0, none⟩) (Fx.und rfl) (Fx.sz rfl) rfl rfl ⟨_, rfl, by omega⟩ (by omega) (by omega) (by split <;> simp)) rfl ?_
          rw [Nat.sub_zero, Nat.sub_zero]
          (repeat' (first | refine X.rq ?_ | (refine X.rc ?_ ?_ <;> intro hc <;> first | (exfalso; omega) | skip)))
          refine X.sto ?_
          simp only [List.set_cons_zero, List.set_cons_succ, List.eraseIdx_cons_zero, List.eraseIdx_cons_succ, List.cons_append, List.nil_append]
          (repeat' (first | refine X.rq ?_ | (refine X.rc ?_ ?_ <;> intro hc <;> first | (exfalso; omega) | skip)))
          refine K.a_round hKL k ⟨by omega, hn2⟩ (by repeat (first | exact K.Sub.nil _ | refine K.Sub.cons rfl ?_)) rfl rfl (by omega)
  ·rw [decide_eq_false hri]
   have hres : doQ p o = (zP, 1) := by rw [doQ, if_neg (by rw [hm]; decide), if_pos hri]
   rw [hres]
   (repeat' (first | refine X.rq ?_ | (refine X.rc ?_ ?_ <;> intro hc <;> first | (exfalso; omega) | skip)))
   refine X.stw ?_
   simp only [List.set_cons_zero, List.set_cons_succ, List.eraseIdx_cons_zero, List.eraseIdx_cons_succ, List.cons_append, List.nil_append]
   (repeat' (first | refine X.rq ?_ | (refine X.rc ?_ ?_ <;> intro hc <;> first | (exfalso; omega) | skip)))
   refine K.AT.nilBuf 55 3 ?_
   refine K.AT.perm (K.pp [1, 1, 1, 0] rfl) ?_
   simp only [List.set_cons_zero, List.set_cons_succ, List.eraseIdx_cons_zero, List.eraseIdx_cons_succ, List.cons_append, List.nil_append]
   refine K.doneC (by first | exact Or.inl rfl | exact Or.inr rfl) (.cell rfl (Fx.agg rfl) (Fx.sz rfl) (by first | exact K.cels_own (pre := []) (post := []) 0 rfl rfl | exact K.cels_own (pre := []) (post := []) 1 rfl rfl | exact K.cels_own (pre := []) (post := []) 2 rfl rfl | exact K.cels_own (pre := []) (post := []) 3 rfl rfl | exact K.cels_own (pre := []) (post := []) 4 rfl rfl | exact K.cels_own (pre := []) (post := []) 5 rfl rfl) (.tmp rfl .nil)) (by first | exact K.Base.le.refl _ | assumption) (vs := [.agg (cP zP (bufV none 0 0)).toArray, .int .i64 1]) (D := [_, _, _]) (H' := [bufA 55 3 none 0 0 []]) rfl ⟨hleh, none, 0, [], rfl, ⟨rfl, fun e he => (by cases he), fun j c x hj => (by cases hj)⟩, rfl⟩
end Go.Proofs.YtkdngpiiecmpgaaGreat.Pg
