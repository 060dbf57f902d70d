/-
 Records in the document: whether two are one, but for their LSN; a copy. Conditions: each theorem's own.
-/
import Derived.Test.YtkdngpiiecmpgaaGreatQ11
import Derived.Test.YtkdngpiiecmpgaaGreatQ9
namespace Go.Proofs.YtkdngpiiecmpgaaGreat.Rc
open Go Go.K Go.Proofs Go.Proofs.YtkdngpiiecmpgaaGreat Go.Proofs.YtkdngpiiecmpgaaGreat.Pg
set_option linter.unusedVariables false
set_option linter.unusedSimpArgs false
set_option maxRecDepth 10000

theorem ImgsV.nil {h : Base} : ImgsV h (.slice none 0 0) [] := ⟨[], .inl ⟨_, _, rfl, rfl⟩, rfl, fun j c x h1 => by simp at h1⟩
theorem SL.nil {h : Base} {sz : Nat} : SL h sz (.slice none 0 0) [] := .inl ⟨_, _, rfl, rfl⟩
def RowsG {α : Type} (R : List Value → α → Prop) (es : List (List Value)) (l : List α) : Prop := es.length = l.length ∧ ∀ (j : Nat) c x, es[j]? = some c → l[j]? = some x → R c x
theorem RowsG.mono {α : Type} {R R' : List Value → α → Prop} (hR : ∀ c x, R c x → R' c x) {es : List (List Value)} {l : List α} (hr : RowsG R es l) : RowsG R' es l := ⟨hr.1, fun j c x a b => hR _ _ (hr.2 j c x a b)⟩
theorem RowsG.push {α : Type} {R : List Value → α → Prop} {es : List (List Value)} {l : List α} (hr : RowsG R es l) {c : List Value} {x : α} (hc : R c x) : RowsG R (es ++ [c]) (l ++ [x]) := by
 refine ⟨by rw [List.length_append, List.length_append, hr.1]; rfl, fun j c' x' h1 h2 => ?_⟩
 by_cases hj : j < es.length
 ·rw [List.getElem?_append_left hj] at h1
  rw [List.getElem?_append_left (by rw [← hr.1]; exact hj)] at h2
  exact hr.2 j c' x' h1 h2
 ·rw [List.getElem?_append_right (by omega)] at h1
  rw [List.getElem?_append_right (by rw [← hr.1]; omega)] at h2
  have h0 : j - es.length = 0 := by
   have := (List.getElem?_eq_some_iff.1 h1).1
   simp only [List.length_singleton] at this
   omega
  rw [h0] at h1
  rw [← hr.1, h0] at h2
  cases h1; cases h2
  exact hc
theorem RowsG.sz {α : Type} {R : List Value → α → Prop} {n : Nat} (hn : ∀ c x, R c x → c.length = n) {es : List (List Value)} {l : List α} (hr : RowsG R es l) : ∀ e ∈ es, e.length = n := fun e he => by
 obtain ⟨i, hi, rfl⟩ := List.mem_iff_getElem.1 he
 exact hn _ _ (hr.2 i es[i] (l[i]'(by rw [← hr.1]; exact hi)) (List.getElem?_eq_getElem hi) (List.getElem?_eq_getElem (by rw [← hr.1]; exact hi)))
theorem RowsG.map {α : Type} {R : List Value → α → Prop} {f : α → List Value} (hf : ∀ c x, R c x → c = f x) {es : List (List Value)} {l : List α} (hr : RowsG R es l) : es = l.map f := by
 refine List.ext_getElem (by rw [List.length_map]; exact hr.1) fun i h1 h2 => ?_
 rw [List.getElem_map]
 exact hf _ _ (hr.2 i es[i] (l[i]'(by rw [← hr.1]; exact h1)) (List.getElem?_eq_getElem h1) (List.getElem?_eq_getElem (by rw [← hr.1]; exact h1)))
theorem RowsG.all {α : Type} {R : List Value → α → Prop} {S : α → Prop} (hS : ∀ c x, R c x → S x) {es : List (List Value)} {l : List α} (hr : RowsG R es l) : ∀ x ∈ l, S x := fun x hx => by
 obtain ⟨i, hi, rfl⟩ := List.mem_iff_getElem.1 hx
 exact hS _ _ (hr.2 i (es[i]'(by rw [hr.1]; exact hi)) l[i] (List.getElem?_eq_getElem (by rw [hr.1]; exact hi)) (List.getElem?_eq_getElem hi))
theorem RowsG.nil {α : Type} {R : List Value → α → Prop} : RowsG R [] [] := ⟨rfl, fun j c x h => by simp at h⟩
theorem recC_of {h : Base} {r : Recd} {ad ai al ay : Option Addr} {cd ci cl cy : Nat} (hw : wfR r) (hb : BV h (.slice ad r.op.data.length cd) r.op.data) (hi : ImgsV h (.slice ai r.images.length ci) r.images) (hl : SL h 4 (.slice al r.lives.length cl) (r.lives.map cL)) (hd : SL h 2 (.slice ay r.dirty.length cy) (r.dirty.map cD)) :
  RecC h (cR r (.slice ad r.op.data.length cd) (.slice ai r.images.length ci) (.slice al r.lives.length cl) (.slice ay r.dirty.length cy)) r := ⟨hw, ad, cd, _, _, _, rfl, hb, hi, hl, hd⟩
def zR : Recd := ⟨0, 0, 0, 0, 0, 0, 0, zO, [], [], [], 0⟩
def z0 (r : Recd) : Recd := { r with lsn := 0 }
theorem img_eq (x y : PImg) : x = y ↔ x.page = y.page ∧ x.to = y.to := by
 obtain ⟨a, b⟩ := x
 obtain ⟨a2, b2⟩ := y
 simp
theorem live_eq (x y : PLive) : x = y ↔ x.txn = y.txn ∧ x.last = y.last ∧ x.undo = y.undo ∧ x.lost = y.lost := by
 obtain ⟨a, b, c, d⟩ := x
 obtain ⟨a2, b2, c2, d2⟩ := y
 simp
theorem dirt_eq (x y : PDirty) : x = y ↔ x.page = y.page ∧ x.frm = y.frm := by
 obtain ⟨a, b⟩ := x
 obtain ⟨a2, b2⟩ := y
 simp
theorem z0_eq (r s : Recd) : z0 r = z0 s ↔ r.kind = s.kind ∧ r.txn = s.txn ∧ r.prev = s.prev ∧ r.undo = s.undo ∧ r.page = s.page ∧ r.root = s.root ∧ r.next = s.next ∧ r.op = s.op ∧ r.images = s.images ∧ r.lives = s.lives ∧ r.dirty = s.dirty := by
 obtain ⟨a1, a2, a3, a4, a5, a6, a7, a8, a9, a10, a11, a12⟩ := r
 obtain ⟨b1, b2, b3, b4, b5, b6, b7, b8, b9, b10, b11, b12⟩ := s
 show Recd.mk .. = Recd.mk .. ↔ _
 rw [Recd.mk.injEq]
 dsimp only
 constructor
 ·rintro ⟨e1, _, e2, e3, e4, e5, e6, e7, e8, e9, e10, e11⟩
  exact ⟨e1, e2, e3, e4, e5, e6, e11, e7, e8, e9, e10⟩
 ·rintro ⟨e1, e2, e3, e4, e5, e6, e11, e7, e8, e9, e10⟩
  exact ⟨e1, rfl, e2, e3, e4, e5, e6, e7, e8, e9, e10, e11⟩
theorem leafL (x y : PLive) : leafs [.int .u32, .int .u64, .int .u64, .bool] (Rc.cL x) (Rc.cL y) = some (decide (x = y)) := by
 have h1 : ((x.txn : Int) = y.txn) = (x.txn = y.txn) := by rw [eq_iff_iff]; omega
 have h2 : ((x.last : Int) = y.last) = (x.last = y.last) := by rw [eq_iff_iff]; omega
 have h3 : ((x.undo : Int) = y.undo) = (x.undo = y.undo) := by rw [eq_iff_iff]; omega
 have h4 : decide (x = y) = decide (x.txn = y.txn ∧ x.last = y.last ∧ x.undo = y.undo ∧ x.lost = y.lost) := by rw [decide_eq_decide]; exact live_eq x y
 rw [h4]
 simp [leafs, leafV, Rc.cL, h1, h2, h3]
theorem leafD (x y : PDirty) : leafs [.int .u32, .int .u64] (Rc.cD x) (Rc.cD y) = some (decide (x = y)) := by
 have h1 : ((x.page : Int) = y.page) = (x.page = y.page) := by rw [eq_iff_iff]; omega
 have h2 : ((x.frm : Int) = y.frm) = (x.frm = y.frm) := by rw [eq_iff_iff]; omega
 have h4 : decide (x = y) = decide (x.page = y.page ∧ x.frm = y.frm) := by rw [decide_eq_decide]; exact dirt_eq x y
 rw [h4]
 simp [leafs, leafV, Rc.cD, h1, h2]
set_option maxHeartbeats 8000000 in
theorem SameR (h : Base) (cs ds : List Value) (r s : Recd) (hx : RecC h cs r) (hy : RecC h ds s) : TrV Tryz.prog 38 [.agg cs.toArray, .agg ds.toArray] h [] (.bool (decide (z0 r = z0 s))) [] := by
 obtain ⟨hw, ad, ai, al, ay, cd, ci, cl, cy, rfl, hb, ⟨es, hi1, hi2, hi3⟩, hl4, hd2⟩ := hx.cells
 obtain ⟨gw, bd, bi, bl, by_, dd, di, dl, dy, rfl, gb, ⟨fs, gi1, gi2, gi3⟩, gl4, gd2⟩ := hy.cells
 have w1 := hw.images
 have w2 := hw.lives
 have w3 := hw.dirty
 have w4 := gw.images
 have w5 := gw.lives
 have w6 := gw.dirty
 have hsame := SameO h (cO r.op (.slice ad r.op.data.length cd)) (cO s.op (.slice bd s.op.data.length dd)) r.op s.op ⟨hw.op, _, _, rfl, hb⟩ ⟨gw.op, _, _, rfl, gb⟩
 have hno : ∀ _ : Unit, ¬ (r.kind = s.kind ∧ r.txn = s.txn ∧ r.prev = s.prev ∧ r.undo = s.undo ∧ r.page = s.page ∧ r.root = s.root ∧ r.next = s.next ∧ r.op = s.op) → decide (z0 r = z0 s) = false := fun _ hn => decide_eq_false fun e => by
  obtain ⟨e1, e2, e3, e4, e5, e6, e11, e7, _⟩ := (z0_eq r s).1 e
  exact hn ⟨e1, e2, e3, e4, e5, e6, e11, e7⟩
 have hno2 : ∀ _ : Unit, ¬ (r.images.length = s.images.length ∧ r.lives.length = s.lives.length ∧ r.dirty.length = s.dirty.length) → decide (z0 r = z0 s) = false := fun _ hn => decide_eq_false fun e => by
  obtain ⟨_, _, _, _, _, _, _, _, e8, e9, e10⟩ := (z0_eq r s).1 e
  exact hn ⟨by rw [e8], by rw [e9], by rw [e10]⟩
 have hno3 : ∀ _ : Unit, (∃ i : Nat, r.images[i]? ≠ s.images[i]? ∨ r.lives[i]? ≠ s.lives[i]? ∨ r.dirty[i]? ≠ s.dirty[i]?) → decide (z0 r = z0 s) = false := fun _ ⟨i, hn⟩ => decide_eq_false fun e => by
  obtain ⟨_, _, _, _, _, _, _, _, e8, e9, e10⟩ := (z0_eq r s).1 e
  rw [e8, e9, e10] at hn
  rcases hn with hn | hn | hn <;> exact hn rfl
 clear hx hy hw gw hb gb
 refine K.enter Tryz.func38 rfl (Nat.le_of_ble_eq_true rfl) (fun F => ?_)
 simp only [List.nil_append]
 (repeat' (first | refine X.rq ?_ | (refine X.rc ?_ ?_ <;> intro hc <;> first | (exfalso; omega) | skip)))
 refine K.l_box rfl rfl rfl (fun B1 => ?_)
 refine K.l_box rfl rfl rfl (fun B2 => ?_)
 by_cases hn1 : r.kind = s.kind ∧ r.txn = s.txn ∧ r.prev = s.prev ∧ r.undo = s.undo ∧ r.page = s.page ∧ r.root = s.root ∧ r.next = s.next
 ·have hn1' := fun (_ : Unit) => hn1
  obtain ⟨n1, n2, n3, n4, n5, n6, n7⟩ := hn1
  (repeat' (first | refine X.rq ?_ | (refine X.rc ?_ ?_ <;> intro hc <;> first | (exfalso; omega) | skip)))
  refine K.s_pure (K.p_loadM (Fx.agg rfl) rfl (K.cels_own (pre := [.int .i64 r.kind, .int .u64 r.lsn, .int .u32 r.txn, .int .u64 r.prev, .int .u64 r.undo, .int .u32 r.page, .int .u32 r.root]) (cs := cO r.op (.slice ad r.op.data.length cd)) (post := [.slice ai r.images.length ci, .slice al r.lives.length cl, .slice ay r.dirty.length cy, .int .u32 r.next]) 1 rfl rfl) (Fx.sz rfl) rfl) rfl ?_
  (repeat' (first | refine X.rq ?_ | (refine X.rc ?_ ?_ <;> intro hc <;> first | (exfalso; omega) | skip)))
  refine K.s_pure (K.p_loadM (Fx.agg rfl) rfl (K.cels_own (pre := [.int .i64 s.kind, .int .u64 s.lsn, .int .u32 s.txn, .int .u64 s.prev, .int .u64 s.undo, .int .u32 s.page, .int .u32 s.root]) (cs := cO s.op (.slice bd s.op.data.length dd)) (post := [.slice bi s.images.length di, .slice bl s.lives.length dl, .slice by_ s.dirty.length dy, .int .u32 s.next]) 0 rfl rfl) (Fx.sz rfl) rfl) rfl ?_
  refine K.s_take rfl rfl ?_
  refine K.l_callV (Fx.cal rfl) rfl hsame (K.pp [] rfl) rfl rfl ?_
  simp only [List.nil_append]
  by_cases hope : r.op = s.op
  ·rw [decide_eq_true hope]
   (repeat' (first | refine X.rq ?_ | (refine X.rc ?_ ?_ <;> intro hc <;> first | (exfalso; omega) | skip)))
   ·have hn := hno2 () (fun e => by omega)
    refine K.AT.sel [0, 0] rfl ?_
    refine K.done (by first | exact Or.inl rfl | exact Or.inr rfl) rfl (by first | exact K.Base.le.refl _ | assumption) (H' := []) rfl ⟨?_, rfl, rfl⟩
    rw [hn]; rfl
   ·have hn := hno2 () (fun e => by omega)
    refine K.AT.sel [0, 0] rfl ?_
    refine K.done (by first | exact Or.inl rfl | exact Or.inr rfl) rfl (by first | exact K.Base.le.refl _ | assumption) (H' := []) rfl ⟨?_, rfl, rfl⟩
    rw [hn]; rfl
   ·have hn := hno2 () (fun e => by omega)
    refine K.AT.sel [0, 0] rfl ?_
    refine K.done (by first | exact Or.inl rfl | exact Or.inr rfl) rfl (by first | exact K.Base.le.refl _ | assumption) (H' := []) rfl ⟨?_, rfl, rfl⟩
    rw [hn]; rfl
   ·have n8 : r.images.length = s.images.length := by omega
    have n9 : r.lives.length = s.lives.length := by omega
    have n10 : r.dirty.length = s.dirty.length := by omega
    refine K.c_loop (σ := Nat) (fun j => [(2, .pointer (some ⟨B1, 0, none⟩)), (3, .pointer (some ⟨B2, 0, none⟩)), (5, .int .i64 j)]) (fun _ => h) (fun _ => blk B2 63 (cR s (.slice bd s.op.data.length dd) (.slice bi s.images.length di) (.slice bl s.lives.length dl) (.slice by_ s.dirty.length dy)) :: blk B1 63 (cR r (.slice ad r.op.data.length cd) (.slice ai r.images.length ci) (.slice al r.lives.length cl) (.slice ay r.dirty.length cy)) :: F)
     (fun j => j ≤ r.images.length ∧ ∀ _ : Unit, ∀ i, i < j → r.images[i]? = s.images[i]?) (fun j => r.images.length - j) 0 ⟨Nat.zero_le _, fun _ i hi => by omega⟩ (by repeat (first | exact K.Sub.nil _ | refine K.Sub.cons rfl ?_)) rfl rfl ?_
    rintro j ⟨hj, hsm1⟩ KL hKL
    by_cases hjl : j < r.images.length
    ·have hc1 : es[j]? = some (es[j]'(by omega)) := List.getElem?_eq_getElem (by omega)
     have hc0 : es[((j : Nat) : Int).toNat]? = some (es[j]'(by omega)) := by rw [Int.toNat_natCast]; exact hc1
     have hx1 : r.images[j]? = some (r.images[j]'(by omega)) := List.getElem?_eq_getElem (by omega)
     have hd1 : fs[j]? = some (fs[j]'(by omega)) := List.getElem?_eq_getElem (by omega)
     have hd0 : fs[((j : Nat) : Int).toNat]? = some (fs[j]'(by omega)) := by rw [Int.toNat_natCast]; exact hd1
     have hy1 : s.images[j]? = some (s.images[j]'(by omega)) := List.getElem?_eq_getElem (by omega)
     generalize es[j]'(by omega) = c at hc0 hc1
     generalize r.images[j]'(by omega) = x at hx1
     generalize fs[j]'(by omega) = c2 at hd0 hd1
     generalize s.images[j]'(by omega) = y at hy1
     obtain ⟨hpx, cx, rfl, hpcx⟩ := hi3 j c x hc1 hx1
     obtain ⟨hpy, cy2, rfl, hpcy⟩ := gi3 j c2 y hd1 hy1
     have hsp := SameP h cx cy2 x.to y.to hpcx hpcy
     have hlx : cx.length = 4 := by obtain ⟨_, _, e, _⟩ := hpcx; rw [e]; rfl
     have hly : cy2.length = 4 := by obtain ⟨_, _, e, _⟩ := hpcy; rw [e]; rfl
     clear hpcx hpcy
     have hnoxy : ∀ _ : Unit, x ≠ y → decide (z0 r = z0 s) = false := fun _ hxy => hno3 () ⟨j, .inl (fun e => hxy (by rw [hx1, hy1] at e; cases e; rfl))⟩
     have hgo : ∀ _ : Unit, x = y → ∀ i, i < j + 1 → r.images[i]? = s.images[i]? := fun _ hxy i hi => by
      by_cases hij : i < j
      ·exact hsm1 () i hij
      ·obtain rfl : i = j := by omega
       rw [hx1, hy1, hxy]
     have hxe := fun (_ : Unit) => img_eq x y
     by_cases hpe : x.page = y.page
     ·(repeat' (first | refine X.rq ?_ | (refine X.rc ?_ ?_ <;> intro hc <;> first | (exfalso; omega) | skip)))
      refine X.draw ([blk B2 63 (cR s (.slice bd s.op.data.length dd) (.slice bi s.images.length di) (.slice bl s.lives.length dl) (.slice by_ s.dirty.length dy)), blk B1 63 (cR r (.slice ad r.op.data.length cd) (.slice ai r.images.length ci) (.slice al r.lives.length cl) (.slice ay r.dirty.length cy))]) [] (.pu 0 (.pu 2 (.pu 6 (.pu 8 (.st 1 (.st 3 (.pu 4 (.st 5 (.st 7 (.st 9 (.pu 10 (.st 11 (.pu 12 (.pu 13 (.pu 14 (.pu 16 (.pu 20 (.pu 22 (.st 15 (.st 17 (.pu 18 (.st 19 (.st 21 (.st 23 (.pu 24 (.st 25 (.on 26 (.pu 27 (.pu 28 .nil))))))))))))))))))))))))))))) ?_
      refine K.d_pu rfl (fun _ _ => X.fa) rfl ?_
      refine K.d_pu rfl (fun _ _ => X.mv) rfl ?_
      refine K.d_pu rfl (fun _ _ => X.fa) rfl ?_
      refine K.d_pu rfl (fun _ _ => X.mv) rfl ?_
      refine K.d_st rfl X.ld rfl ?_
      refine K.d_stE rfl (K.p_indexL hi1 (Fx.und rfl) (Fx.sz rfl) rfl rfl (by omega) hc0) rfl ?_
      rintro v3 ⟨b3, o3, rfl, hcel3⟩
      refine K.d_pu rfl (fun _ _ => X.fa) rfl ?_
      refine K.d_st rfl (K.p_load (Fx.agg rfl) rfl (K.Cel.up hcel3.1)) rfl ?_
      refine K.d_st rfl X.ld rfl ?_
      refine K.d_stE rfl (K.p_indexL gi1 (Fx.und rfl) (Fx.sz rfl) rfl rfl (by omega) hd0) rfl ?_
      rintro v4 ⟨b4, o4, rfl, hcel4⟩
      refine K.d_pu rfl (fun _ _ => X.fa) rfl ?_
      refine K.d_st rfl (K.p_load (Fx.agg rfl) rfl (K.Cel.up hcel4.1)) rfl ?_
      refine K.d_pu rfl (fun _ _ => X.bneq) rfl ?_
      rw [show decide ((x.page : Int) ≠ y.page) = false from decide_eq_false (by omega)]
      refine K.d_pu rfl (fun _ _ => X.mv) rfl ?_
      first | refine K.d_skip rfl rfl rfl rfl ?_ | refine K.d_skipU rfl rfl rfl rfl rfl ?_ | refine K.d_puG rfl rfl rfl (fun _ _ => X.fa) rfl ?_
      first | refine K.d_skip rfl rfl rfl rfl ?_ | refine K.d_skipU rfl rfl rfl rfl rfl ?_ | refine K.d_puG rfl rfl rfl (fun _ _ => X.mv) rfl ?_
      first | refine K.d_skip rfl rfl rfl rfl ?_ | refine K.d_skipU rfl rfl rfl rfl rfl ?_ | refine K.d_puG rfl rfl rfl (fun _ _ => X.fa) rfl ?_
      first | refine K.d_skip rfl rfl rfl rfl ?_ | refine K.d_skipU rfl rfl rfl rfl rfl ?_ | refine K.d_puG rfl rfl rfl (fun _ _ => X.mv) rfl ?_
      first | refine K.d_skipS rfl rfl rfl rfl ?_ | refine K.d_skipUS rfl rfl rfl rfl rfl ?_ | refine K.d_stG rfl rfl rfl X.ld rfl ?_
      refine K.d_stGE rfl rfl rfl (K.p_indexL hi1 (Fx.und rfl) (Fx.sz rfl) rfl rfl (by omega) hc0) rfl ?_
      rintro v5 ⟨b5, o5, rfl, hcel5⟩
      first | refine K.d_skip rfl rfl rfl rfl ?_ | refine K.d_skipU rfl rfl rfl rfl rfl ?_ | refine K.d_puG rfl rfl rfl (fun _ _ => X.fa) rfl ?_
      refine K.d_stG rfl rfl rfl (K.p_loadM (Fx.agg rfl) rfl (Cels.up hcel5.2) (Fx.sz rfl) hlx) rfl ?_
      first | refine K.d_skipS rfl rfl rfl rfl ?_ | refine K.d_skipUS rfl rfl rfl rfl rfl ?_ | refine K.d_stG rfl rfl rfl X.ld rfl ?_
      refine K.d_stGE rfl rfl rfl (K.p_indexL gi1 (Fx.und rfl) (Fx.sz rfl) rfl rfl (by omega) hd0) rfl ?_
      rintro v6 ⟨b6, o6, rfl, hcel6⟩
      first | refine K.d_skip rfl rfl rfl rfl ?_ | refine K.d_skipU rfl rfl rfl rfl rfl ?_ | refine K.d_puG rfl rfl rfl (fun _ _ => X.fa) rfl ?_
      refine K.d_stG rfl rfl rfl (K.p_loadM (Fx.agg rfl) rfl (Cels.up hcel6.2) (Fx.sz rfl) hly) rfl ?_
      refine K.d_on rfl (fun KK hKK => ?_)
      refine K.s_take rfl rfl ?_
      refine K.l_callV (Fx.cal rfl) rfl hsp (K.pp [] rfl) rfl rfl ?_
      simp only [List.nil_append]
      refine K.l_nil ?_
      refine X.onE hKK ?_
      first | refine K.d_skip rfl rfl rfl rfl ?_ | refine K.d_skipU rfl rfl rfl rfl rfl ?_ | refine K.d_puG rfl rfl rfl (fun _ _ => X.nt) rfl ?_
      refine K.d_pu rfl (fun _ _ => X.pk) rfl ?_
      refine K.d_nil ?_
      by_cases hte : x.to = y.to
      ·rw [show (decide ¬ x.to = y.to) = false from decide_eq_false (fun h => h hte)]
       (repeat' (first | refine X.rq ?_ | (refine X.rc ?_ ?_ <;> intro hc <;> first | (exfalso; omega) | skip)))
       refine K.a_round hKL (j + 1) ⟨by omega, fun _ => hgo () ((hxe ()).2 ⟨hpe, hte⟩)⟩ (by repeat (first | exact K.Sub.nil _ | refine K.Sub.cons rfl ?_)) rfl rfl (by omega)
      ·rw [show (decide ¬ x.to = y.to) = true from decide_eq_true hte]
       (repeat' (first | refine X.rq ?_ | (refine X.rc ?_ ?_ <;> intro hc <;> first | (exfalso; omega) | skip)))
       have hn := hnoxy () (fun e => hte ((hxe ()).1 e).2)
       refine K.AT.sel [0, 0] rfl ?_
       refine K.done (by first | exact Or.inl rfl | exact Or.inr rfl) rfl (by first | exact K.Base.le.refl _ | assumption) (H' := []) rfl ⟨?_, rfl, rfl⟩
       rw [hn]; rfl
     ·(repeat' (first | refine X.rq ?_ | (refine X.rc ?_ ?_ <;> intro hc <;> first | (exfalso; omega) | skip)))
      refine X.draw ([blk B2 63 (cR s (.slice bd s.op.data.length dd) (.slice bi s.images.length di) (.slice bl s.lives.length dl) (.slice by_ s.dirty.length dy)), blk B1 63 (cR r (.slice ad r.op.data.length cd) (.slice ai r.images.length ci) (.slice al r.lives.length cl) (.slice ay r.dirty.length cy))]) [] (.pu 0 (.pu 2 (.pu 6 (.pu 8 (.st 1 (.st 3 (.pu 4 (.st 5 (.st 7 (.st 9 (.pu 10 (.st 11 (.pu 12 (.pu 13 (.pu 14 (.pu 16 (.pu 20 (.pu 22 (.st 15 (.st 17 (.pu 18 (.st 19 (.st 21 (.st 23 (.pu 24 (.st 25 (.on 26 (.pu 27 (.pu 28 .nil))))))))))))))))))))))))))))) ?_
      refine K.d_pu rfl (fun _ _ => X.fa) rfl ?_
      refine K.d_pu rfl (fun _ _ => X.mv) rfl ?_
      refine K.d_pu rfl (fun _ _ => X.fa) rfl ?_
      refine K.d_pu rfl (fun _ _ => X.mv) rfl ?_
      refine K.d_st rfl X.ld rfl ?_
      refine K.d_stE rfl (K.p_indexL hi1 (Fx.und rfl) (Fx.sz rfl) rfl rfl (by omega) hc0) rfl ?_
      rintro v3 ⟨b3, o3, rfl, hcel3⟩
      refine K.d_pu rfl (fun _ _ => X.fa) rfl ?_
      refine K.d_st rfl (K.p_load (Fx.agg rfl) rfl (K.Cel.up hcel3.1)) rfl ?_
      refine K.d_st rfl X.ld rfl ?_
      refine K.d_stE rfl (K.p_indexL gi1 (Fx.und rfl) (Fx.sz rfl) rfl rfl (by omega) hd0) rfl ?_
      rintro v4 ⟨b4, o4, rfl, hcel4⟩
      refine K.d_pu rfl (fun _ _ => X.fa) rfl ?_
      refine K.d_st rfl (K.p_load (Fx.agg rfl) rfl (K.Cel.up hcel4.1)) rfl ?_
      refine K.d_pu rfl (fun _ _ => X.bneq) rfl ?_
      rw [show decide ((x.page : Int) ≠ y.page) = true from decide_eq_true (by omega)]
      refine K.d_pu rfl (fun _ _ => X.mv) rfl ?_
      first | refine K.d_skip rfl rfl rfl rfl ?_ | refine K.d_skipU rfl rfl rfl rfl rfl ?_ | refine K.d_puG rfl rfl rfl (fun _ _ => X.fa) rfl ?_
      first | refine K.d_skip rfl rfl rfl rfl ?_ | refine K.d_skipU rfl rfl rfl rfl rfl ?_ | refine K.d_puG rfl rfl rfl (fun _ _ => X.mv) rfl ?_
      first | refine K.d_skip rfl rfl rfl rfl ?_ | refine K.d_skipU rfl rfl rfl rfl rfl ?_ | refine K.d_puG rfl rfl rfl (fun _ _ => X.fa) rfl ?_
      first | refine K.d_skip rfl rfl rfl rfl ?_ | refine K.d_skipU rfl rfl rfl rfl rfl ?_ | refine K.d_puG rfl rfl rfl (fun _ _ => X.mv) rfl ?_
      first | refine K.d_skipS rfl rfl rfl rfl ?_ | refine K.d_skipUS rfl rfl rfl rfl rfl ?_ | refine K.d_stG rfl rfl rfl X.ld rfl ?_
      first | refine K.d_skipS rfl rfl rfl rfl ?_ | refine K.d_skipUS rfl rfl rfl rfl rfl ?_ | refine K.d_stG rfl rfl rfl X.ia rfl ?_
      first | refine K.d_skip rfl rfl rfl rfl ?_ | refine K.d_skipU rfl rfl rfl rfl rfl ?_ | refine K.d_puG rfl rfl rfl (fun _ _ => X.fa) rfl ?_
      first | refine K.d_skipS rfl rfl rfl rfl ?_ | refine K.d_skipUS rfl rfl rfl rfl rfl ?_ | refine K.d_stG rfl rfl rfl X.ld rfl ?_
      first | refine K.d_skipS rfl rfl rfl rfl ?_ | refine K.d_skipUS rfl rfl rfl rfl rfl ?_ | refine K.d_stG rfl rfl rfl X.ld rfl ?_
      first | refine K.d_skipS rfl rfl rfl rfl ?_ | refine K.d_skipUS rfl rfl rfl rfl rfl ?_ | refine K.d_stG rfl rfl rfl X.ia rfl ?_
      first | refine K.d_skip rfl rfl rfl rfl ?_ | refine K.d_skipU rfl rfl rfl rfl rfl ?_ | refine K.d_puG rfl rfl rfl (fun _ _ => X.fa) rfl ?_
      first | refine K.d_skipS rfl rfl rfl rfl ?_ | refine K.d_skipUS rfl rfl rfl rfl rfl ?_ | refine K.d_stG rfl rfl rfl X.ld rfl ?_
      refine K.d_on rfl (fun KK hKK => ?_)
      first | refine K.s_skip rfl rfl rfl ?_ | refine K.s_skipU rfl rfl rfl rfl ?_
      refine K.l_nil ?_
      refine X.onE hKK ?_
      first | refine K.d_skip rfl rfl rfl rfl ?_ | refine K.d_skipU rfl rfl rfl rfl rfl ?_ | refine K.d_puG rfl rfl rfl (fun _ _ => X.nt) rfl ?_
      refine K.d_pu rfl (fun _ _ => X.pk) rfl ?_
      refine K.d_nil ?_
      (repeat' (first | refine X.rq ?_ | (refine X.rc ?_ ?_ <;> intro hc <;> first | (exfalso; omega) | skip)))
      have hn := hnoxy () (fun e => hpe ((hxe ()).1 e).1)
      refine K.AT.sel [0, 0] rfl ?_
      refine K.done (by first | exact Or.inl rfl | exact Or.inr rfl) rfl (by first | exact K.Base.le.refl _ | assumption) (H' := []) rfl ⟨?_, rfl, rfl⟩
      rw [hn]; rfl
    ·obtain rfl : j = r.images.length := by omega
     (repeat' (first | refine X.rq ?_ | (refine X.rc ?_ ?_ <;> intro hc <;> first | (exfalso; omega) | skip)))
     refine K.c_loop (σ := Nat) (fun j => [(2, .pointer (some ⟨B1, 0, none⟩)), (3, .pointer (some ⟨B2, 0, none⟩)), (6, .int .i64 j)]) (fun _ => h) (fun _ => blk B2 63 (cR s (.slice bd s.op.data.length dd) (.slice bi s.images.length di) (.slice bl s.lives.length dl) (.slice by_ s.dirty.length dy)) :: blk B1 63 (cR r (.slice ad r.op.data.length cd) (.slice ai r.images.length ci) (.slice al r.lives.length cl) (.slice ay r.dirty.length cy)) :: F)
      (fun j => j ≤ r.lives.length ∧ ∀ _ : Unit, ∀ i, i < j → r.lives[i]? = s.lives[i]?) (fun j => r.lives.length - j) 0 ⟨Nat.zero_le _, fun _ i hi => by omega⟩ (by repeat (first | exact K.Sub.nil _ | refine K.Sub.cons rfl ?_)) rfl rfl ?_
     rintro j ⟨hj, hsm2⟩ KL hKL
     by_cases hjl : j < r.lives.length
     ·have hx1 : r.lives[j]? = some (r.lives[j]'(by omega)) := List.getElem?_eq_getElem (by omega)
      have hy1 : s.lives[j]? = some (s.lives[j]'(by omega)) := List.getElem?_eq_getElem (by omega)
      generalize r.lives[j]'(by omega) = x at hx1
      generalize s.lives[j]'(by omega) = y at hy1
      have hc0 : (r.lives.map Rc.cL)[((j : Nat) : Int).toNat]? = some (Rc.cL x) := by rw [Int.toNat_natCast, List.getElem?_map, hx1]; rfl
      have hd0 : (s.lives.map Rc.cL)[((j : Nat) : Int).toNat]? = some (Rc.cL y) := by rw [Int.toNat_natCast, List.getElem?_map, hy1]; rfl
      (repeat' (first | refine X.rq ?_ | (refine X.rc ?_ ?_ <;> intro hc <;> first | (exfalso; omega) | skip)))
      refine X.draw ([blk B2 63 (cR s (.slice bd s.op.data.length dd) (.slice bi s.images.length di) (.slice bl s.lives.length dl) (.slice by_ s.dirty.length dy)), blk B1 63 (cR r (.slice ad r.op.data.length cd) (.slice ai r.images.length ci) (.slice al r.lives.length cl) (.slice ay r.dirty.length cy))]) [] (.pu 0 (.pu 2 (.pu 5 (.pu 7 (.st 1 (.st 3 (.st 4 (.st 6 (.st 8 (.st 9 (.pu 10 .nil))))))))))) ?_
      refine K.d_pu rfl (fun _ _ => X.fa) rfl ?_
      refine K.d_pu rfl (fun _ _ => X.mv) rfl ?_
      refine K.d_pu rfl (fun _ _ => X.fa) rfl ?_
      refine K.d_pu rfl (fun _ _ => X.mv) rfl ?_
      refine K.d_st rfl X.ld rfl ?_
      refine K.d_stE rfl (K.p_indexL hl4 (Fx.und rfl) (Fx.sz rfl) rfl rfl (by omega) hc0) rfl ?_
      rintro v3 ⟨b3, o3, rfl, hcel3⟩
      refine K.d_st rfl (K.p_loadM (Fx.agg rfl) rfl (Cels.up hcel3) (Fx.sz rfl) rfl) rfl ?_
      refine K.d_st rfl X.ld rfl ?_
      refine K.d_stE rfl (K.p_indexL gl4 (Fx.und rfl) (Fx.sz rfl) rfl rfl (by omega) hd0) rfl ?_
      rintro v4 ⟨b4, o4, rfl, hcel4⟩
      refine K.d_st rfl (K.p_loadM (Fx.agg rfl) rfl (Cels.up hcel4) (Fx.sz rfl) rfl) rfl ?_
      refine K.d_pu rfl (fun _ _ => K.p_neA (Fx.flat rfl) rfl rfl (leafL x y)) rfl ?_
      refine K.d_nil ?_
      by_cases hxy : x = y
      ·rw [decide_eq_true hxy]
       (repeat' (first | refine X.rq ?_ | (refine X.rc ?_ ?_ <;> intro hc <;> first | (exfalso; omega) | skip)))
       refine K.a_round hKL (j + 1) ⟨by omega, fun _ i hi => ?_⟩ (by repeat (first | exact K.Sub.nil _ | refine K.Sub.cons rfl ?_)) rfl rfl (by omega)
       by_cases hij : i < j
       ·exact hsm2 () i hij
       ·obtain rfl : i = j := by omega
        rw [hx1, hy1, hxy]
      ·rw [decide_eq_false hxy]
       (repeat' (first | refine X.rq ?_ | (refine X.rc ?_ ?_ <;> intro hc <;> first | (exfalso; omega) | skip)))
       have hn := hno3 () ⟨j, .inr <| .inl (fun e => hxy (by rw [hx1, hy1] at e; cases e; rfl))⟩
       refine K.AT.sel [0, 0] rfl ?_
       refine K.done (by first | exact Or.inl rfl | exact Or.inr rfl) rfl (by first | exact K.Base.le.refl _ | assumption) (H' := []) rfl ⟨?_, rfl, rfl⟩
       rw [hn]; rfl
     ·obtain rfl : j = r.lives.length := by omega
      (repeat' (first | refine X.rq ?_ | (refine X.rc ?_ ?_ <;> intro hc <;> first | (exfalso; omega) | skip)))
      refine K.c_loop (σ := Nat) (fun j => [(2, .pointer (some ⟨B1, 0, none⟩)), (3, .pointer (some ⟨B2, 0, none⟩)), (7, .int .i64 j)]) (fun _ => h) (fun _ => blk B2 63 (cR s (.slice bd s.op.data.length dd) (.slice bi s.images.length di) (.slice bl s.lives.length dl) (.slice by_ s.dirty.length dy)) :: blk B1 63 (cR r (.slice ad r.op.data.length cd) (.slice ai r.images.length ci) (.slice al r.lives.length cl) (.slice ay r.dirty.length cy)) :: F)
       (fun j => j ≤ r.dirty.length ∧ ∀ _ : Unit, ∀ i, i < j → r.dirty[i]? = s.dirty[i]?) (fun j => r.dirty.length - j) 0 ⟨Nat.zero_le _, fun _ i hi => by omega⟩ (by repeat (first | exact K.Sub.nil _ | refine K.Sub.cons rfl ?_)) rfl rfl ?_
      rintro j ⟨hj, hsm3⟩ KL hKL
      by_cases hjl : j < r.dirty.length
      ·have hx1 : r.dirty[j]? = some (r.dirty[j]'(by omega)) := List.getElem?_eq_getElem (by omega)
       have hy1 : s.dirty[j]? = some (s.dirty[j]'(by omega)) := List.getElem?_eq_getElem (by omega)
       generalize r.dirty[j]'(by omega) = x at hx1
       generalize s.dirty[j]'(by omega) = y at hy1
       have hc0 : (r.dirty.map Rc.cD)[((j : Nat) : Int).toNat]? = some (Rc.cD x) := by rw [Int.toNat_natCast, List.getElem?_map, hx1]; rfl
       have hd0 : (s.dirty.map Rc.cD)[((j : Nat) : Int).toNat]? = some (Rc.cD y) := by rw [Int.toNat_natCast, List.getElem?_map, hy1]; rfl
       (repeat' (first | refine X.rq ?_ | (refine X.rc ?_ ?_ <;> intro hc <;> first | (exfalso; omega) | skip)))
       refine X.draw ([blk B2 63 (cR s (.slice bd s.op.data.length dd) (.slice bi s.images.length di) (.slice bl s.lives.length dl) (.slice by_ s.dirty.length dy)), blk B1 63 (cR r (.slice ad r.op.data.length cd) (.slice ai r.images.length ci) (.slice al r.lives.length cl) (.slice ay r.dirty.length cy))]) [] (.pu 0 (.pu 2 (.pu 5 (.pu 7 (.st 1 (.st 3 (.st 4 (.st 6 (.st 8 (.st 9 (.pu 10 .nil))))))))))) ?_
       refine K.d_pu rfl (fun _ _ => X.fa) rfl ?_
       refine K.d_pu rfl (fun _ _ => X.mv) rfl ?_
       refine K.d_pu rfl (fun _ _ => X.fa) rfl ?_
       refine K.d_pu rfl (fun _ _ => X.mv) rfl ?_
       refine K.d_st rfl X.ld rfl ?_
       refine K.d_stE rfl (K.p_indexL hd2 (Fx.und rfl) (Fx.sz rfl) rfl rfl (by omega) hc0) rfl ?_
       rintro v3 ⟨b3, o3, rfl, hcel3⟩
       refine K.d_st rfl (K.p_loadM (Fx.agg rfl) rfl (Cels.up hcel3) (Fx.sz rfl) rfl) rfl ?_
       refine K.d_st rfl X.ld rfl ?_
       refine K.d_stE rfl (K.p_indexL gd2 (Fx.und rfl) (Fx.sz rfl) rfl rfl (by omega) hd0) rfl ?_
       rintro v4 ⟨b4, o4, rfl, hcel4⟩
       refine K.d_st rfl (K.p_loadM (Fx.agg rfl) rfl (Cels.up hcel4) (Fx.sz rfl) rfl) rfl ?_
       refine K.d_pu rfl (fun _ _ => K.p_neA (Fx.flat rfl) rfl rfl (leafD x y)) rfl ?_
       refine K.d_nil ?_
       by_cases hxy : x = y
       ·rw [decide_eq_true hxy]
        (repeat' (first | refine X.rq ?_ | (refine X.rc ?_ ?_ <;> intro hc <;> first | (exfalso; omega) | skip)))
        refine K.a_round hKL (j + 1) ⟨by omega, fun _ i hi => ?_⟩ (by repeat (first | exact K.Sub.nil _ | refine K.Sub.cons rfl ?_)) rfl rfl (by omega)
        by_cases hij : i < j
        ·exact hsm3 () i hij
        ·obtain rfl : i = j := by omega
         rw [hx1, hy1, hxy]
       ·rw [decide_eq_false hxy]
        (repeat' (first | refine X.rq ?_ | (refine X.rc ?_ ?_ <;> intro hc <;> first | (exfalso; omega) | skip)))
        have hn := hno3 () ⟨j, .inr <| .inr (fun e => hxy (by rw [hx1, hy1] at e; cases e; rfl))⟩
        refine K.AT.sel [0, 0] rfl ?_
        refine K.done (by first | exact Or.inl rfl | exact Or.inr rfl) rfl (by first | exact K.Base.le.refl _ | assumption) (H' := []) rfl ⟨?_, rfl, rfl⟩
        rw [hn]; rfl
      ·obtain rfl : j = r.dirty.length := by omega
       (repeat' (first | refine X.rq ?_ | (refine X.rc ?_ ?_ <;> intro hc <;> first | (exfalso; omega) | skip)))
       have hz : z0 r = z0 s := (z0_eq r s).2 ⟨n1, n2, n3, n4, n5, n6, n7, hope, List.ext_getElem? (fun i => by
         by_cases hi : i < r.images.length
         ·exact hsm1 () i hi
         ·rw [List.getElem?_eq_none (by omega), List.getElem?_eq_none (by omega)]), List.ext_getElem? (fun i => by
         by_cases hi : i < r.lives.length
         ·exact hsm2 () i hi
         ·rw [List.getElem?_eq_none (by omega), List.getElem?_eq_none (by omega)]), List.ext_getElem? (fun i => by
         by_cases hi : i < r.dirty.length
         ·exact hsm3 () i hi
         ·rw [List.getElem?_eq_none (by omega), List.getElem?_eq_none (by omega)])⟩
       refine K.AT.sel [0, 0] rfl ?_
       refine K.done (by first | exact Or.inl rfl | exact Or.inr rfl) rfl (by first | exact K.Base.le.refl _ | assumption) (H' := []) rfl ⟨?_, rfl, rfl⟩
       rw [decide_eq_true hz]; rfl

  ·have hn := hno () (fun e => hope e.2.2.2.2.2.2.2)
   rw [decide_eq_false hope]
   (repeat' (first | refine X.rq ?_ | (refine X.rc ?_ ?_ <;> intro hc <;> first | (exfalso; omega) | skip)))
   refine K.AT.sel [0, 0] rfl ?_
   refine K.done (by first | exact Or.inl rfl | exact Or.inr rfl) rfl (by first | exact K.Base.le.refl _ | assumption) (H' := []) rfl ⟨?_, rfl, rfl⟩
   rw [hn]; rfl
 ·have hno := hno () (fun e => hn1 ⟨e.1, e.2.1, e.2.2.1, e.2.2.2.1, e.2.2.2.2.1, e.2.2.2.2.2.1, e.2.2.2.2.2.2.1⟩)
  (repeat' (first | refine X.rq ?_ | (refine X.rc ?_ ?_ <;> intro hc <;> first | (exfalso; omega) | skip)))
  all_goals
   refine K.AT.sel [0, 0] rfl ?_
   refine K.done (by first | exact Or.inl rfl | exact Or.inr rfl) rfl (by first | exact K.Base.le.refl _ | assumption) (H' := []) rfl ⟨?_, rfl, rfl⟩
   rw [hno]; rfl
structure shortX (r : Recd) : Prop where
 img : r.images.length ≤ 300
 cel : ∀ x ∈ r.images, smallX x.to.cells
 liv : r.lives.length ≤ 3000
 dir : r.dirty.length ≤ 3000
 dat : r.op.data.length ≤ 2000
structure CpS where
 b : Base
 j : Nat
 a : Option Nat
 cap : Nat
 es : List (List Value)
theorem cL_ones (x : PLive) : K.ones (Rc.cL x) = true := rfl
theorem cD_ones (x : PDirty) : K.ones (Rc.cD x) = true := rfl
set_option maxHeartbeats 4000000 in
theorem RecCopy (h : Base) (cs : List Value) (r : Recd) (hx : RecC h cs r) (hs : shortX r) : Tr Tryz.prog 26 [.agg cs.toArray] h [] (fun u h' H' => H' = [] ∧ ∃ cs', u = .agg cs'.toArray ∧ RecC h' cs' r) := by
 obtain ⟨hw, ad, ai, al, ay, cd, ci, cl, cy, rfl, hb, ⟨es, hi1, hi2, hi3⟩, hl4, hd2⟩ := hx.cells
 have s1 := hs.img
 have s2 := hs.liv
 have s3 := hs.dir
 have s4 := hs.dat
 have hsc := fun (_ : Unit) => hs.cel
 have hw0 := fun (_ : Unit) => hw
 have hop := CopyOp h (cO r.op (.slice ad r.op.data.length cd)) r.op ⟨hw.op, _, _, rfl, hb⟩ (by omega)
 clear hx hs hw
 refine K.enter Tryz.func26 rfl (Nat.le_of_ble_eq_true rfl) (fun F => ?_)
 simp only [List.nil_append]
 (repeat' (first | refine X.rq ?_ | (refine X.rc ?_ ?_ <;> intro hc <;> first | (exfalso; omega) | skip)))
 refine K.l_box rfl rfl rfl (fun B1 => ?_)
 refine K.l_alloc (Fx.zr rfl) rfl rfl (fun B2 => ?_)
 (repeat' (first | refine X.rq ?_ | (refine X.rc ?_ ?_ <;> intro hc <;> first | (exfalso; omega) | skip)))
 refine K.s_pure (K.p_loadM (Fx.agg rfl) rfl (K.cels_own (pre := [.int .i64 r.kind, .int .u64 r.lsn, .int .u32 r.txn, .int .u64 r.prev, .int .u64 r.undo, .int .u32 r.page, .int .u32 r.root]) (cs := cO r.op (.slice ad r.op.data.length cd)) (post := [.slice ai r.images.length ci, .slice al r.lives.length cl, .slice ay r.dirty.length cy, .int .u32 r.next]) 1 rfl rfl) (Fx.sz rfl) rfl) rfl ?_
 refine K.l_call (Fx.cal rfl) rfl hop (K.pp [] rfl) rfl ?_
 rintro u h' H' - ⟨e, a2, c2, rfl, rfl⟩
 obtain rfl := e.symm
 simp only [List.cons_append, List.nil_append]
 refine K.WL.freezeBuf (fun h2 le2 hb2 => ?_)
 refine K.WL.perm (K.pp [1] rfl) ?_
 simp only [List.set_cons_zero, List.set_cons_succ, List.eraseIdx_cons_zero, List.eraseIdx_cons_succ, List.cons_append, List.nil_append]
 obtain ⟨ad2, cd2, e2⟩ : ∃ x y, bufV a2 r.op.data.length c2 = .slice x r.op.data.length y := ⟨_, _, rfl⟩
 rw [e2] at hb2 ⊢
 (repeat' (first | refine X.rq ?_ | (refine X.rc ?_ ?_ <;> intro hc <;> first | (exfalso; omega) | skip)))
 refine K.l_storeN (pre := [.int .i64 r.kind, .int .u64 r.lsn, .int .u32 r.txn, .int .u64 r.prev, .int .u64 r.undo, .int .u32 r.page, .int .u32 r.root]) (cs := cO r.op (.slice ad r.op.data.length cd)) (post := [.slice ai r.images.length ci, .slice al r.lives.length cl, .slice ay r.dirty.length cy, .int .u32 r.next]) (us := cO r.op (.slice ad2 r.op.data.length cd2)) (Fx.sz rfl) rfl rfl rfl rfl rfl (K.Free.zero _) ?_
 show WL Tryz.prog _ _ _ _ _ _ (blk B1 63 (cR r (.slice ad2 r.op.data.length cd2) (.slice ai r.images.length ci) (.slice al r.lives.length cl) (.slice ay r.dirty.length cy)) :: _)
 (repeat' (first | refine X.rq ?_ | (refine X.rc ?_ ?_ <;> intro hc <;> first | (exfalso; omega) | skip)))
 refine K.WC.nilBuf 52 5 ?_
 refine K.c_loop (σ := CpS) (fun q => [(1, .pointer (some ⟨B1, 0, none⟩)), (2, .pointer (some ⟨B2, 0, none⟩)), (3, bufV q.a q.es.length q.cap), (4, .int .i64 q.j)]) (fun q => q.b)
  (fun q => bufA 52 5 q.a q.es.length q.cap q.es.flatten :: blk B1 63 (cR r (.slice ad2 r.op.data.length cd2) (.slice ai r.images.length ci) (.slice al r.lives.length cl) (.slice ay r.dirty.length cy)) :: blk B2 63 (cR zR (.slice none 0 0) (.slice none 0 0) (.slice none 0 0) (.slice none 0 0)) :: F)
  (fun q => h2.le q.b ∧ q.j ≤ r.images.length ∧ RowsG (ImgC q.b) q.es (r.images.take q.j)) (fun q => r.images.length - q.j) ⟨h2, 0, none, 0, []⟩ ⟨K.Base.le.refl _, Nat.zero_le _, RowsG.nil⟩ (by repeat (first | exact K.Sub.nil _ | refine K.Sub.cons rfl ?_)) rfl rfl ?_
 rintro ⟨hb3, j, a, cap, fs⟩ ⟨hle, hj, hrow⟩ KL hKL
 dsimp only at hle hj hrow ⊢
 have hfl : fs.length = j := by rw [hrow.1, List.length_take]; omega
 have hleh := le2.trans hle
 by_cases hjl : j < r.images.length
 ·have hc1 : es[j]? = some (es[j]'(by omega)) := List.getElem?_eq_getElem (by omega)
  have hc0 : es[((j : Nat) : Int).toNat]? = some (es[j]'(by omega)) := by rw [Int.toNat_natCast]; exact hc1
  have he1 : r.images[j]? = some (r.images[j]'(by omega)) := List.getElem?_eq_getElem hjl
  have hmem : r.images[j] ∈ r.images := List.getElem_mem hjl
  generalize es[j]'(by omega) = c at hc0 hc1
  generalize r.images[j]'(by omega) = x at he1 hmem
  have hsx := hsc () x hmem
  have hix := (hi3 j c x hc1 he1).le hleh
  have hi1' := hi1.le hleh
  obtain ⟨hpg, cs, rfl, hpc⟩ := hix
  have hcopy := CopyPageX hb3 cs x.to hpc hsx
  obtain ⟨hwp, cv5, rfl, _⟩ := hpc
  clear hi3 hsc hsx
  (repeat' (first | refine X.rq ?_ | (refine X.rc ?_ ?_ <;> intro hc <;> first | (exfalso; omega) | skip)))
  refine X.draw ([blk B1 63 (cR r (.slice ad2 r.op.data.length cd2) (.slice ai r.images.length ci) (.slice al r.lives.length cl) (.slice ay r.dirty.length cy))]) [] (.pu 0 (.pu 1 (.pu 3 (.pu 7 (.pu 9 (.st 2 (.st 4 (.pu 5 (.st 6 (.st 8 (.st 10 (.pu 11 (.st 12 (.on 13 (.pu 14 (.on 15 (.on 16 (.pu 17 .nil)))))))))))))))))) ?_
  refine K.d_pu rfl (fun _ _ => X.mv) rfl ?_
  refine K.d_pu rfl (fun _ _ => X.fa) rfl ?_
  refine K.d_pu rfl (fun _ _ => X.mv) rfl ?_
  refine K.d_pu rfl (fun _ _ => X.fa) rfl ?_
  refine K.d_pu rfl (fun _ _ => X.mv) rfl ?_
  refine K.d_st rfl X.ld rfl ?_
  refine K.d_stE rfl (K.p_indexL hi1' (Fx.und rfl) (Fx.sz rfl) rfl rfl (by omega) hc0) rfl ?_
  rintro v4 ⟨b4, o4, rfl, hcel4⟩
  refine K.d_pu rfl (fun _ _ => X.fa) rfl ?_
  refine K.d_st rfl (K.p_load (Fx.agg rfl) rfl (K.Cel.up hcel4.1)) rfl ?_
  refine K.d_st rfl X.ld rfl ?_
  refine K.d_stE rfl (K.p_indexL hi1' (Fx.und rfl) (Fx.sz rfl) rfl rfl (by omega) hc0) rfl ?_
  rintro v6 ⟨b6, o6, rfl, hcel6⟩
  refine K.d_pu rfl (fun _ _ => X.fa) rfl ?_
  refine K.d_st rfl (K.p_loadM (Fx.agg rfl) rfl (Cels.up hcel6.2) (Fx.sz rfl) rfl) rfl ?_
  refine K.d_on rfl (fun KK hKK => ?_)
  refine K.l_call (Fx.cal rfl) rfl hcopy (K.pp [] rfl) rfl ?_
  rintro u hb7 H' le7 ⟨a7, cap7, es7, rfl, hrow7, rfl⟩
  have h7l := hrow7.1
  rw [← h7l]
  simp only [List.cons_append, List.nil_append]
  refine K.WL.freezeRow hrow7.2.1 (fun hb8 le8 hsl8 hcap8 => ?_)
  obtain ⟨ao8, ca8, e8⟩ := hsl8.len
  rw [e8] at hsl8 ⊢
  have le78 := le7.trans le8
  refine K.l_nil ?_
  refine X.onE hKK ?_
  refine K.d_pu rfl (fun _ _ => X.bd) rfl ?_
  refine K.d_on rfl (fun KK hKK => ?_)
  refine K.l_buildSlice (Fx.und rfl) (Fx.sz rfl) rfl (Fx.zr rfl) rfl rfl rfl (cs := [.int .u32 x.page, .int .i64 x.to.kind, .int .u64 x.to.lsn, .int .u32 x.to.next, .slice ao8 es7.length ca8]) rfl rfl (fun B10 => ?_)
  refine K.l_nil ?_
  refine X.onE hKK ?_
  refine K.d_on rfl (fun KK hKK => ?_)
  refine K.l_append_at 1 rfl (Fx.und rfl) (Fx.und rfl) rfl (Fx.sz rfl) (Fx.zr rfl) rfl (Fx.byt rfl) rfl rfl (K.src_cells (K.cels_own (pre := []) (cs := [.int .u32 x.page, .int .i64 x.to.kind, .int .u64 x.to.lsn, .int .u32 x.to.next, .slice ao8 es7.length ca8]) (post := []) 0 rfl rfl) rfl (List.all_eq_true.1 (show ones [.int .u32 x.page, .int .i64 x.to.kind, .int .u64 x.to.lsn, .int .u32 x.to.next, .slice ao8 es7.length ca8] = true from rfl))) (by omega) (by omega) rfl (fun a9 cap9 => ?_)
  simp only [List.set_cons_zero, List.set_cons_succ, List.eraseIdx_cons_zero, List.eraseIdx_cons_succ, List.cons_append, List.nil_append]
  refine K.l_nil ?_
  refine X.onE hKK ?_
  refine K.d_pu rfl (fun _ _ => X.sg) rfl ?_
  refine K.d_nil ?_
  (repeat' (first | refine X.rq ?_ | (refine X.rc ?_ ?_ <;> intro hc <;> first | (exfalso; omega) | skip)))
  refine K.AT.drop ?_
  have hpc8 : PagC hb8 (cP x.to (.slice ao8 es7.length ca8)) x.to := ⟨hwp, _, rfl, es7, hsl8, h7l, fun i c z hc hz => (hrow7.2.2 i c z hc hz).le le8⟩
  have hfl2 : (fs ++ [([.int .u32 x.page, .int .i64 x.to.kind, .int .u64 x.to.lsn, .int .u32 x.to.next, .slice ao8 es7.length ca8] : List Value)]).length = fs.length + 1 := by simp
  rw [← hfl2]
  refine K.a_round hKL ⟨hb8, j + 1, a9, cap9, fs ++ [[.int .u32 x.page, .int .i64 x.to.kind, .int .u64 x.to.lsn, .int .u32 x.to.next, .slice ao8 es7.length ca8]]⟩ ⟨hle.trans (le7.trans le8), by dsimp only; omega, ?_⟩ (by repeat (first | exact K.Sub.nil _ | refine K.Sub.cons rfl ?_)) rfl ?_ (by dsimp only; omega)
  ·dsimp only
   rw [List.take_add_one, he1]
   exact (hrow.mono fun c x hc => ImgC.le (le7.trans le8) hc).push ⟨hpg, _, rfl, hpc8⟩
  ·simp
 ·obtain rfl : j = r.images.length := by omega
  rw [List.take_length] at hrow
  clear hsc hi3
  (repeat' (first | refine X.rq ?_ | (refine X.rc ?_ ?_ <;> intro hc <;> first | (exfalso; omega) | skip)))
  refine K.WL.freezeRow (hrow.sz fun c x hc => ImgC.five hc) (fun hb4 le4 hsl4 hcap4 => ?_)
  have hleh4 := hleh.trans le4
  obtain ⟨ao4, ca4, e4⟩ := hsl4.len
  rw [e4] at hsl4 ⊢
  rw [hfl] at hsl4 ⊢
  clear e4
  refine X.sto ?_
  simp only [List.set_cons_zero, List.set_cons_succ, List.eraseIdx_cons_zero, List.eraseIdx_cons_succ, List.cons_append, List.nil_append]
  (repeat' (first | refine X.rq ?_ | (refine X.rc ?_ ?_ <;> intro hc <;> first | (exfalso; omega) | skip)))
  refine K.l_buildSlice (Fx.und rfl) (Fx.sz rfl) rfl (Fx.zr rfl) rfl rfl rfl (cs := []) rfl rfl (fun B25 => ?_)
  refine K.WL.bufOf (s := 4) (m := 0) rfl (Nat.zero_le _) ?_
  (repeat' (first | refine X.rq ?_ | (refine X.rc ?_ ?_ <;> intro hc <;> first | (exfalso; omega) | skip)))
  refine K.l_append_at 0 rfl (Fx.und rfl) (Fx.und rfl) rfl (Fx.sz rfl) (Fx.zr rfl) rfl (Fx.byt rfl) rfl rfl ((hl4.le hleh4).src (fun e he => by
   obtain ⟨x, _, rfl⟩ := List.mem_map.1 he
   exact cL_ones x)) (by rw [List.length_map]; omega) (by rw [List.length_map]; omega) rfl (fun a26 cap26 => ?_)
  simp only [List.set_cons_zero, List.set_cons_succ, List.eraseIdx_cons_zero, List.eraseIdx_cons_succ, List.cons_append, List.nil_append]
  rw [Nat.zero_add]
  refine K.WL.freezeRow (fun e he => by
   obtain ⟨x, _, rfl⟩ := List.mem_map.1 he
   rfl) (fun hb26 le26 hsl26 _ => ?_)
  obtain ⟨al2, cl2, e26⟩ := hsl26.len
  rw [e26] at hsl26 ⊢
  rw [List.length_map] at hsl26 ⊢
  clear e26
  (repeat' (first | refine X.rq ?_ | (refine X.rc ?_ ?_ <;> intro hc <;> first | (exfalso; omega) | skip)))
  refine X.sto ?_
  simp only [List.set_cons_zero, List.set_cons_succ, List.eraseIdx_cons_zero, List.eraseIdx_cons_succ, List.cons_append, List.nil_append]
  (repeat' (first | refine X.rq ?_ | (refine X.rc ?_ ?_ <;> intro hc <;> first | (exfalso; omega) | skip)))
  have hleh5 := hleh4.trans le26
  refine K.l_buildSlice (Fx.und rfl) (Fx.sz rfl) rfl (Fx.zr rfl) rfl rfl rfl (cs := []) rfl rfl (fun B35 => ?_)
  refine K.WL.bufOf (s := 2) (m := 0) rfl (Nat.zero_le _) ?_
  (repeat' (first | refine X.rq ?_ | (refine X.rc ?_ ?_ <;> intro hc <;> first | (exfalso; omega) | skip)))
  refine K.l_append_at 0 rfl (Fx.und rfl) (Fx.und rfl) rfl (Fx.sz rfl) (Fx.zr rfl) rfl (Fx.byt rfl) rfl rfl ((hd2.le hleh5).src (fun e he => by
   obtain ⟨x, _, rfl⟩ := List.mem_map.1 he
   exact cD_ones x)) (by rw [List.length_map]; omega) (by rw [List.length_map]; omega) rfl (fun a36 cap36 => ?_)
  simp only [List.set_cons_zero, List.set_cons_succ, List.eraseIdx_cons_zero, List.eraseIdx_cons_succ, List.cons_append, List.nil_append]
  rw [Nat.zero_add]
  refine K.WL.freezeRow (fun e he => by
   obtain ⟨x, _, rfl⟩ := List.mem_map.1 he
   rfl) (fun hb36 le36 hsl36 _ => ?_)
  obtain ⟨ay2, cy2, e36⟩ := hsl36.len
  rw [e36] at hsl36 ⊢
  rw [List.length_map] at hsl36 ⊢
  clear e36
  (repeat' (first | refine X.rq ?_ | (refine X.rc ?_ ?_ <;> intro hc <;> first | (exfalso; omega) | skip)))
  refine X.sto ?_
  simp only [List.set_cons_zero, List.set_cons_succ, List.eraseIdx_cons_zero, List.eraseIdx_cons_succ, List.cons_append, List.nil_append]
  (repeat' (first | refine X.rq ?_ | (refine X.rc ?_ ?_ <;> intro hc <;> first | (exfalso; omega) | skip)))
  refine K.WL.perm (K.pp [1] rfl) ?_
  simp only [List.set_cons_zero, List.set_cons_succ, List.eraseIdx_cons_zero, List.eraseIdx_cons_succ, List.cons_append, List.nil_append]
  refine X.stw ?_
  simp only [List.set_cons_zero, List.set_cons_succ, List.eraseIdx_cons_zero, List.eraseIdx_cons_succ, List.cons_append, List.nil_append]
  (repeat' (first | refine X.rq ?_ | (refine X.rc ?_ ?_ <;> intro hc <;> first | (exfalso; omega) | skip)))
  skip
  have hlef := hleh5.trans le36
  have hrc : RecC hb36 (cR r (.slice ad2 r.op.data.length cd2) (.slice ao4 r.images.length ca4) (.slice al2 r.lives.length cl2) (.slice ay2 r.dirty.length cy2)) r := recC_of (hw0 ()) (hb2.le ((hle.trans le4).trans (le26.trans le36))) ⟨fs, hsl4.le (le26.trans le36), hrow.1, fun i c x hc hx => ImgC.le (le4.trans (le26.trans le36)) (hrow.2 i c x hc hx)⟩ (hsl26.le le36) hsl36
  refine K.doneC (vs := [.agg (cR r (.slice ad2 r.op.data.length cd2) (.slice ao4 r.images.length ca4) (.slice al2 r.lives.length cl2) (.slice ay2 r.dirty.length cy2)).toArray]) (by first | exact Or.inl rfl | exact Or.inr rfl) (.cell rfl (Fx.agg rfl) (Fx.sz rfl) (K.cels_own (pre := []) (post := []) 0 rfl rfl) .nil) hlef (D := [_, _]) (H' := []) rfl ⟨rfl, _, rfl, hrc⟩
end Go.Proofs.YtkdngpiiecmpgaaGreat.Rc
