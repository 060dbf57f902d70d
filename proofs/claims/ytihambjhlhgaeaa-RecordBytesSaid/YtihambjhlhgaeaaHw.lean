/-
  Records in the document: whether two are one, but for their LSN. Conditions: each theorem's own.
-/
import Derived.Test.YtihambjhlhgaeaaHu

namespace Go.Proofs.Ytihambjhlhgaeaa.Rc
open Go Go.K Go.Proofs Go.Proofs.Ytihambjhlhgaeaa Go.Proofs.Ytihambjhlhgaeaa.Pg Go.Proofs.Ytihambjhlhgaeaa.Cc Go.Proofs.Ytihambjhlhgaeaa.Rb
set_option linter.unusedVariables false
set_option linter.unusedSimpArgs false
set_option maxRecDepth 10000

theorem img_eq (x y : PImg) : x = y ↔ x.page = y.page ∧ x.to = y.to := by
  obtain ⟨a, b⟩ := x
  obtain ⟨a2, b2⟩ := y
  simp
theorem live_eq (x y : PLive) : x = y ↔ x.txn = y.txn ∧ x.last = y.last ∧ x.undo = y.undo ∧ x.lost = y.lost := by
  obtain ⟨a, b, c, d⟩ := x
  obtain ⟨a2, b2, c2, d2⟩ := y
  simp
theorem dirt_eq (x y : PDirty) : x = y ↔ x.page = y.page ∧ x.frm = y.frm := by
  obtain ⟨a, b⟩ := x
  obtain ⟨a2, b2⟩ := y
  simp
theorem z0_eq (r s : Recd) : z0 r = z0 s ↔ r.kind = s.kind ∧ r.txn = s.txn ∧ r.prev = s.prev ∧ r.undo = s.undo ∧ r.page = s.page ∧ r.root = s.root ∧ r.next = s.next ∧ r.op = s.op ∧ r.images = s.images ∧ r.lives = s.lives ∧ r.dirty = s.dirty := by
  obtain ⟨a1, a2, a3, a4, a5, a6, a7, a8, a9, a10, a11, a12⟩ := r
  obtain ⟨b1, b2, b3, b4, b5, b6, b7, b8, b9, b10, b11, b12⟩ := s
  show Recd.mk .. = Recd.mk .. ↔ _
  rw [Recd.mk.injEq]
  dsimp only
  constructor
  · rintro ⟨e1, _, e2, e3, e4, e5, e6, e7, e8, e9, e10, e11⟩
    exact ⟨e1, e2, e3, e4, e5, e6, e11, e7, e8, e9, e10⟩
  · rintro ⟨e1, e2, e3, e4, e5, e6, e11, e7, e8, e9, e10⟩
    exact ⟨e1, rfl, e2, e3, e4, e5, e6, e7, e8, e9, e10, e11⟩
theorem leafL (x y : PLive) : leafs [.int .u32, .int .u64, .int .u64, .bool] (Rc.cL x) (Rc.cL y) = some (decide (x = y)) := by
  have h1 : ((x.txn : Int) = y.txn) = (x.txn = y.txn) := by rw [eq_iff_iff]; omega
  have h2 : ((x.last : Int) = y.last) = (x.last = y.last) := by rw [eq_iff_iff]; omega
  have h3 : ((x.undo : Int) = y.undo) = (x.undo = y.undo) := by rw [eq_iff_iff]; omega
  have h4 : decide (x = y) = decide (x.txn = y.txn ∧ x.last = y.last ∧ x.undo = y.undo ∧ x.lost = y.lost) := by rw [decide_eq_decide]; exact live_eq x y
  rw [h4]
  simp [leafs, leafV, Rc.cL, h1, h2, h3]
theorem leafD (x y : PDirty) : leafs [.int .u32, .int .u64] (Rc.cD x) (Rc.cD y) = some (decide (x = y)) := by
  have h1 : ((x.page : Int) = y.page) = (x.page = y.page) := by rw [eq_iff_iff]; omega
  have h2 : ((x.frm : Int) = y.frm) = (x.frm = y.frm) := by rw [eq_iff_iff]; omega
  have h4 : decide (x = y) = decide (x.page = y.page ∧ x.frm = y.frm) := by rw [decide_eq_decide]; exact dirt_eq x y
  rw [h4]
  simp [leafs, leafV, Rc.cD, h1, h2]
set_option maxHeartbeats 8000000 in
theorem SameR (h : Base) (cs ds : List Value) (r s : Recd) (hx : RecC h cs r) (hy : RecC h ds s) : TrV Try.prog 16 [.agg cs.toArray, .agg ds.toArray] h [] (.bool (decide (z0 r = z0 s))) [] := by
  obtain ⟨hw, ad, ai, al, ay, cd, ci, cl, cy, rfl, hb, ⟨es, hi1, hi2, hi3⟩, hl4, hd2⟩ := hx.cells
  obtain ⟨gw, bd, bi, bl, by_, dd, di, dl, dy, rfl, gb, ⟨fs, gi1, gi2, gi3⟩, gl4, gd2⟩ := hy.cells
  have w1 := hw.images
  have w2 := hw.lives
  have w3 := hw.dirty
  have w4 := gw.images
  have w5 := gw.lives
  have w6 := gw.dirty
  have hsame := SameO h (cO r.op (.slice ad r.op.data.length cd)) (cO s.op (.slice bd s.op.data.length dd)) r.op s.op ⟨hw.op, _, _, rfl, hb⟩ ⟨gw.op, _, _, rfl, gb⟩
  have hno : ∀ _ : Unit, ¬ (r.kind = s.kind ∧ r.txn = s.txn ∧ r.prev = s.prev ∧ r.undo = s.undo ∧ r.page = s.page ∧ r.root = s.root ∧ r.next = s.next ∧ r.op = s.op) → decide (z0 r = z0 s) = false := fun _ hn => decide_eq_false fun e => by
    obtain ⟨e1, e2, e3, e4, e5, e6, e11, e7, _⟩ := (z0_eq r s).1 e
    exact hn ⟨e1, e2, e3, e4, e5, e6, e11, e7⟩
  have hno2 : ∀ _ : Unit, ¬ (r.images.length = s.images.length ∧ r.lives.length = s.lives.length ∧ r.dirty.length = s.dirty.length) → decide (z0 r = z0 s) = false := fun _ hn => decide_eq_false fun e => by
    obtain ⟨_, _, _, _, _, _, _, _, e8, e9, e10⟩ := (z0_eq r s).1 e
    exact hn ⟨by rw [e8], by rw [e9], by rw [e10]⟩
  have hno3 : ∀ _ : Unit, (∃ i : Nat, r.images[i]? ≠ s.images[i]? ∨ r.lives[i]? ≠ s.lives[i]? ∨ r.dirty[i]? ≠ s.dirty[i]?) → decide (z0 r = z0 s) = false := fun _ ⟨i, hn⟩ => decide_eq_false fun e => by
    obtain ⟨_, _, _, _, _, _, _, _, e8, e9, e10⟩ := (z0_eq r s).1 e
    rw [e8, e9, e10] at hn
    rcases hn with hn | hn | hn <;> exact hn rfl
  clear hx hy hw gw hb gb
  refine K.enter Try.func16 rfl (Nat.le_of_ble_eq_true rfl) (fun F => ?_)
  simp only [List.nil_append]
  (repeat' (first | refine X.rq ?_ | (refine X.rc ?_ ?_ <;> intro hc <;> first | (exfalso; omega) | skip)))
  refine K.l_box rfl rfl rfl (fun B1 => ?_)
  refine K.l_box rfl rfl rfl (fun B2 => ?_)
  by_cases hn1 : r.kind = s.kind ∧ r.txn = s.txn ∧ r.prev = s.prev ∧ r.undo = s.undo ∧ r.page = s.page ∧ r.root = s.root ∧ r.next = s.next
  · have hn1' := fun (_ : Unit) => hn1
    obtain ⟨n1, n2, n3, n4, n5, n6, n7⟩ := hn1
    (repeat' (first | refine X.rq ?_ | (refine X.rc ?_ ?_ <;> intro hc <;> first | (exfalso; omega) | skip)))
    refine K.s_pure (K.p_loadM (Fx.agg rfl) rfl (K.cels_own (pre := [.int .i64 r.kind, .int .u64 r.lsn, .int .u32 r.txn, .int .u64 r.prev, .int .u64 r.undo, .int .u32 r.page, .int .u32 r.root]) (cs := cO r.op (.slice ad r.op.data.length cd)) (post := [.slice ai r.images.length ci, .slice al r.lives.length cl, .slice ay r.dirty.length cy, .int .u32 r.next]) 1 rfl rfl) (Fx.sz rfl) rfl) rfl ?_
    (repeat' (first | refine X.rq ?_ | (refine X.rc ?_ ?_ <;> intro hc <;> first | (exfalso; omega) | skip)))
    refine K.s_pure (K.p_loadM (Fx.agg rfl) rfl (K.cels_own (pre := [.int .i64 s.kind, .int .u64 s.lsn, .int .u32 s.txn, .int .u64 s.prev, .int .u64 s.undo, .int .u32 s.page, .int .u32 s.root]) (cs := cO s.op (.slice bd s.op.data.length dd)) (post := [.slice bi s.images.length di, .slice bl s.lives.length dl, .slice by_ s.dirty.length dy, .int .u32 s.next]) 0 rfl rfl) (Fx.sz rfl) rfl) rfl ?_
    refine K.s_take rfl rfl ?_
    refine K.l_callV (Fx.cal rfl) rfl hsame (K.pp [] rfl) rfl rfl ?_
    simp only [List.nil_append]
    by_cases hope : r.op = s.op
    · rw [decide_eq_true hope]
      (repeat' (first | refine X.rq ?_ | (refine X.rc ?_ ?_ <;> intro hc <;> first | (exfalso; omega) | skip)))
      · have hn := hno2 () (fun e => by omega)
        refine K.AT.sel [0, 0] rfl ?_
        refine K.done (by first | exact Or.inl rfl | exact Or.inr rfl) rfl (by first | exact K.Base.le.refl _ | assumption) (H' := []) rfl ⟨?_, rfl, rfl⟩
        rw [hn]; rfl
      · have hn := hno2 () (fun e => by omega)
        refine K.AT.sel [0, 0] rfl ?_
        refine K.done (by first | exact Or.inl rfl | exact Or.inr rfl) rfl (by first | exact K.Base.le.refl _ | assumption) (H' := []) rfl ⟨?_, rfl, rfl⟩
        rw [hn]; rfl
      · have hn := hno2 () (fun e => by omega)
        refine K.AT.sel [0, 0] rfl ?_
        refine K.done (by first | exact Or.inl rfl | exact Or.inr rfl) rfl (by first | exact K.Base.le.refl _ | assumption) (H' := []) rfl ⟨?_, rfl, rfl⟩
        rw [hn]; rfl
      · have n8 : r.images.length = s.images.length := by omega
        have n9 : r.lives.length = s.lives.length := by omega
        have n10 : r.dirty.length = s.dirty.length := by omega
        refine K.c_loop (σ := Nat) (fun j => [(2, .pointer (some ⟨B1, 0, none⟩)), (3, .pointer (some ⟨B2, 0, none⟩)), (5, .int .i64 j)]) (fun _ => h) (fun _ => blk B2 31 (cR s (.slice bd s.op.data.length dd) (.slice bi s.images.length di) (.slice bl s.lives.length dl) (.slice by_ s.dirty.length dy)) :: blk B1 31 (cR r (.slice ad r.op.data.length cd) (.slice ai r.images.length ci) (.slice al r.lives.length cl) (.slice ay r.dirty.length cy)) :: F)
          (fun j => j ≤ r.images.length ∧ ∀ _ : Unit, ∀ i, i < j → r.images[i]? = s.images[i]?) (fun j => r.images.length - j) 0 ⟨Nat.zero_le _, fun _ i hi => by omega⟩ (by repeat (first | exact K.Sub.nil _ | refine K.Sub.cons rfl ?_)) rfl rfl ?_
        rintro j ⟨hj, hsm1⟩ KL hKL
        by_cases hjl : j < r.images.length
        · have hc1 : es[j]? = some (es[j]'(by omega)) := List.getElem?_eq_getElem (by omega)
          have hc0 : es[((j : Nat) : Int).toNat]? = some (es[j]'(by omega)) := by rw [Int.toNat_natCast]; exact hc1
          have hx1 : r.images[j]? = some (r.images[j]'(by omega)) := List.getElem?_eq_getElem (by omega)
          have hd1 : fs[j]? = some (fs[j]'(by omega)) := List.getElem?_eq_getElem (by omega)
          have hd0 : fs[((j : Nat) : Int).toNat]? = some (fs[j]'(by omega)) := by rw [Int.toNat_natCast]; exact hd1
          have hy1 : s.images[j]? = some (s.images[j]'(by omega)) := List.getElem?_eq_getElem (by omega)
          generalize es[j]'(by omega) = c at hc0 hc1
          generalize r.images[j]'(by omega) = x at hx1
          generalize fs[j]'(by omega) = c2 at hd0 hd1
          generalize s.images[j]'(by omega) = y at hy1
          obtain ⟨hpx, cx, rfl, hpcx⟩ := hi3 j c x hc1 hx1
          obtain ⟨hpy, cy2, rfl, hpcy⟩ := gi3 j c2 y hd1 hy1
          have hsp := SameP h cx cy2 x.to y.to hpcx hpcy
          have hlx : cx.length = 4 := by obtain ⟨_, _, e, _⟩ := hpcx; rw [e]; rfl
          have hly : cy2.length = 4 := by obtain ⟨_, _, e, _⟩ := hpcy; rw [e]; rfl
          clear hpcx hpcy
          have hnoxy : ∀ _ : Unit, x ≠ y → decide (z0 r = z0 s) = false := fun _ hxy => hno3 () ⟨j, .inl (fun e => hxy (by rw [hx1, hy1] at e; cases e; rfl))⟩
          have hgo : ∀ _ : Unit, x = y → ∀ i, i < j + 1 → r.images[i]? = s.images[i]? := fun _ hxy i hi => by
            by_cases hij : i < j
            · exact hsm1 () i hij
            · obtain rfl : i = j := by omega
              rw [hx1, hy1, hxy]
          have hxe := fun (_ : Unit) => img_eq x y
          by_cases hpe : x.page = y.page
          · (repeat' (first | refine X.rq ?_ | (refine X.rc ?_ ?_ <;> intro hc <;> first | (exfalso; omega) | skip)))
            refine X.draw ([blk B2 31 (cR s (.slice bd s.op.data.length dd) (.slice bi s.images.length di) (.slice bl s.lives.length dl) (.slice by_ s.dirty.length dy)), blk B1 31 (cR r (.slice ad r.op.data.length cd) (.slice ai r.images.length ci) (.slice al r.lives.length cl) (.slice ay r.dirty.length cy))]) [] (.pu 0 (.pu 2 (.pu 6 (.pu 8 (.st 1 (.st 3 (.pu 4 (.st 5 (.st 7 (.st 9 (.pu 10 (.st 11 (.pu 12 (.pu 13 (.pu 14 (.pu 16 (.pu 20 (.pu 22 (.st 15 (.st 17 (.pu 18 (.st 19 (.st 21 (.st 23 (.pu 24 (.st 25 (.on 26 (.pu 27 (.pu 28 .nil))))))))))))))))))))))))))))) ?_
            refine K.d_pu rfl (fun _ _ => X.fa) rfl ?_
            refine K.d_pu rfl (fun _ _ => X.mv) rfl ?_
            refine K.d_pu rfl (fun _ _ => X.fa) rfl ?_
            refine K.d_pu rfl (fun _ _ => X.mv) rfl ?_
            refine K.d_st rfl X.ld rfl ?_
            refine K.d_stE rfl (K.p_indexL hi1 (Fx.und rfl) (Fx.sz rfl) rfl rfl (by omega) hc0) rfl ?_
            rintro v3 ⟨b3, o3, rfl, hcel3⟩
            refine K.d_pu rfl (fun _ _ => X.fa) rfl ?_
            refine K.d_st rfl (K.p_load (Fx.agg rfl) rfl (K.Cel.up hcel3.1)) rfl ?_
            refine K.d_st rfl X.ld rfl ?_
            refine K.d_stE rfl (K.p_indexL gi1 (Fx.und rfl) (Fx.sz rfl) rfl rfl (by omega) hd0) rfl ?_
            rintro v4 ⟨b4, o4, rfl, hcel4⟩
            refine K.d_pu rfl (fun _ _ => X.fa) rfl ?_
            refine K.d_st rfl (K.p_load (Fx.agg rfl) rfl (K.Cel.up hcel4.1)) rfl ?_
            refine K.d_pu rfl (fun _ _ => X.bneq) rfl ?_
            rw [show decide ((x.page : Int) ≠ y.page) = false from decide_eq_false (by omega)]
            refine K.d_pu rfl (fun _ _ => X.mv) rfl ?_
            first | refine K.d_skip rfl rfl rfl rfl ?_ | refine K.d_skipU rfl rfl rfl rfl rfl ?_ | refine K.d_puG rfl rfl rfl (fun _ _ => X.fa) rfl ?_
            first | refine K.d_skip rfl rfl rfl rfl ?_ | refine K.d_skipU rfl rfl rfl rfl rfl ?_ | refine K.d_puG rfl rfl rfl (fun _ _ => X.mv) rfl ?_
            first | refine K.d_skip rfl rfl rfl rfl ?_ | refine K.d_skipU rfl rfl rfl rfl rfl ?_ | refine K.d_puG rfl rfl rfl (fun _ _ => X.fa) rfl ?_
            first | refine K.d_skip rfl rfl rfl rfl ?_ | refine K.d_skipU rfl rfl rfl rfl rfl ?_ | refine K.d_puG rfl rfl rfl (fun _ _ => X.mv) rfl ?_
            first | refine K.d_skipS rfl rfl rfl rfl ?_ | refine K.d_skipUS rfl rfl rfl rfl rfl ?_ | refine K.d_stG rfl rfl rfl X.ld rfl ?_
            refine K.d_stGE rfl rfl rfl (K.p_indexL hi1 (Fx.und rfl) (Fx.sz rfl) rfl rfl (by omega) hc0) rfl ?_
            rintro v5 ⟨b5, o5, rfl, hcel5⟩
            first | refine K.d_skip rfl rfl rfl rfl ?_ | refine K.d_skipU rfl rfl rfl rfl rfl ?_ | refine K.d_puG rfl rfl rfl (fun _ _ => X.fa) rfl ?_
            refine K.d_stG rfl rfl rfl (K.p_loadM (Fx.agg rfl) rfl (Cels.up hcel5.2) (Fx.sz rfl) hlx) rfl ?_
            first | refine K.d_skipS rfl rfl rfl rfl ?_ | refine K.d_skipUS rfl rfl rfl rfl rfl ?_ | refine K.d_stG rfl rfl rfl X.ld rfl ?_
            refine K.d_stGE rfl rfl rfl (K.p_indexL gi1 (Fx.und rfl) (Fx.sz rfl) rfl rfl (by omega) hd0) rfl ?_
            rintro v6 ⟨b6, o6, rfl, hcel6⟩
            first | refine K.d_skip rfl rfl rfl rfl ?_ | refine K.d_skipU rfl rfl rfl rfl rfl ?_ | refine K.d_puG rfl rfl rfl (fun _ _ => X.fa) rfl ?_
            refine K.d_stG rfl rfl rfl (K.p_loadM (Fx.agg rfl) rfl (Cels.up hcel6.2) (Fx.sz rfl) hly) rfl ?_
            refine K.d_on rfl (fun KK hKK => ?_)
            refine K.s_take rfl rfl ?_
            refine K.l_callV (Fx.cal rfl) rfl hsp (K.pp [] rfl) rfl rfl ?_
            simp only [List.nil_append]
            refine K.l_nil ?_
            refine X.onE hKK ?_
            first | refine K.d_skip rfl rfl rfl rfl ?_ | refine K.d_skipU rfl rfl rfl rfl rfl ?_ | refine K.d_puG rfl rfl rfl (fun _ _ => X.nt) rfl ?_
            refine K.d_pu rfl (fun _ _ => X.pk) rfl ?_
            refine K.d_nil ?_
            by_cases hte : x.to = y.to
            · rw [show (decide ¬ x.to = y.to) = false from decide_eq_false (fun h => h hte)]
              (repeat' (first | refine X.rq ?_ | (refine X.rc ?_ ?_ <;> intro hc <;> first | (exfalso; omega) | skip)))
              refine K.a_round hKL (j + 1) ⟨by omega, fun _ => hgo () ((hxe ()).2 ⟨hpe, hte⟩)⟩ (by repeat (first | exact K.Sub.nil _ | refine K.Sub.cons rfl ?_)) rfl rfl (by omega)
            · rw [show (decide ¬ x.to = y.to) = true from decide_eq_true hte]
              (repeat' (first | refine X.rq ?_ | (refine X.rc ?_ ?_ <;> intro hc <;> first | (exfalso; omega) | skip)))
              have hn := hnoxy () (fun e => hte ((hxe ()).1 e).2)
              refine K.AT.sel [0, 0] rfl ?_
              refine K.done (by first | exact Or.inl rfl | exact Or.inr rfl) rfl (by first | exact K.Base.le.refl _ | assumption) (H' := []) rfl ⟨?_, rfl, rfl⟩
              rw [hn]; rfl
          · (repeat' (first | refine X.rq ?_ | (refine X.rc ?_ ?_ <;> intro hc <;> first | (exfalso; omega) | skip)))
            refine X.draw ([blk B2 31 (cR s (.slice bd s.op.data.length dd) (.slice bi s.images.length di) (.slice bl s.lives.length dl) (.slice by_ s.dirty.length dy)), blk B1 31 (cR r (.slice ad r.op.data.length cd) (.slice ai r.images.length ci) (.slice al r.lives.length cl) (.slice ay r.dirty.length cy))]) [] (.pu 0 (.pu 2 (.pu 6 (.pu 8 (.st 1 (.st 3 (.pu 4 (.st 5 (.st 7 (.st 9 (.pu 10 (.st 11 (.pu 12 (.pu 13 (.pu 14 (.pu 16 (.pu 20 (.pu 22 (.st 15 (.st 17 (.pu 18 (.st 19 (.st 21 (.st 23 (.pu 24 (.st 25 (.on 26 (.pu 27 (.pu 28 .nil))))))))))))))))))))))))))))) ?_
            refine K.d_pu rfl (fun _ _ => X.fa) rfl ?_
            refine K.d_pu rfl (fun _ _ => X.mv) rfl ?_
            refine K.d_pu rfl (fun _ _ => X.fa) rfl ?_
            refine K.d_pu rfl (fun _ _ => X.mv) rfl ?_
            refine K.d_st rfl X.ld rfl ?_
            refine K.d_stE rfl (K.p_indexL hi1 (Fx.und rfl) (Fx.sz rfl) rfl rfl (by omega) hc0) rfl ?_
            rintro v3 ⟨b3, o3, rfl, hcel3⟩
            refine K.d_pu rfl (fun _ _ => X.fa) rfl ?_
            refine K.d_st rfl (K.p_load (Fx.agg rfl) rfl (K.Cel.up hcel3.1)) rfl ?_
            refine K.d_st rfl X.ld rfl ?_
            refine K.d_stE rfl (K.p_indexL gi1 (Fx.und rfl) (Fx.sz rfl) rfl rfl (by omega) hd0) rfl ?_
            rintro v4 ⟨b4, o4, rfl, hcel4⟩
            refine K.d_pu rfl (fun _ _ => X.fa) rfl ?_
            refine K.d_st rfl (K.p_load (Fx.agg rfl) rfl (K.Cel.up hcel4.1)) rfl ?_
            refine K.d_pu rfl (fun _ _ => X.bneq) rfl ?_
            rw [show decide ((x.page : Int) ≠ y.page) = true from decide_eq_true (by omega)]
            refine K.d_pu rfl (fun _ _ => X.mv) rfl ?_
            first | refine K.d_skip rfl rfl rfl rfl ?_ | refine K.d_skipU rfl rfl rfl rfl rfl ?_ | refine K.d_puG rfl rfl rfl (fun _ _ => X.fa) rfl ?_
            first | refine K.d_skip rfl rfl rfl rfl ?_ | refine K.d_skipU rfl rfl rfl rfl rfl ?_ | refine K.d_puG rfl rfl rfl (fun _ _ => X.mv) rfl ?_
            first | refine K.d_skip rfl rfl rfl rfl ?_ | refine K.d_skipU rfl rfl rfl rfl rfl ?_ | refine K.d_puG rfl rfl rfl (fun _ _ => X.fa) rfl ?_
            first | refine K.d_skip rfl rfl rfl rfl ?_ | refine K.d_skipU rfl rfl rfl rfl rfl ?_ | refine K.d_puG rfl rfl rfl (fun _ _ => X.mv) rfl ?_
            first | refine K.d_skipS rfl rfl rfl rfl ?_ | refine K.d_skipUS rfl rfl rfl rfl rfl ?_ | refine K.d_stG rfl rfl rfl X.ld rfl ?_
            first | refine K.d_skipS rfl rfl rfl rfl ?_ | refine K.d_skipUS rfl rfl rfl rfl rfl ?_ | refine K.d_stG rfl rfl rfl X.ia rfl ?_
            first | refine K.d_skip rfl rfl rfl rfl ?_ | refine K.d_skipU rfl rfl rfl rfl rfl ?_ | refine K.d_puG rfl rfl rfl (fun _ _ => X.fa) rfl ?_
            first | refine K.d_skipS rfl rfl rfl rfl ?_ | refine K.d_skipUS rfl rfl rfl rfl rfl ?_ | refine K.d_stG rfl rfl rfl X.ld rfl ?_
            first | refine K.d_skipS rfl rfl rfl rfl ?_ | refine K.d_skipUS rfl rfl rfl rfl rfl ?_ | refine K.d_stG rfl rfl rfl X.ld rfl ?_
            first | refine K.d_skipS rfl rfl rfl rfl ?_ | refine K.d_skipUS rfl rfl rfl rfl rfl ?_ | refine K.d_stG rfl rfl rfl X.ia rfl ?_
            first | refine K.d_skip rfl rfl rfl rfl ?_ | refine K.d_skipU rfl rfl rfl rfl rfl ?_ | refine K.d_puG rfl rfl rfl (fun _ _ => X.fa) rfl ?_
            first | refine K.d_skipS rfl rfl rfl rfl ?_ | refine K.d_skipUS rfl rfl rfl rfl rfl ?_ | refine K.d_stG rfl rfl rfl X.ld rfl ?_
            refine K.d_on rfl (fun KK hKK => ?_)
            first | refine K.s_skip rfl rfl rfl ?_ | refine K.s_skipU rfl rfl rfl rfl ?_
            refine K.l_nil ?_
            refine X.onE hKK ?_
            first | refine K.d_skip rfl rfl rfl rfl ?_ | refine K.d_skipU rfl rfl rfl rfl rfl ?_ | refine K.d_puG rfl rfl rfl (fun _ _ => X.nt) rfl ?_
            refine K.d_pu rfl (fun _ _ => X.pk) rfl ?_
            refine K.d_nil ?_
            (repeat' (first | refine X.rq ?_ | (refine X.rc ?_ ?_ <;> intro hc <;> first | (exfalso; omega) | skip)))
            have hn := hnoxy () (fun e => hpe ((hxe ()).1 e).1)
            refine K.AT.sel [0, 0] rfl ?_
            refine K.done (by first | exact Or.inl rfl | exact Or.inr rfl) rfl (by first | exact K.Base.le.refl _ | assumption) (H' := []) rfl ⟨?_, rfl, rfl⟩
            rw [hn]; rfl
        · obtain rfl : j = r.images.length := by omega
          (repeat' (first | refine X.rq ?_ | (refine X.rc ?_ ?_ <;> intro hc <;> first | (exfalso; omega) | skip)))
          refine K.c_loop (σ := Nat) (fun j => [(2, .pointer (some ⟨B1, 0, none⟩)), (3, .pointer (some ⟨B2, 0, none⟩)), (6, .int .i64 j)]) (fun _ => h) (fun _ => blk B2 31 (cR s (.slice bd s.op.data.length dd) (.slice bi s.images.length di) (.slice bl s.lives.length dl) (.slice by_ s.dirty.length dy)) :: blk B1 31 (cR r (.slice ad r.op.data.length cd) (.slice ai r.images.length ci) (.slice al r.lives.length cl) (.slice ay r.dirty.length cy)) :: F)
            (fun j => j ≤ r.lives.length ∧ ∀ _ : Unit, ∀ i, i < j → r.lives[i]? = s.lives[i]?) (fun j => r.lives.length - j) 0 ⟨Nat.zero_le _, fun _ i hi => by omega⟩ (by repeat (first | exact K.Sub.nil _ | refine K.Sub.cons rfl ?_)) rfl rfl ?_
          rintro j ⟨hj, hsm2⟩ KL hKL
          by_cases hjl : j < r.lives.length
          · have hx1 : r.lives[j]? = some (r.lives[j]'(by omega)) := List.getElem?_eq_getElem (by omega)
            have hy1 : s.lives[j]? = some (s.lives[j]'(by omega)) := List.getElem?_eq_getElem (by omega)
            generalize r.lives[j]'(by omega) = x at hx1
            generalize s.lives[j]'(by omega) = y at hy1
            have hc0 : (r.lives.map Rc.cL)[((j : Nat) : Int).toNat]? = some (Rc.cL x) := by rw [Int.toNat_natCast, List.getElem?_map, hx1]; rfl
            have hd0 : (s.lives.map Rc.cL)[((j : Nat) : Int).toNat]? = some (Rc.cL y) := by rw [Int.toNat_natCast, List.getElem?_map, hy1]; rfl
            (repeat' (first | refine X.rq ?_ | (refine X.rc ?_ ?_ <;> intro hc <;> first | (exfalso; omega) | skip)))
            refine X.draw ([blk B2 31 (cR s (.slice bd s.op.data.length dd) (.slice bi s.images.length di) (.slice bl s.lives.length dl) (.slice by_ s.dirty.length dy)), blk B1 31 (cR r (.slice ad r.op.data.length cd) (.slice ai r.images.length ci) (.slice al r.lives.length cl) (.slice ay r.dirty.length cy))]) [] (.pu 0 (.pu 2 (.pu 5 (.pu 7 (.st 1 (.st 3 (.st 4 (.st 6 (.st 8 (.st 9 (.pu 10 .nil))))))))))) ?_
            refine K.d_pu rfl (fun _ _ => X.fa) rfl ?_
            refine K.d_pu rfl (fun _ _ => X.mv) rfl ?_
            refine K.d_pu rfl (fun _ _ => X.fa) rfl ?_
            refine K.d_pu rfl (fun _ _ => X.mv) rfl ?_
            refine K.d_st rfl X.ld rfl ?_
            refine K.d_stE rfl (K.p_indexL hl4 (Fx.und rfl) (Fx.sz rfl) rfl rfl (by omega) hc0) rfl ?_
            rintro v3 ⟨b3, o3, rfl, hcel3⟩
            refine K.d_st rfl (K.p_loadM (Fx.agg rfl) rfl (Cels.up hcel3) (Fx.sz rfl) rfl) rfl ?_
            refine K.d_st rfl X.ld rfl ?_
            refine K.d_stE rfl (K.p_indexL gl4 (Fx.und rfl) (Fx.sz rfl) rfl rfl (by omega) hd0) rfl ?_
            rintro v4 ⟨b4, o4, rfl, hcel4⟩
            refine K.d_st rfl (K.p_loadM (Fx.agg rfl) rfl (Cels.up hcel4) (Fx.sz rfl) rfl) rfl ?_
            refine K.d_pu rfl (fun _ _ => K.p_neA (Fx.flat rfl) rfl rfl (leafL x y)) rfl ?_
            refine K.d_nil ?_
            by_cases hxy : x = y
            · rw [decide_eq_true hxy]
              (repeat' (first | refine X.rq ?_ | (refine X.rc ?_ ?_ <;> intro hc <;> first | (exfalso; omega) | skip)))
              refine K.a_round hKL (j + 1) ⟨by omega, fun _ i hi => ?_⟩ (by repeat (first | exact K.Sub.nil _ | refine K.Sub.cons rfl ?_)) rfl rfl (by omega)
              by_cases hij : i < j
              · exact hsm2 () i hij
              · obtain rfl : i = j := by omega
                rw [hx1, hy1, hxy]
            · rw [decide_eq_false hxy]
              (repeat' (first | refine X.rq ?_ | (refine X.rc ?_ ?_ <;> intro hc <;> first | (exfalso; omega) | skip)))
              have hn := hno3 () ⟨j, .inr <| .inl (fun e => hxy (by rw [hx1, hy1] at e; cases e; rfl))⟩
              refine K.AT.sel [0, 0] rfl ?_
              refine K.done (by first | exact Or.inl rfl | exact Or.inr rfl) rfl (by first | exact K.Base.le.refl _ | assumption) (H' := []) rfl ⟨?_, rfl, rfl⟩
              rw [hn]; rfl
          · obtain rfl : j = r.lives.length := by omega
            (repeat' (first | refine X.rq ?_ | (refine X.rc ?_ ?_ <;> intro hc <;> first | (exfalso; omega) | skip)))
            refine K.c_loop (σ := Nat) (fun j => [(2, .pointer (some ⟨B1, 0, none⟩)), (3, .pointer (some ⟨B2, 0, none⟩)), (7, .int .i64 j)]) (fun _ => h) (fun _ => blk B2 31 (cR s (.slice bd s.op.data.length dd) (.slice bi s.images.length di) (.slice bl s.lives.length dl) (.slice by_ s.dirty.length dy)) :: blk B1 31 (cR r (.slice ad r.op.data.length cd) (.slice ai r.images.length ci) (.slice al r.lives.length cl) (.slice ay r.dirty.length cy)) :: F)
              (fun j => j ≤ r.dirty.length ∧ ∀ _ : Unit, ∀ i, i < j → r.dirty[i]? = s.dirty[i]?) (fun j => r.dirty.length - j) 0 ⟨Nat.zero_le _, fun _ i hi => by omega⟩ (by repeat (first | exact K.Sub.nil _ | refine K.Sub.cons rfl ?_)) rfl rfl ?_
            rintro j ⟨hj, hsm3⟩ KL hKL
            by_cases hjl : j < r.dirty.length
            · have hx1 : r.dirty[j]? = some (r.dirty[j]'(by omega)) := List.getElem?_eq_getElem (by omega)
              have hy1 : s.dirty[j]? = some (s.dirty[j]'(by omega)) := List.getElem?_eq_getElem (by omega)
              generalize r.dirty[j]'(by omega) = x at hx1
              generalize s.dirty[j]'(by omega) = y at hy1
              have hc0 : (r.dirty.map Rc.cD)[((j : Nat) : Int).toNat]? = some (Rc.cD x) := by rw [Int.toNat_natCast, List.getElem?_map, hx1]; rfl
              have hd0 : (s.dirty.map Rc.cD)[((j : Nat) : Int).toNat]? = some (Rc.cD y) := by rw [Int.toNat_natCast, List.getElem?_map, hy1]; rfl
              (repeat' (first | refine X.rq ?_ | (refine X.rc ?_ ?_ <;> intro hc <;> first | (exfalso; omega) | skip)))
              refine X.draw ([blk B2 31 (cR s (.slice bd s.op.data.length dd) (.slice bi s.images.length di) (.slice bl s.lives.length dl) (.slice by_ s.dirty.length dy)), blk B1 31 (cR r (.slice ad r.op.data.length cd) (.slice ai r.images.length ci) (.slice al r.lives.length cl) (.slice ay r.dirty.length cy))]) [] (.pu 0 (.pu 2 (.pu 5 (.pu 7 (.st 1 (.st 3 (.st 4 (.st 6 (.st 8 (.st 9 (.pu 10 .nil))))))))))) ?_
              refine K.d_pu rfl (fun _ _ => X.fa) rfl ?_
              refine K.d_pu rfl (fun _ _ => X.mv) rfl ?_
              refine K.d_pu rfl (fun _ _ => X.fa) rfl ?_
              refine K.d_pu rfl (fun _ _ => X.mv) rfl ?_
              refine K.d_st rfl X.ld rfl ?_
              refine K.d_stE rfl (K.p_indexL hd2 (Fx.und rfl) (Fx.sz rfl) rfl rfl (by omega) hc0) rfl ?_
              rintro v3 ⟨b3, o3, rfl, hcel3⟩
              refine K.d_st rfl (K.p_loadM (Fx.agg rfl) rfl (Cels.up hcel3) (Fx.sz rfl) rfl) rfl ?_
              refine K.d_st rfl X.ld rfl ?_
              refine K.d_stE rfl (K.p_indexL gd2 (Fx.und rfl) (Fx.sz rfl) rfl rfl (by omega) hd0) rfl ?_
              rintro v4 ⟨b4, o4, rfl, hcel4⟩
              refine K.d_st rfl (K.p_loadM (Fx.agg rfl) rfl (Cels.up hcel4) (Fx.sz rfl) rfl) rfl ?_
              refine K.d_pu rfl (fun _ _ => K.p_neA (Fx.flat rfl) rfl rfl (leafD x y)) rfl ?_
              refine K.d_nil ?_
              by_cases hxy : x = y
              · rw [decide_eq_true hxy]
                (repeat' (first | refine X.rq ?_ | (refine X.rc ?_ ?_ <;> intro hc <;> first | (exfalso; omega) | skip)))
                refine K.a_round hKL (j + 1) ⟨by omega, fun _ i hi => ?_⟩ (by repeat (first | exact K.Sub.nil _ | refine K.Sub.cons rfl ?_)) rfl rfl (by omega)
                by_cases hij : i < j
                · exact hsm3 () i hij
                · obtain rfl : i = j := by omega
                  rw [hx1, hy1, hxy]
              · rw [decide_eq_false hxy]
                (repeat' (first | refine X.rq ?_ | (refine X.rc ?_ ?_ <;> intro hc <;> first | (exfalso; omega) | skip)))
                have hn := hno3 () ⟨j, .inr <| .inr (fun e => hxy (by rw [hx1, hy1] at e; cases e; rfl))⟩
                refine K.AT.sel [0, 0] rfl ?_
                refine K.done (by first | exact Or.inl rfl | exact Or.inr rfl) rfl (by first | exact K.Base.le.refl _ | assumption) (H' := []) rfl ⟨?_, rfl, rfl⟩
                rw [hn]; rfl
            · obtain rfl : j = r.dirty.length := by omega
              (repeat' (first | refine X.rq ?_ | (refine X.rc ?_ ?_ <;> intro hc <;> first | (exfalso; omega) | skip)))
              have hz : z0 r = z0 s := (z0_eq r s).2 ⟨n1, n2, n3, n4, n5, n6, n7, hope, List.ext_getElem? (fun i => by
                  by_cases hi : i < r.images.length
                  · exact hsm1 () i hi
                  · rw [List.getElem?_eq_none (by omega), List.getElem?_eq_none (by omega)]), List.ext_getElem? (fun i => by
                  by_cases hi : i < r.lives.length
                  · exact hsm2 () i hi
                  · rw [List.getElem?_eq_none (by omega), List.getElem?_eq_none (by omega)]), List.ext_getElem? (fun i => by
                  by_cases hi : i < r.dirty.length
                  · exact hsm3 () i hi
                  · rw [List.getElem?_eq_none (by omega), List.getElem?_eq_none (by omega)])⟩
              refine K.AT.sel [0, 0] rfl ?_
              refine K.done (by first | exact Or.inl rfl | exact Or.inr rfl) rfl (by first | exact K.Base.le.refl _ | assumption) (H' := []) rfl ⟨?_, rfl, rfl⟩
              rw [decide_eq_true hz]; rfl

    · have hn := hno () (fun e => hope e.2.2.2.2.2.2.2)
      rw [decide_eq_false hope]
      (repeat' (first | refine X.rq ?_ | (refine X.rc ?_ ?_ <;> intro hc <;> first | (exfalso; omega) | skip)))
      refine K.AT.sel [0, 0] rfl ?_
      refine K.done (by first | exact Or.inl rfl | exact Or.inr rfl) rfl (by first | exact K.Base.le.refl _ | assumption) (H' := []) rfl ⟨?_, rfl, rfl⟩
      rw [hn]; rfl
  · have hno := hno () (fun e => hn1 ⟨e.1, e.2.1, e.2.2.1, e.2.2.2.1, e.2.2.2.2.1, e.2.2.2.2.2.1, e.2.2.2.2.2.2.1⟩)
    (repeat' (first | refine X.rq ?_ | (refine X.rc ?_ ?_ <;> intro hc <;> first | (exfalso; omega) | skip)))
    all_goals
      refine K.AT.sel [0, 0] rfl ?_
      refine K.done (by first | exact Or.inl rfl | exact Or.inr rfl) rfl (by first | exact K.Base.le.refl _ | assumption) (H' := []) rfl ⟨?_, rfl, rfl⟩
      rw [hno]; rfl
end Go.Proofs.Ytihambjhlhgaeaa.Rc
