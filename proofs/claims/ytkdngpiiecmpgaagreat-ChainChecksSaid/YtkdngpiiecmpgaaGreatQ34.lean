/-
 Records are repeated on pages: plainly, and the code. Conditions: each theorem's own.
-/
import Derived.Test.YtkdngpiiecmpgaaGreatQ33
namespace Go.Proofs.YtkdngpiiecmpgaaGreat.Ch
open Go Go.K Go.Proofs Go.Proofs.YtkdngpiiecmpgaaGreat Go.Proofs.YtkdngpiiecmpgaaGreat.Pg Go.Proofs.YtkdngpiiecmpgaaGreat.Rc
set_option linter.unusedVariables false
set_option linter.unusedSimpArgs false
set_option maxRecDepth 10000

def redosQ (from_ : Nat) : List PImg → List Recd → List PImg × Int
 | l, [] => (l, 0)
 | l, r :: rs => if r.lsn < from_ then redosQ from_ l rs else if (redoQ l r).2 ≠ 0 then ([], (redoQ l r).2) else redosQ from_ (redoQ l r).1 rs
def pagesQ : Nat → List PImg → Bool
 | _, [] => true
 | last, x :: l => decide (last < x.page) && (mayQ x.to || zeroQ x.to) && pagesQ x.page l
def RedoQ (l : List PImg) (rs : List Recd) (from_ : Nat) : List PImg × Int :=
 if pagesQ 0 l = false then ([], 1) else if rightQ 0 rs = false then ([], 5) else redosQ from_ l rs
theorem pages_step {l : List PImg} {j last : Nat} {x : PImg} (h : l[j]? = some x) : pagesQ last (l.drop j) = (decide (last < x.page) && (mayQ x.to || zeroQ x.to) && pagesQ x.page (l.drop (j + 1))) := by
 obtain ⟨hj, rfl⟩ := List.getElem?_eq_some_iff.1 h
 rw [List.drop_eq_getElem_cons hj]
 rfl
theorem redos_step {rs : List Recd} {l : List PImg} {f j : Nat} {r : Recd} (h : rs[j]? = some r) : redosQ f l (rs.drop j) = if r.lsn < f then redosQ f l (rs.drop (j + 1)) else if (redoQ l r).2 ≠ 0 then ([], (redoQ l r).2) else redosQ f (redoQ l r).1 (rs.drop (j + 1)) := by
 obtain ⟨hj, rfl⟩ := List.getElem?_eq_some_iff.1 h
 rw [List.drop_eq_getElem_cons hj]
 rfl
theorem pages_rise : ∀ {l : List PImg} {n : Nat}, pagesQ n l = true → Rising PImg.page l ∧ (∀ x ∈ l, n < x.page) ∧ ∀ x ∈ l, mayQ x.to = true ∨ zeroQ x.to = true
 | [], _, _ => ⟨List.Pairwise.nil, (fun x h => by cases h), (fun x h => by cases h)⟩
 | x :: l, n, h => by
  rw [pagesQ, Bool.and_eq_true, Bool.and_eq_true, decide_eq_true_eq, Bool.or_eq_true] at h
  obtain ⟨h1, h2, h3⟩ := pages_rise h.2
  refine ⟨List.pairwise_cons.2 ⟨h2, h1⟩, fun z hz => ?_, fun z hz => ?_⟩
  ·rcases List.mem_cons.1 hz with rfl | hz
   ·exact h.1.1
   ·exact Nat.lt_trans h.1.1 (h2 z hz)
  ·rcases List.mem_cons.1 hz with rfl | hz
   ·exact h.1.2
   ·exact h3 z hz
theorem small_page {p : Pag} (h : mayQ p = true ∨ zeroQ p = true) : smallX p.cells := by
 rcases h with h | h
 ·obtain ⟨_, h60, hc, _⟩ := (mayQ_iff _).1 h
  have hs := small_of (fun i x hi => (hc i x hi).1) (by omega)
  exact ⟨by omega, fun y hy => by have := hs.2 y hy; omega⟩
 ·unfold zeroQ at h
  simp only [Bool.and_eq_true, decide_eq_true_eq] at h
  have : p.cells = [] := List.eq_nil_of_length_eq_zero h.2
  rw [this]
  exact ⟨by simp, fun y hy => by cases hy⟩
def RedoneAll (h : Base) (l : List PImg) (rs : List Recd) (f : Nat) (u : Value) (h' : Base) (H' : List Asrt) : Prop :=
 ((RedoQ l rs f).2 ≠ 0 ∧ (RedoQ l rs f).1 = [] ∧ u = .tuple #[.slice none 0 0, .int .i64 (RedoQ l rs f).2] ∧ H' = []) ∨
 ((RedoQ l rs f).2 = 0 ∧ ∃ a n k es, n = (RedoQ l rs f).1.length ∧ RowsG (ImgG h h') es (RedoQ l rs f).1 ∧ u = .tuple #[bufV a n k, .int .i64 0] ∧ H' = [bufA 52 5 a n k es.flatten])
structure CopS where
 j : Nat
 last : Nat
 a : Option Nat
 k : Nat
 es : List (List Value)
 cs : List Value
 b : Base
structure RunS where
 j : Nat
 es : List (List Value)
 l : List PImg
 b : Base
set_option maxHeartbeats 16000000 in
theorem CRedo (h : Base) (v w : Value) (es : List (List Value)) (l : List PImg) (ers : List (List Value)) (rs : List Recd) (f : Nat) (hv : SL h 5 v es) (hr : RowsG (ImgC h) es l) (hl : l.length ≤ 1000000)
  (hv2 : SL h 15 w ers) (hr2 : RowsG (RecC h) ers rs) (hl2 : rs.length ≤ 9223372036854775807) (hs : ∀ x ∈ rs, smallR x) (hf : f < 18446744073709551616) :
  Tr Tryz.prog 16 [v, w, .int .u64 f] h [] (RedoneAll h l rs f) := by
 have hel := hr.1
 have hel2 := hr2.1
 obtain ⟨ao, ca, rfl⟩ := hv.len
 obtain ⟨ao2, ca2, rfl⟩ := hv2.len
 rw [hel] at hv ⊢
 rw [hel2] at hv2 ⊢
 refine K.enter Tryz.func16 rfl (Nat.le_of_ble_eq_true rfl) (fun F => ?_)
 simp only [List.nil_append, List.cons_append]
 (repeat' (first | refine X.rq ?_ | (refine X.rc ?_ ?_ <;> intro hc <;> first | (exfalso; omega) | skip)))
 refine K.WC.nilBuf 52 5 ?_
 refine K.c_loop (σ := CopS) (fun q => [(1, .slice ao2 rs.length ca2), (2, .int .u64 f), (8, bufV q.a q.j q.k), (9, .int .u32 q.last), (15, .slice ao l.length ca), (16, .int .i64 l.length), (17, .int .i64 q.j)]) (fun q => q.b)
  (fun q => bufA 52 5 q.a q.j q.k q.cs :: F)
  (fun q => q.j ≤ l.length ∧ h.le q.b ∧ RowsG (ImgG h q.b) q.es (l.take q.j) ∧ q.cs = q.es.flatten ∧ pagesQ 0 l = pagesQ q.last (l.drop q.j)) (fun q => l.length - q.j)
  ⟨0, 0, none, 0, [], [], h⟩ ⟨Nat.zero_le _, .refl _, ⟨rfl, fun j c x hc => by cases hc⟩, rfl, rfl⟩ (by repeat (first | exact K.Sub.nil _ | refine K.Sub.cons rfl ?_)) rfl rfl ?_
 rintro ⟨j, last, a, k, es1, cs1, h1⟩ ⟨hj, le1, hr1, hcs1, hpq⟩ KL hKL
 dsimp only at hj le1 hr1 hcs1 hpq ⊢
 by_cases hjl : j < l.length
 ·have hc1 : es[j]? = some (es[j]'(by omega)) := List.getElem?_eq_getElem (by omega)
  have hc0 : es[((j : Nat) : Int).toNat]? = some (es[j]'(by omega)) := by rw [Int.toNat_natCast]; exact hc1
  have hx1 : l[j]? = some (l[j]'(by omega)) := List.getElem?_eq_getElem (by omega)
  generalize es[j]'(by omega) = ce at hc0 hc1
  generalize l[j]'(by omega) = x at hx1
  obtain ⟨hxg, pcs, rfl, hpx⟩ := hr.2 j ce x hc1 hx1
  have hpx1 := hpx.le le1
  have hmay := PMay h1 pcs x.to hpx1
  have hzer := CZero h1 pcs x.to hpx1
  have hown := fun hsm => COwn h1 pcs x.to hpx1 hsm
  have hwx := hpx.1
  obtain ⟨_, cv, rfl, ex, hsx5, _⟩ := hpx
  obtain ⟨ao5, ca5, rfl⟩ := hsx5.len
  rw [pages_step hx1] at hpq
  have hv1 := hv.le le1
  (repeat' (first | refine X.rq ?_ | (refine X.rc ?_ ?_ <;> intro hc <;> first | (exfalso; omega) | skip)))
  refine K.s_pureE (K.p_indexL hv1 (Fx.und rfl) (Fx.sz rfl) rfl rfl (by omega) hc0) rfl ?_
  rintro v2 ⟨b2', o2, rfl, hcel⟩
  refine K.s_pure (K.p_loadM (Fx.agg rfl) rfl (Cels.up hcel) (Fx.sz rfl) rfl) rfl ?_
  refine K.l_alloc (Fx.zr rfl) rfl rfl (fun B11 => ?_)
  refine X.stw ?_
  simp only [List.set_cons_zero, List.set_cons_succ, List.eraseIdx_cons_zero, List.eraseIdx_cons_succ, List.cons_append, List.nil_append]
  by_cases hlt : last < x.page
  ·rw [decide_eq_true hlt, Bool.true_and] at hpq
   (repeat' (first | refine X.rq ?_ | (refine X.rc ?_ ?_ <;> intro hc <;> first | (exfalso; omega) | skip)))
   refine K.s_pure (K.p_loadM (Fx.agg rfl) rfl (K.cels_own (pre := [.int .u32 x.page]) (cs := cP x.to (.slice ao5 ex.length ca5)) (post := []) 0 rfl rfl) (Fx.sz rfl) rfl) rfl ?_
   (repeat' (first | refine X.rq ?_ | (refine X.rc ?_ ?_ <;> intro hc <;> first | (exfalso; omega) | skip)))
   refine K.l_callV (Fx.cal rfl) rfl hmay (K.pp [] rfl) rfl rfl ?_
   simp only [List.nil_append]
   cases hmq : mayQ x.to with
   | true =>
    rw [hmq, Bool.true_or, Bool.true_and] at hpq
    have hok : mayQ x.to = true ∨ zeroQ x.to = true := .inl hmq
    have hsm := small_page hok
    (repeat' (first | refine X.rq ?_ | (refine X.rc ?_ ?_ <;> intro hc <;> first | (exfalso; omega) | skip)))
    refine X.draw ([blk B11 52 (.int .u32 x.page :: cP x.to (.slice ao5 ex.length ca5))]) [] (.pu 0 (.pu 1 (.pu 3 (.st 2 (.st 4 (.on 5 (.pu 6 (.on 7 (.on 8 (.pu 9 .nil)))))))))) ?_
    refine K.d_pu rfl (fun _ _ => X.mv) rfl ?_
    refine K.d_pu rfl (fun _ _ => X.fa) rfl ?_
    refine K.d_pu rfl (fun _ _ => X.fa) rfl ?_
    refine K.d_st rfl X.ld rfl ?_
    refine K.d_st rfl (K.p_loadM (Fx.agg rfl) rfl (K.cels_own (pre := [.int .u32 x.page]) (cs := cP x.to (.slice ao5 ex.length ca5)) (post := []) 0 rfl rfl) (Fx.sz rfl) rfl) rfl ?_
    refine K.d_on rfl (fun KK hKK => ?_)
    refine K.l_call (Fx.cal rfl) rfl (hown hsm) (K.pp [] rfl) rfl ?_
    rintro u h' H' - ⟨e, b2, cap2, l2, hl2, hk2, rfl, rfl⟩
    obtain rfl := e.symm
    simp only [pgA, List.nil_append, List.cons_append]
    refine K.l_nil ?_
    refine X.onE hKK ?_
    refine K.d_pu rfl (fun _ _ => X.bd) rfl ?_
    refine K.d_on rfl (fun KK hKK => ?_)
    refine K.l_buildSlice (Fx.und rfl) (Fx.sz rfl) rfl (Fx.zr rfl) rfl rfl rfl (cs := .int .u32 x.page :: cP x.to (bufV b2 x.to.cells.length cap2)) rfl rfl (fun B19 => ?_)
    refine K.l_nil ?_
    refine X.onE hKK ?_
    refine K.d_on rfl (fun KK hKK => ?_)
    refine K.l_append_at 4 rfl (Fx.und rfl) (Fx.und rfl) rfl (Fx.sz rfl) (Fx.zr rfl) rfl (Fx.byt rfl) rfl rfl (K.src_cells (K.cels_own (pre := []) (cs := .int .u32 x.page :: cP x.to (bufV b2 x.to.cells.length cap2)) (post := []) 0 rfl rfl) rfl (by simp [oneCell, cP, bufV])) (by omega) (by omega) rfl (fun a6 cap6 => ?_)
    simp only [List.set_cons_zero, List.set_cons_succ, List.eraseIdx_cons_zero, List.eraseIdx_cons_succ, List.cons_append, List.nil_append]
    refine K.l_nil ?_
    refine X.onE hKK ?_
    refine K.d_pu rfl (fun _ _ => X.sg) rfl ?_
    refine K.d_nil ?_
    (repeat' (first | refine X.rq ?_ | (refine X.rc ?_ ?_ <;> intro hc <;> first | (exfalso; omega) | skip)))
    have hll : x.to.cells.length = l2.length := by rw [hl2, List.length_map]
    refine K.AT.sel [0, 2] rfl ?_
    refine K.AT.perm (H' := pgA b2 cap2 l2 ++ (bufA 52 5 a6 (j + 1) cap6 (cs1 ++ (.int .u32 x.page :: cP x.to (bufV b2 x.to.cells.length cap2))) :: F)) (.refl _) ?_
    refine Ch.AT.freezePg hk2 hwx hl2 (fun h2 le2 hpf2 => ?_)
    refine K.a_round hKL ⟨j + 1, x.page, a6, cap6, es1 ++ [.int .u32 x.page :: cP x.to (bufV b2 x.to.cells.length cap2)], _, h2⟩ ⟨by dsimp only; omega, le1.trans le2, ?_, by dsimp only; rw [hcs1, List.flatten_append]; simp, hpq⟩ (by repeat (first | exact K.Sub.nil _ | refine K.Sub.cons rfl ?_)) rfl rfl (by dsimp only; omega)
    dsimp only
    rw [List.take_add_one, hx1, hll]
    exact RowsG.push (RowsG.mono (fun c y hc => hc.le (.refl _) le2) hr1) ⟨hxg, _, rfl, hpf2.le le1 (.refl _)⟩
   | false =>
    rw [hmq, Bool.false_or] at hpq
    (repeat' (first | refine X.rq ?_ | (refine X.rc ?_ ?_ <;> intro hc <;> first | (exfalso; omega) | skip)))
    refine K.s_pure (K.p_loadM (Fx.agg rfl) rfl (K.cels_own (pre := [.int .u32 x.page]) (cs := cP x.to (.slice ao5 ex.length ca5)) (post := []) 0 rfl rfl) (Fx.sz rfl) rfl) rfl ?_
    (repeat' (first | refine X.rq ?_ | (refine X.rc ?_ ?_ <;> intro hc <;> first | (exfalso; omega) | skip)))
    refine K.l_callV (Fx.cal rfl) rfl hzer (K.pp [] rfl) rfl rfl ?_
    simp only [List.nil_append]
    cases hzq : zeroQ x.to with
    | false =>
     rw [hzq, Bool.false_and] at hpq
     have hQ : RedoQ l rs f = ([], 1) := by unfold RedoQ; rw [if_pos hpq]
     (repeat' (first | refine X.rq ?_ | (refine X.rc ?_ ?_ <;> intro hc <;> first | (exfalso; omega) | skip)))
     refine K.AT.sel [0, 0] rfl ?_
     refine K.done (by first | exact Or.inl rfl | exact Or.inr rfl) rfl (by first | exact K.Base.le.refl _ | assumption) (H' := []) rfl (.inl ⟨by rw [hQ]; decide, by rw [hQ], by rw [hQ]; rfl, rfl⟩)
    | true =>
     rw [hzq, Bool.true_and] at hpq
     have hok : mayQ x.to = true ∨ zeroQ x.to = true := .inr hzq
     have hsm := small_page hok
     (repeat' (first | refine X.rq ?_ | (refine X.rc ?_ ?_ <;> intro hc <;> first | (exfalso; omega) | skip)))
     refine X.draw ([blk B11 52 (.int .u32 x.page :: cP x.to (.slice ao5 ex.length ca5))]) [] (.pu 0 (.pu 1 (.pu 3 (.st 2 (.st 4 (.on 5 (.pu 6 (.on 7 (.on 8 (.pu 9 .nil)))))))))) ?_
     refine K.d_pu rfl (fun _ _ => X.mv) rfl ?_
     refine K.d_pu rfl (fun _ _ => X.fa) rfl ?_
     refine K.d_pu rfl (fun _ _ => X.fa) rfl ?_
     refine K.d_st rfl X.ld rfl ?_
     refine K.d_st rfl (K.p_loadM (Fx.agg rfl) rfl (K.cels_own (pre := [.int .u32 x.page]) (cs := cP x.to (.slice ao5 ex.length ca5)) (post := []) 0 rfl rfl) (Fx.sz rfl) rfl) rfl ?_
     refine K.d_on rfl (fun KK hKK => ?_)
     refine K.l_call (Fx.cal rfl) rfl (hown hsm) (K.pp [] rfl) rfl ?_
     rintro u h' H' - ⟨e, b2, cap2, l2, hl2, hk2, rfl, rfl⟩
     obtain rfl := e.symm
     simp only [pgA, List.nil_append, List.cons_append]
     refine K.l_nil ?_
     refine X.onE hKK ?_
     refine K.d_pu rfl (fun _ _ => X.bd) rfl ?_
     refine K.d_on rfl (fun KK hKK => ?_)
     refine K.l_buildSlice (Fx.und rfl) (Fx.sz rfl) rfl (Fx.zr rfl) rfl rfl rfl (cs := .int .u32 x.page :: cP x.to (bufV b2 x.to.cells.length cap2)) rfl rfl (fun B19 => ?_)
     refine K.l_nil ?_
     refine X.onE hKK ?_
     refine K.d_on rfl (fun KK hKK => ?_)
     refine K.l_append_at 4 rfl (Fx.und rfl) (Fx.und rfl) rfl (Fx.sz rfl) (Fx.zr rfl) rfl (Fx.byt rfl) rfl rfl (K.src_cells (K.cels_own (pre := []) (cs := .int .u32 x.page :: cP x.to (bufV b2 x.to.cells.length cap2)) (post := []) 0 rfl rfl) rfl (by simp [oneCell, cP, bufV])) (by omega) (by omega) rfl (fun a6 cap6 => ?_)
     simp only [List.set_cons_zero, List.set_cons_succ, List.eraseIdx_cons_zero, List.eraseIdx_cons_succ, List.cons_append, List.nil_append]
     refine K.l_nil ?_
     refine X.onE hKK ?_
     refine K.d_pu rfl (fun _ _ => X.sg) rfl ?_
     refine K.d_nil ?_
     (repeat' (first | refine X.rq ?_ | (refine X.rc ?_ ?_ <;> intro hc <;> first | (exfalso; omega) | skip)))
     have hll : x.to.cells.length = l2.length := by rw [hl2, List.length_map]
     refine K.AT.sel [0, 2] rfl ?_
     refine K.AT.perm (H' := pgA b2 cap2 l2 ++ (bufA 52 5 a6 (j + 1) cap6 (cs1 ++ (.int .u32 x.page :: cP x.to (bufV b2 x.to.cells.length cap2))) :: F)) (.refl _) ?_
     refine Ch.AT.freezePg hk2 hwx hl2 (fun h2 le2 hpf2 => ?_)
     refine K.a_round hKL ⟨j + 1, x.page, a6, cap6, es1 ++ [.int .u32 x.page :: cP x.to (bufV b2 x.to.cells.length cap2)], _, h2⟩ ⟨by dsimp only; omega, le1.trans le2, ?_, by dsimp only; rw [hcs1, List.flatten_append]; simp, hpq⟩ (by repeat (first | exact K.Sub.nil _ | refine K.Sub.cons rfl ?_)) rfl rfl (by dsimp only; omega)
     dsimp only
     rw [List.take_add_one, hx1, hll]
     exact RowsG.push (RowsG.mono (fun c y hc => hc.le (.refl _) le2) hr1) ⟨hxg, _, rfl, hpf2.le le1 (.refl _)⟩
  ·rw [decide_eq_false hlt, Bool.false_and, Bool.false_and] at hpq
   have hQ : RedoQ l rs f = ([], 1) := by unfold RedoQ; rw [if_pos hpq]
   (repeat' (first | refine X.rq ?_ | (refine X.rc ?_ ?_ <;> intro hc <;> first | (exfalso; omega) | skip)))
   refine K.AT.sel [0, 0] rfl ?_
   refine K.done (by first | exact Or.inl rfl | exact Or.inr rfl) rfl (by first | exact K.Base.le.refl _ | assumption) (H' := []) rfl (.inl ⟨by rw [hQ]; decide, by rw [hQ], by rw [hQ]; rfl, rfl⟩)
 ·obtain rfl : j = l.length := by omega
  rw [List.drop_length] at hpq
  rw [List.take_length] at hr1
  have hpq : pagesQ 0 l = true := hpq
  subst hcs1
  have hri := CRight h1 _ ers rs (hv2.le le1) (RowsG.mono (fun c y hc => hc.le le1) hr2) hl2 hs
  obtain ⟨hrise, _, _⟩ := pages_rise hpq
  (repeat' (first | refine X.rq ?_ | (refine X.rc ?_ ?_ <;> intro hc <;> first | (exfalso; omega) | skip)))
  refine K.l_callV (Fx.cal rfl) rfl hri (K.pp [] rfl) rfl rfl ?_
  simp only [List.nil_append]
  cases hrq : rightQ 0 rs with
  | false =>
   have hQ : RedoQ l rs f = ([], 5) := by unfold RedoQ; rw [if_neg (by rw [hpq]; decide), if_pos hrq]
   (repeat' (first | refine X.rq ?_ | (refine X.rc ?_ ?_ <;> intro hc <;> first | (exfalso; omega) | skip)))
   refine K.AT.drop ?_
   refine K.done (by first | exact Or.inl rfl | exact Or.inr rfl) rfl (by first | exact K.Base.le.refl _ | assumption) (H' := []) rfl (.inl ⟨by rw [hQ]; decide, by rw [hQ], by rw [hQ]; rfl, rfl⟩)
  | true =>
   have hQ : RedoQ l rs f = redosQ f l rs := by unfold RedoQ; rw [if_neg (by rw [hpq]; decide), if_neg (by rw [hrq]; decide)]
   have hmr := fun (_ : Unit) => right_all hrq
   have hs := fun (_ : Unit) => hs
   (repeat' (first | refine X.rq ?_ | (refine X.rc ?_ ?_ <;> intro hc <;> first | (exfalso; omega) | skip)))
   refine K.c_loop (σ := RunS) (fun q => [(2, .int .u64 f), (8, bufV a l.length k), (52, .slice ao2 rs.length ca2), (53, .int .i64 rs.length), (54, .int .i64 q.j)]) (fun q => q.b)
    (fun q => bufA 52 5 a l.length k q.es.flatten :: F)
    (fun q => q.j ≤ rs.length ∧ h.le q.b ∧ RowsG (ImgG h q.b) q.es q.l ∧ q.l.map PImg.page = l.map PImg.page ∧ RedoQ l rs f = redosQ f q.l (rs.drop q.j)) (fun q => rs.length - q.j)
    ⟨0, es1, l, h1⟩ ⟨Nat.zero_le _, le1, hr1, rfl, hQ⟩ (by repeat (first | exact K.Sub.nil _ | refine K.Sub.cons rfl ?_)) rfl rfl ?_
   rintro ⟨j, es2, l2, h2⟩ ⟨hj2, le2, hr2', hpp, hqq⟩ KM hKM
   dsimp only at hj2 le2 hr2' hpp hqq ⊢
   have hn2 : l2.length = l.length := by have := congrArg List.length hpp; rwa [List.length_map, List.length_map] at this
   by_cases hjl2 : j < rs.length
   ·have hc1 : ers[j]? = some (ers[j]'(by omega)) := List.getElem?_eq_getElem (by omega)
    have hc0 : ers[((j : Nat) : Int).toNat]? = some (ers[j]'(by omega)) := by rw [Int.toNat_natCast]; exact hc1
    have hx1 : rs[j]? = some (rs[j]'hjl2) := List.getElem?_eq_getElem hjl2
    have hmx := (hmr () _ (List.getElem_mem hjl2)).1
    generalize ers[j]'(by omega) = ce at hc0 hc1
    generalize rs[j]'hjl2 = r at hx1 hmx
    have hxc := (hr2.2 j ce r hc1 hx1).le le2
    rw [redos_step hx1] at hqq
    have hre := CRedo1 h h2 le2 a l.length k es2 l2 ce r hr2' hn2 hl (rising_pages hpp hrise) hxc hmx
    have hv3 := hv2.le le2
    obtain ⟨hw, ad, ai, al, ay, cd, ci, cl, cy, rfl, _⟩ := hxc.cells
    have hlsn := hw.lsn
    clear hxc hmx hw
    (repeat' (first | refine X.rq ?_ | (refine X.rc ?_ ?_ <;> intro hc <;> first | (exfalso; omega) | skip)))
    refine K.s_pureE (K.p_indexL hv3 (Fx.und rfl) (Fx.sz rfl) rfl rfl (by omega) hc0) rfl ?_
    rintro v2 ⟨b2', o2, rfl, hcel⟩
    refine K.s_pure (K.p_loadM (Fx.agg rfl) rfl (Cels.up hcel) (Fx.sz rfl) rfl) rfl ?_
    refine K.l_alloc (Fx.zr rfl) rfl rfl (fun B13 => ?_)
    refine X.stw ?_
    simp only [List.set_cons_zero, List.set_cons_succ, List.eraseIdx_cons_zero, List.eraseIdx_cons_succ, List.cons_append, List.nil_append]
    by_cases hlf : r.lsn < f
    ·rw [if_pos hlf] at hqq
     (repeat' (first | refine X.rq ?_ | (refine X.rc ?_ ?_ <;> intro hc <;> first | (exfalso; omega) | skip)))
     refine K.AT.drop ?_
     refine K.a_round hKM ⟨j + 1, es2, l2, h2⟩ ⟨by dsimp only; omega, le2, hr2', hpp, hqq⟩ (by repeat (first | exact K.Sub.nil _ | refine K.Sub.cons rfl ?_)) rfl rfl (by dsimp only; omega)
    ·rw [if_neg hlf] at hqq
     (repeat' (first | refine X.rq ?_ | (refine X.rc ?_ ?_ <;> intro hc <;> first | (exfalso; omega) | skip)))
     refine K.l_call (Fx.cal rfl) rfl hre (K.pp [1] rfl) rfl ?_
     rintro u h3 H' le3 ⟨es3, l3, e, rfl, hr3, hn3, rfl, he, hle⟩
     have le4 := le2.trans le3
     simp only [List.nil_append, List.cons_append, List.eraseIdx_cons_zero, List.eraseIdx_cons_succ]
     by_cases he0 : e = 0
     ·subst he0
      have hl3 := hle rfl
      subst hl3
      rw [if_neg (by rw [← he]; decide)] at hqq
      (repeat' (first | refine X.rq ?_ | (refine X.rc ?_ ?_ <;> intro hc <;> first | (exfalso; omega) | skip)))
      refine K.AT.sel [1] rfl ?_
      refine K.a_round hKM ⟨j + 1, es3, (redoQ l2 r).1, h3⟩ ⟨by dsimp only; omega, le2.trans le3, hr3, redoQ_pages.trans hpp, hqq⟩ (by repeat (first | exact K.Sub.nil _ | refine K.Sub.cons rfl ?_)) rfl rfl (by dsimp only; omega)
     ·rw [if_pos (by rw [← he]; exact he0), ← he] at hqq
      (repeat' (first | refine X.rq ?_ | (refine X.rc ?_ ?_ <;> intro hc <;> first | (exfalso; omega) | skip)))
      refine K.AT.sel [0, 0] rfl ?_
      refine K.done (by first | exact Or.inl rfl | exact Or.inr rfl) rfl (by first | exact K.Base.le.refl _ | assumption) (H' := []) rfl (.inl ⟨by rw [hqq]; exact he0, by rw [hqq], by rw [hqq]; rfl, rfl⟩)
   ·obtain rfl : j = rs.length := by omega
    rw [List.drop_length] at hqq
    have hqq : RedoQ l rs f = (l2, 0) := hqq
    (repeat' (first | refine X.rq ?_ | (refine X.rc ?_ ?_ <;> intro hc <;> first | (exfalso; omega) | skip)))
    refine K.done (by first | exact Or.inl rfl | exact Or.inr rfl) rfl (by first | exact K.Base.le.refl _ | assumption) (H' := [bufA 52 5 a l.length k es2.flatten]) rfl (.inr ⟨by rw [hqq], a, l.length, k, es2, by rw [hqq, hn2], by rw [hqq]; exact hr2', rfl, rfl⟩)
end Go.Proofs.YtkdngpiiecmpgaaGreat.Ch
