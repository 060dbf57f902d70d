/-
 What an operation does to a page. Conditions: each theorem's own.
-/
import Derived.Test.YtkdngpiiecmpgaaGreatQ30
namespace Go.Proofs.YtkdngpiiecmpgaaGreat.Pg
open Go Go.K Go.Proofs Go.Proofs.YtkdngpiiecmpgaaGreat
set_option linter.unusedVariables false
set_option linter.unusedSimpArgs false
set_option maxRecDepth 10000

theorem set_same {α : Type} {l : List α} {i : Nat} {a : α} (h : l[i]? = some a) : l.set i a = l := by
 obtain ⟨hlt, e⟩ := List.getElem?_eq_some_iff.1 h
 rw [← e, List.set_getElem_self]
def lowQ (d : List UInt8) (x : PCell) : Bool := decide (Lib.compareBytes x.data d < 0)
def posQ (l : List PCell) (d : List UInt8) : Nat := (l.takeWhile (lowQ d)).length
theorem pos_of {d : List UInt8} : ∀ {l : List PCell} {k : Nat}, k ≤ l.length → (∀ (j : Nat) x, j < k → l[j]? = some x → Lib.compareBytes x.data d < 0) → (∀ (j : Nat) x, k ≤ j → l[j]? = some x → 0 ≤ Lib.compareBytes x.data d) → posQ l d = k
 | [], k, hk, _, _ => by simp at hk; subst hk; rfl
 | x :: r, 0, hk, _, h2 => by
  have := h2 0 x (Nat.le_refl _) rfl
  unfold posQ
  rw [List.takeWhile_cons, if_neg (by rw [lowQ]; simp; omega)]
  rfl
 | x :: r, k + 1, hk, h1, h2 => by
  have h0 := h1 0 x (by omega) rfl
  unfold posQ
  rw [List.takeWhile_cons, if_pos (by rw [lowQ]; simpa using h0), List.length_cons]
  have := pos_of (d := d) (l := r) (k := k) (by simpa using hk) (fun j y hj hy => h1 (j + 1) y (by omega) (by simpa using hy)) (fun j y hj hy => h2 (j + 1) y (by omega) (by simpa using hy))
  unfold posQ at this
  rw [this]
def whereQ (p : Pag) (o : POp) : Int × Bool := if p.kind = 1 then (o.slot, usedAt p.cells o.slot) else (((posQ p.cells o.data : Nat) : Int), dataAt p.cells (posQ p.cells o.data) o.data)
theorem where_of {p : Pag} {o : POp} {i : Int} {b : Bool} (hf : FindP p o i b) : whereQ p o = (i, b) := by
 unfold whereQ
 by_cases k1 : p.kind = 1
 ·obtain ⟨rfl, rfl⟩ := hf.1 k1
  rw [if_pos k1]
 ·obtain ⟨k, rfl, hk, h1, h2, rfl⟩ := hf.2 k1
  rw [if_neg k1, pos_of hk h1 h2]
theorem posQ_le (l : List PCell) (d : List UInt8) : posQ l d ≤ l.length := (List.takeWhile_sublist _).length_le
theorem where_there {p : Pag} {o : POp} {i : Int} (hw : whereQ p o = (i, true)) : ∃ j : Nat, i = j ∧ ∃ x, p.cells[j]? = some x := by
 unfold whereQ at hw
 split at hw
 ·have h1 := (Prod.mk.inj hw).1
  have h2 := (Prod.mk.inj hw).2
  unfold usedAt at h2
  split at h2
  ·rename_i h0
   refine ⟨o.slot.toNat, by omega, ?_⟩
   cases hx : p.cells[o.slot.toNat]? with
   | none => rw [hx] at h2; cases h2
   | some x => exact ⟨x, rfl⟩
  ·cases h2
 ·have h1 := (Prod.mk.inj hw).1
  have h2 := (Prod.mk.inj hw).2
  refine ⟨_, h1.symm, ?_⟩
  unfold dataAt at h2
  cases hx : p.cells[posQ p.cells o.data]? with
  | none => rw [hx] at h2; cases h2
  | some x => exact ⟨x, rfl⟩
def doR (p : Pag) (o : POp) (i : Int) (t : Bool) : Pag × Int :=
 if o.kind = 1 then
  (if i < 0 ∨ (p.cells.length : Int) < i then (zP, 2)
  else if t = true then (zP, 7)
  else putQ p i.toNat o.data)
 else if t = false then (zP, 6)
 else match p.cells[i.toNat]? with
  | none => (zP, 6)
  | some x =>
   if o.kind = 2 ∧ x.killer ≠ 0 then (zP, 7)
   else if o.kind = 3 ∧ x.killer = 0 then (zP, 6)
   else if o.kind ≠ 4 then ({ p with cells := p.cells.set i.toNat ⟨x.used, o.txn, x.data⟩ }, 0)
   else ({ p with cells := freeC p.kind p.cells i.toNat }, 0)
def doQ (p : Pag) (o : POp) : Pag × Int :=
 if mayQ p = false then (zP, 5)
 else if ¬ rightP p.kind o then (zP, 1)
 else doR p o (whereQ p o).1 (whereQ p o).2
theorem doQ_yes {p : Pag} {o : POp} (hm : mayQ p = true) (hr : rightP p.kind o) : doQ p o = doR p o (whereQ p o).1 (whereQ p o).2 := by rw [doQ, if_neg (by rw [hm]; decide), if_neg (fun e => e hr)]
theorem doR_there {p : Pag} {o : POp} {j : Nat} {u : Bool} {k : Nat} {d : List UInt8} (hx : p.cells[j]? = some ⟨u, k, d⟩) :
  doR p o (j : Int) true = if o.kind = 1 then (if (j : Int) < 0 ∨ (p.cells.length : Int) < (j : Int) then (zP, 2) else (zP, 7)) else if o.kind = 2 ∧ k ≠ 0 then (zP, 7) else if o.kind = 3 ∧ k = 0 then (zP, 6)
   else if o.kind = 4 then ({ p with cells := freeC p.kind p.cells j }, 0) else ({ p with cells := p.cells.set j ⟨u, o.txn, d⟩ }, 0) := by
 rw [doR, Int.toNat_natCast, hx]
 by_cases h1 : o.kind = 1
 ·rw [if_pos h1, if_pos h1]; simp
 ·rw [if_neg h1, if_neg h1, if_neg (by decide)]
  by_cases h4 : o.kind = 4
  ·simp [h4]
  ·simp [h4]
theorem FindW (h : Base) (cs ds : List Value) (p : Pag) (o : POp) (hx : PagC h cs p) (ho : OpC h ds o) (hm : mayQ p = true) (hk : p.kind = 1 ∨ p.kind = 2) :
  TrV Tryz.prog 112 [.agg cs.toArray, .agg ds.toArray] h [] (.tuple #[.int .i64 (whereQ p o).1, .bool (whereQ p o).2]) [] := fun F w ok =>
 Calls.mono (Find h cs ds p o hx ho hm hk F w ok) fun e w' ⟨u, he, h1, H1, hle, ⟨e1, e2, i, b, hu, hf⟩, ok1⟩ => ⟨u, he, h1, H1, hle, ⟨by rw [hu, where_of hf], e1, e2⟩, ok1⟩
theorem do_small {p : Pag} (hm : mayQ p = true) : small p.cells := by
 obtain ⟨_, h60, hc, _⟩ := (mayQ_iff p).1 hm
 exact small_of (fun i x hx => (hc i x hx).1) (by omega)
set_option maxHeartbeats 4000000 in
theorem Do (h : Base) (cs ds : List Value) (p : Pag) (o : POp) (hx : PagC h cs p) (ho : OpC h ds o) :
  Tr Tryz.prog 71 [.agg cs.toArray, .agg ds.toArray] h [] (DoV h (doQ p o)) := by
 have hx0 := hx
 have ho0 := ho
 obtain ⟨hw, cv, rfl, es, hv, hel, hr⟩ := hx
 obtain ⟨⟨hok, hos, hot, hol⟩, ao4, ca4, rfl, hbo⟩ := ho
 obtain ⟨ao, ca, rfl⟩ := hv.len
 have hmay := PMay h _ p hx0
 have hright := ORight h p.kind _ o ho0
 refine K.enter Tryz.func71 rfl (Nat.le_of_ble_eq_true rfl) (fun F => ?_)
 (repeat' (first | refine X.rq ?_ | (refine X.rc ?_ ?_ <;> intro hc <;> first | (exfalso; omega) | skip)))
 refine K.l_box rfl rfl rfl (fun B1 => ?_)
 refine K.l_box rfl rfl rfl (fun B2 => ?_)
 refine K.l_alloc (Fx.zr rfl) rfl rfl (fun B3 => ?_)
 (repeat' (first | refine X.rq ?_ | (refine X.rc ?_ ?_ <;> intro hc <;> first | (exfalso; omega) | skip)))
 refine K.l_callV (Fx.cal rfl) rfl hmay (K.pp [] rfl) rfl rfl ?_
 simp only [List.set_cons_zero, List.set_cons_succ, List.eraseIdx_cons_zero, List.eraseIdx_cons_succ, List.cons_append, List.nil_append]
 cases hm : mayQ p with
 | false =>
  have hres : doQ p o = (zP, 5) := by rw [doQ, if_pos hm]
  (repeat' (first | refine X.rq ?_ | (refine X.rc ?_ ?_ <;> intro hc <;> first | (exfalso; omega) | skip)))
  refine X.stw ?_
  simp only [List.set_cons_zero, List.set_cons_succ, List.eraseIdx_cons_zero, List.eraseIdx_cons_succ, List.cons_append, List.nil_append]
  (repeat' (first | refine X.rq ?_ | (refine X.rc ?_ ?_ <;> intro hc <;> first | (exfalso; omega) | skip)))
  refine AT.allNil ?_
  refine K.AT.nilBuf 55 3 ?_
  refine K.AT.perm (K.pp [2, 2, 2, 0, 0] rfl) ?_
  simp only [List.set_cons_zero, List.set_cons_succ, List.eraseIdx_cons_zero, List.eraseIdx_cons_succ, List.cons_append, List.nil_append]
  refine K.doneC (by first | exact Or.inl rfl | exact Or.inr rfl) (.cell rfl (Fx.agg rfl) (Fx.sz rfl) (by first | exact K.cels_own (pre := []) (post := []) 0 rfl rfl | exact K.cels_own (pre := []) (post := []) 1 rfl rfl | exact K.cels_own (pre := []) (post := []) 2 rfl rfl | exact K.cels_own (pre := []) (post := []) 3 rfl rfl | exact K.cels_own (pre := []) (post := []) 4 rfl rfl | exact K.cels_own (pre := []) (post := []) 5 rfl rfl) (.tmp rfl .nil)) (by first | exact K.Base.le.refl _ | assumption) (vs := [.agg (cP zP (bufV none 0 0)).toArray, .int .i64 5]) (D := [_, _, _]) (H' := pgA none 0 []) rfl (by rw [hres]; exact ⟨rfl, none, 0, [], rfl, (fun c hc => by cases hc), rfl, rfl⟩)
 | true =>
  (repeat' (first | refine X.rq ?_ | (refine X.rc ?_ ?_ <;> intro hc <;> first | (exfalso; omega) | skip)))
  refine K.l_callV (Fx.cal rfl) rfl hright (K.pp [] rfl) rfl rfl ?_
  simp only [List.set_cons_zero, List.set_cons_succ, List.eraseIdx_cons_zero, List.eraseIdx_cons_succ, List.cons_append, List.nil_append]
  by_cases hri : rightP p.kind o
  ·rw [decide_eq_true hri]
   have hsm := do_small hm
   have h60 : p.cells.length ≤ 60 := ((mayQ_iff p).1 hm).2.1
   have hd180 : o.data.length ≤ 140737488355328 := by
    obtain ⟨_, _, _, _, r5, r6⟩ := hri
    by_cases e : p.kind = 1 ∧ o.kind ≠ 1
    ·have := r5 e; omega
    ·have := r6 e; omega
   (repeat' (first | refine X.rq ?_ | (refine X.rc ?_ ?_ <;> intro hc <;> first | (exfalso; omega) | skip)))
   refine K.l_call (Fx.cal rfl) rfl (PClone h _ p hx0 hsm) (K.pp [] rfl) rfl ?_
   rintro u h' H' - ⟨e, b, l, hpl, hkO, rfl, rfl⟩
   obtain rfl := e.symm
   have hll : p.cells.length = l.length := by rw [hpl, List.length_map]
   have hfind := K.TrV.borrow (h := h) (A := pgA (some b) (l.length + 1) l) (R := []) fun h' hle hs => FindW h' (cP p (bufV (some b) l.length (l.length + 1))) (cO o (.slice ao4 o.data.length ca4)) p o (by have := says_page hs hkO hw hpl; rw [hll] at this; exact this) (ho0.le hle) hm hri.1
   simp only [pgA, List.cons_append, List.nil_append, List.append_nil]
   rw [hll]
   show WL Tryz.prog Tryz.f71.ntmps _ _ _ _ _ _
   (repeat' (first | refine X.rq ?_ | (refine X.rc ?_ ?_ <;> intro hc <;> first | (exfalso; omega) | skip)))
   refine X.stw ?_
   simp only [List.set_cons_zero, List.set_cons_succ, List.eraseIdx_cons_zero, List.eraseIdx_cons_succ, List.cons_append, List.nil_append]
   (repeat' (first | refine X.rq ?_ | (refine X.rc ?_ ?_ <;> intro hc <;> first | (exfalso; omega) | skip)))
   refine K.l_callV (Fx.cal rfl) rfl hfind (K.pp [0, 0] rfl) rfl rfl ?_
   simp only [pgA, List.cons_append, List.nil_append, List.append_nil]
   have hdo := doQ_yes hm hri
   have hth := @where_there p o
   generalize whereQ p o = ib at hdo hth ⊢
   obtain ⟨i, t⟩ := ib
   simp only at hdo hth ⊢
   have hkb := hri.2.1
   cases t with
   | false =>
    (repeat' (first | refine X.rq ?_ | (refine X.rc ?_ ?_ <;> intro hc <;> first | (exfalso; omega) | skip)))
    ·have hres : doQ p o = (zP, 2) := by
      rw [hdo, doR]
      rw [if_pos (by assumption), if_pos (Or.inl (by assumption))]
     (repeat' (first | refine X.rq ?_ | (refine X.rc ?_ ?_ <;> intro hc <;> first | (exfalso; omega) | skip)))
     refine X.stw ?_
     simp only [List.set_cons_zero, List.set_cons_succ, List.eraseIdx_cons_zero, List.eraseIdx_cons_succ, List.cons_append, List.nil_append]
     (repeat' (first | refine X.rq ?_ | (refine X.rc ?_ ?_ <;> intro hc <;> first | (exfalso; omega) | skip)))
     refine AT.allNil ?_
     refine K.AT.nilBuf 55 3 ?_
     refine K.AT.perm (K.pp [2, 2, 2, 2, 2, 0, 0] rfl) ?_
     simp only [List.set_cons_zero, List.set_cons_succ, List.eraseIdx_cons_zero, List.eraseIdx_cons_succ, List.cons_append, List.nil_append]
     refine K.doneC (by first | exact Or.inl rfl | exact Or.inr rfl) (.cell rfl (Fx.agg rfl) (Fx.sz rfl) (by first | exact K.cels_own (pre := []) (post := []) 0 rfl rfl | exact K.cels_own (pre := []) (post := []) 1 rfl rfl | exact K.cels_own (pre := []) (post := []) 2 rfl rfl | exact K.cels_own (pre := []) (post := []) 3 rfl rfl | exact K.cels_own (pre := []) (post := []) 4 rfl rfl | exact K.cels_own (pre := []) (post := []) 5 rfl rfl) (.tmp rfl .nil)) (by first | exact K.Base.le.refl _ | assumption) (vs := [.agg (cP zP (bufV none 0 0)).toArray, .int .i64 2]) (D := [_, _, _, _, _]) (H' := pgA none 0 []) rfl (by rw [hres]; exact ⟨rfl, none, 0, [], rfl, (fun c hc => by cases hc), rfl, rfl⟩)
    ·have hres : doQ p o = (zP, 2) := by
      rw [hdo, doR]
      rw [if_pos (by assumption), if_pos (Or.inr (by omega))]
     (repeat' (first | refine X.rq ?_ | (refine X.rc ?_ ?_ <;> intro hc <;> first | (exfalso; omega) | skip)))
     refine X.stw ?_
     simp only [List.set_cons_zero, List.set_cons_succ, List.eraseIdx_cons_zero, List.eraseIdx_cons_succ, List.cons_append, List.nil_append]
     (repeat' (first | refine X.rq ?_ | (refine X.rc ?_ ?_ <;> intro hc <;> first | (exfalso; omega) | skip)))
     refine AT.allNil ?_
     refine K.AT.nilBuf 55 3 ?_
     refine K.AT.perm (K.pp [2, 2, 2, 2, 2, 0, 0] rfl) ?_
     simp only [List.set_cons_zero, List.set_cons_succ, List.eraseIdx_cons_zero, List.eraseIdx_cons_succ, List.cons_append, List.nil_append]
     refine K.doneC (by first | exact Or.inl rfl | exact Or.inr rfl) (.cell rfl (Fx.agg rfl) (Fx.sz rfl) (by first | exact K.cels_own (pre := []) (post := []) 0 rfl rfl | exact K.cels_own (pre := []) (post := []) 1 rfl rfl | exact K.cels_own (pre := []) (post := []) 2 rfl rfl | exact K.cels_own (pre := []) (post := []) 3 rfl rfl | exact K.cels_own (pre := []) (post := []) 4 rfl rfl | exact K.cels_own (pre := []) (post := []) 5 rfl rfl) (.tmp rfl .nil)) (by first | exact K.Base.le.refl _ | assumption) (vs := [.agg (cP zP (bufV none 0 0)).toArray, .int .i64 2]) (D := [_, _, _, _, _]) (H' := pgA none 0 []) rfl (by rw [hres]; exact ⟨rfl, none, 0, [], rfl, (fun c hc => by cases hc), rfl, rfl⟩)
    ·obtain ⟨j, rfl⟩ : ∃ j : Nat, i = j := ⟨i.toNat, by omega⟩
     have hres : doQ p o = putQ p j o.data := by
      rw [hdo, doR, if_pos (by assumption), if_neg (by omega), if_neg (by decide)]; rfl
     refine K.l_call (Fx.cal rfl) rfl (PPut h b (l.length + 1) l p j (.slice ao4 o.data.length ca4) o.data hw hpl (by omega) (by omega) (by omega) hkO hbo hd180) (K.pp [0, 0] rfl) rfl ?_
     rintro u h' H' - ⟨e, b', cap', l', hl', hk', rfl, rfl⟩
     obtain rfl := e.symm
     simp only [pgA, List.cons_append, List.nil_append, List.append_nil]
     (repeat' (first | refine X.rq ?_ | (refine X.rc ?_ ?_ <;> intro hc <;> first | (exfalso; omega) | skip)))
     refine X.stw ?_
     simp only [List.set_cons_zero, List.set_cons_succ, List.eraseIdx_cons_zero, List.eraseIdx_cons_succ, List.cons_append, List.nil_append]
     (repeat' (first | refine X.rq ?_ | (refine X.rc ?_ ?_ <;> intro hc <;> first | (exfalso; omega) | skip)))
     refine K.AT.perm (K.pp [2, 2, 2, 0, 0] rfl) ?_
     simp only [List.set_cons_zero, List.set_cons_succ, List.eraseIdx_cons_zero, List.eraseIdx_cons_succ, List.cons_append, List.nil_append]
     refine K.doneC (by first | exact Or.inl rfl | exact Or.inr rfl) (.cell rfl (Fx.agg rfl) (Fx.sz rfl) (by first | exact K.cels_own (pre := []) (post := []) 0 rfl rfl | exact K.cels_own (pre := []) (post := []) 1 rfl rfl | exact K.cels_own (pre := []) (post := []) 2 rfl rfl | exact K.cels_own (pre := []) (post := []) 3 rfl rfl | exact K.cels_own (pre := []) (post := []) 4 rfl rfl | exact K.cels_own (pre := []) (post := []) 5 rfl rfl) (.tmp rfl .nil)) (by first | exact K.Base.le.refl _ | assumption) (vs := [.agg (cP (putQ p j o.data).1 (bufV b' l'.length cap')).toArray, .int .i64 (putQ p j o.data).2]) (D := [_, _, _]) (H' := pgA b' cap' l') rfl (by rw [hres]; exact ⟨rfl, b', cap', l', hl', hk', rfl, rfl⟩)
    ·have hres : doQ p o = (zP, 6) := by
      rw [hdo, doR]
      rw [if_neg (by assumption), if_pos rfl]
     (repeat' (first | refine X.rq ?_ | (refine X.rc ?_ ?_ <;> intro hc <;> first | (exfalso; omega) | skip)))
     refine X.stw ?_
     simp only [List.set_cons_zero, List.set_cons_succ, List.eraseIdx_cons_zero, List.eraseIdx_cons_succ, List.cons_append, List.nil_append]
     (repeat' (first | refine X.rq ?_ | (refine X.rc ?_ ?_ <;> intro hc <;> first | (exfalso; omega) | skip)))
     refine AT.allNil ?_
     refine K.AT.nilBuf 55 3 ?_
     refine K.AT.perm (K.pp [2, 2, 2, 2, 2, 0, 0] rfl) ?_
     simp only [List.set_cons_zero, List.set_cons_succ, List.eraseIdx_cons_zero, List.eraseIdx_cons_succ, List.cons_append, List.nil_append]
     refine K.doneC (by first | exact Or.inl rfl | exact Or.inr rfl) (.cell rfl (Fx.agg rfl) (Fx.sz rfl) (by first | exact K.cels_own (pre := []) (post := []) 0 rfl rfl | exact K.cels_own (pre := []) (post := []) 1 rfl rfl | exact K.cels_own (pre := []) (post := []) 2 rfl rfl | exact K.cels_own (pre := []) (post := []) 3 rfl rfl | exact K.cels_own (pre := []) (post := []) 4 rfl rfl | exact K.cels_own (pre := []) (post := []) 5 rfl rfl) (.tmp rfl .nil)) (by first | exact K.Base.le.refl _ | assumption) (vs := [.agg (cP zP (bufV none 0 0)).toArray, .int .i64 6]) (D := [_, _, _, _, _]) (H' := pgA none 0 []) rfl (by rw [hres]; exact ⟨rfl, none, 0, [], rfl, (fun c hc => by cases hc), rfl, rfl⟩)
   | true =>
    obtain ⟨j, rfl, x, hxj⟩ := hth rfl
    have hjl : j < l.length := by rw [← hll]; exact (List.getElem?_eq_some_iff.1 hxj).1
    have hle : l.length * 3 ≤ (l.length + 1) * 3 := Nat.mul_le_mul_right _ (by omega)
    have hxj0 := hxj
    rw [hpl, List.getElem?_map] at hxj
    cases hcj : l[j]? with
    | none => rw [hcj] at hxj; cases hxj
    | some c =>
    rw [hcj] at hxj
    cases hxj
    rw [doR_there (u := c.used) (k := c.killer) (d := c.data) hxj0] at hdo
    have hrj : (l.map rowO)[j]? = some (rowO c) := by rw [List.getElem?_map, hcj]; rfl
    obtain ⟨c', hc'⟩ : ∃ c' : OC, c' = ⟨c.used, o.txn, c.a, c.cap, c.data⟩ := ⟨_, rfl⟩
    have hfs : ((l.set j c').map rowO).flatten.length = l.length * 3 := by rw [K.flatten_len _ (rowO_len _), List.length_map, List.length_set]
    have hdat : (l.set j c').map datA = l.map datA := by
     rw [List.map_set, hc']
     exact set_same (by rw [List.getElem?_map, hcj]; rfl)
    (repeat' (first | refine X.rq ?_ | (refine X.rc ?_ ?_ <;> intro hc <;> first | (exfalso; omega) | skip)))
    ·have hres : doQ p o = (zP, 7) := by
      rw [hdo, if_pos (by assumption), if_neg (by omega)]
     (repeat' (first | refine X.rq ?_ | (refine X.rc ?_ ?_ <;> intro hc <;> first | (exfalso; omega) | skip)))
     refine X.stw ?_
     simp only [List.set_cons_zero, List.set_cons_succ, List.eraseIdx_cons_zero, List.eraseIdx_cons_succ, List.cons_append, List.nil_append]
     (repeat' (first | refine X.rq ?_ | (refine X.rc ?_ ?_ <;> intro hc <;> first | (exfalso; omega) | skip)))
     refine AT.allNil ?_
     refine K.AT.nilBuf 55 3 ?_
     refine K.AT.perm (K.pp [2, 2, 2, 2, 2, 0, 0] rfl) ?_
     simp only [List.set_cons_zero, List.set_cons_succ, List.eraseIdx_cons_zero, List.eraseIdx_cons_succ, List.cons_append, List.nil_append]
     refine K.doneC (by first | exact Or.inl rfl | exact Or.inr rfl) (.cell rfl (Fx.agg rfl) (Fx.sz rfl) (by first | exact K.cels_own (pre := []) (post := []) 0 rfl rfl | exact K.cels_own (pre := []) (post := []) 1 rfl rfl | exact K.cels_own (pre := []) (post := []) 2 rfl rfl | exact K.cels_own (pre := []) (post := []) 3 rfl rfl | exact K.cels_own (pre := []) (post := []) 4 rfl rfl | exact K.cels_own (pre := []) (post := []) 5 rfl rfl) (.tmp rfl .nil)) (by first | exact K.Base.le.refl _ | assumption) (vs := [.agg (cP zP (bufV none 0 0)).toArray, .int .i64 7]) (D := [_, _, _, _, _]) (H' := pgA none 0 []) rfl (by rw [hres]; exact ⟨rfl, none, 0, [], rfl, (fun c hc => by cases hc), rfl, rfl⟩)
    ·refine K.o_buf (fun e _ _ _ => by cases e) ?_
     rintro bb sp fz e g2 g3 g4 g5 g6
     cases e
     refine K.s_pure (K.p_load (Fx.agg rfl) rfl (K.cel_row (s := 3) (i := j) (j := 1) (u := .int .u32 c.killer) 0 rfl (rowO_len l) hrj rfl (by omega))) rfl ?_
     (repeat' (first | refine X.rq ?_ | (refine X.rc ?_ ?_ <;> intro hc <;> first | (exfalso; omega) | skip)))
     ·have hres : doQ p o = (zP, 7) := by
       rw [hdo, if_neg (by omega), if_pos ⟨by omega, by omega⟩]
      (repeat' (first | refine X.rq ?_ | (refine X.rc ?_ ?_ <;> intro hc <;> first | (exfalso; omega) | skip)))
      refine X.stw ?_
      simp only [List.set_cons_zero, List.set_cons_succ, List.eraseIdx_cons_zero, List.eraseIdx_cons_succ, List.cons_append, List.nil_append]
      (repeat' (first | refine X.rq ?_ | (refine X.rc ?_ ?_ <;> intro hc <;> first | (exfalso; omega) | skip)))
      refine AT.allNil ?_
      refine K.AT.nilBuf 55 3 ?_
      refine K.AT.perm (K.pp [2, 2, 2, 2, 2, 0, 0] rfl) ?_
      simp only [List.set_cons_zero, List.set_cons_succ, List.eraseIdx_cons_zero, List.eraseIdx_cons_succ, List.cons_append, List.nil_append]
      refine K.doneC (by first | exact Or.inl rfl | exact Or.inr rfl) (.cell rfl (Fx.agg rfl) (Fx.sz rfl) (by first | exact K.cels_own (pre := []) (post := []) 0 rfl rfl | exact K.cels_own (pre := []) (post := []) 1 rfl rfl | exact K.cels_own (pre := []) (post := []) 2 rfl rfl | exact K.cels_own (pre := []) (post := []) 3 rfl rfl | exact K.cels_own (pre := []) (post := []) 4 rfl rfl | exact K.cels_own (pre := []) (post := []) 5 rfl rfl) (.tmp rfl .nil)) (by first | exact K.Base.le.refl _ | assumption) (vs := [.agg (cP zP (bufV none 0 0)).toArray, .int .i64 7]) (D := [_, _, _, _, _]) (H' := pgA none 0 []) rfl (by rw [hres]; exact ⟨rfl, none, 0, [], rfl, (fun c hc => by cases hc), rfl, rfl⟩)
     ·have hres : doQ p o = ({ p with cells := p.cells.set j ⟨c.used, o.txn, c.data⟩ }, 0) := by
       rw [hdo, if_neg (by omega), if_neg (by omega), if_neg (by omega), if_neg (by omega)]
      refine K.l_storeFld (s := 3) (i := j) (j := 1) (u := .int .u32 o.txn) (Fx.sz rfl) rfl rfl rfl (rowO_len l) hrj (by omega) (by simp) (fun o ho => g6 o (by rw [List.length_map] at ho; omega)) ?_
      rw [show (l.map rowO).set j ((rowO c).set 1 (.int .u32 o.txn)) = (l.set j c').map rowO by rw [List.map_set, hc']; rfl]
      (repeat' (first | refine X.rq ?_ | (refine X.rc ?_ ?_ <;> intro hc <;> first | (exfalso; omega) | skip)))
      refine X.stw ?_
      simp only [List.set_cons_zero, List.set_cons_succ, List.eraseIdx_cons_zero, List.eraseIdx_cons_succ, List.cons_append, List.nil_append]
      (repeat' (first | refine X.rq ?_ | (refine X.rc ?_ ?_ <;> intro hc <;> first | (exfalso; omega) | skip)))
      refine K.AT.shut (s := 3) (m := l.length) (cap := l.length + 1) (sp := sp) hfs (by rw [List.length_append, hfs]; rw [List.length_append, g2] at g3; exact g3) (by omega) g5 g6 ?_
      refine K.AT.perm (K.pp [2, 2, 2, 0, 0] rfl) ?_
      simp only [List.set_cons_zero, List.set_cons_succ, List.eraseIdx_cons_zero, List.eraseIdx_cons_succ, List.cons_append, List.nil_append]
      refine K.doneC (by first | exact Or.inl rfl | exact Or.inr rfl) (.cell rfl (Fx.agg rfl) (Fx.sz rfl) (by first | exact K.cels_own (pre := []) (post := []) 0 rfl rfl | exact K.cels_own (pre := []) (post := []) 1 rfl rfl | exact K.cels_own (pre := []) (post := []) 2 rfl rfl | exact K.cels_own (pre := []) (post := []) 3 rfl rfl | exact K.cels_own (pre := []) (post := []) 4 rfl rfl | exact K.cels_own (pre := []) (post := []) 5 rfl rfl) (.tmp rfl .nil)) (by first | exact K.Base.le.refl _ | assumption) (vs := [.agg (cP p (bufV (some b) l.length (l.length + 1))).toArray, .int .i64 0]) (D := [_, _, _]) (H' := pgA (some b) (l.length + 1) (l.set j c')) (by rw [pgA, hdat, List.length_set]; rfl) (by rw [hres]; exact ⟨rfl, some b, l.length + 1, l.set j c', by rw [hpl, List.map_set, hc']; rfl, okO_set hkO j (by rw [hc']; exact hot), by rw [List.length_set]; rfl, rfl⟩)
    ·refine K.o_buf (fun e _ _ _ => by cases e) ?_
     rintro bb sp fz e g2 g3 g4 g5 g6
     cases e
     refine K.s_pure (K.p_load (Fx.agg rfl) rfl (K.cel_row (s := 3) (i := j) (j := 1) (u := .int .u32 c.killer) 0 rfl (rowO_len l) hrj rfl (by omega))) rfl ?_
     (repeat' (first | refine X.rq ?_ | (refine X.rc ?_ ?_ <;> intro hc <;> first | (exfalso; omega) | skip)))
     ·have hres : doQ p o = (zP, 6) := by
       rw [hdo, if_neg (by omega), if_neg (by omega), if_pos ⟨by omega, by omega⟩]
      (repeat' (first | refine X.rq ?_ | (refine X.rc ?_ ?_ <;> intro hc <;> first | (exfalso; omega) | skip)))
      refine X.stw ?_
      simp only [List.set_cons_zero, List.set_cons_succ, List.eraseIdx_cons_zero, List.eraseIdx_cons_succ, List.cons_append, List.nil_append]
      (repeat' (first | refine X.rq ?_ | (refine X.rc ?_ ?_ <;> intro hc <;> first | (exfalso; omega) | skip)))
      refine AT.allNil ?_
      refine K.AT.nilBuf 55 3 ?_
      refine K.AT.perm (K.pp [2, 2, 2, 2, 2, 0, 0] rfl) ?_
      simp only [List.set_cons_zero, List.set_cons_succ, List.eraseIdx_cons_zero, List.eraseIdx_cons_succ, List.cons_append, List.nil_append]
      refine K.doneC (by first | exact Or.inl rfl | exact Or.inr rfl) (.cell rfl (Fx.agg rfl) (Fx.sz rfl) (by first | exact K.cels_own (pre := []) (post := []) 0 rfl rfl | exact K.cels_own (pre := []) (post := []) 1 rfl rfl | exact K.cels_own (pre := []) (post := []) 2 rfl rfl | exact K.cels_own (pre := []) (post := []) 3 rfl rfl | exact K.cels_own (pre := []) (post := []) 4 rfl rfl | exact K.cels_own (pre := []) (post := []) 5 rfl rfl) (.tmp rfl .nil)) (by first | exact K.Base.le.refl _ | assumption) (vs := [.agg (cP zP (bufV none 0 0)).toArray, .int .i64 6]) (D := [_, _, _, _, _]) (H' := pgA none 0 []) rfl (by rw [hres]; exact ⟨rfl, none, 0, [], rfl, (fun c hc => by cases hc), rfl, rfl⟩)
     ·have hres : doQ p o = ({ p with cells := p.cells.set j ⟨c.used, o.txn, c.data⟩ }, 0) := by
       rw [hdo, if_neg (by omega), if_neg (by omega), if_neg (by omega), if_neg (by omega)]
      refine K.l_storeFld (s := 3) (i := j) (j := 1) (u := .int .u32 o.txn) (Fx.sz rfl) rfl rfl rfl (rowO_len l) hrj (by omega) (by simp) (fun o ho => g6 o (by rw [List.length_map] at ho; omega)) ?_
      rw [show (l.map rowO).set j ((rowO c).set 1 (.int .u32 o.txn)) = (l.set j c').map rowO by rw [List.map_set, hc']; rfl]
      (repeat' (first | refine X.rq ?_ | (refine X.rc ?_ ?_ <;> intro hc <;> first | (exfalso; omega) | skip)))
      refine X.stw ?_
      simp only [List.set_cons_zero, List.set_cons_succ, List.eraseIdx_cons_zero, List.eraseIdx_cons_succ, List.cons_append, List.nil_append]
      (repeat' (first | refine X.rq ?_ | (refine X.rc ?_ ?_ <;> intro hc <;> first | (exfalso; omega) | skip)))
      refine K.AT.shut (s := 3) (m := l.length) (cap := l.length + 1) (sp := sp) hfs (by rw [List.length_append, hfs]; rw [List.length_append, g2] at g3; exact g3) (by omega) g5 g6 ?_
      refine K.AT.perm (K.pp [2, 2, 2, 0, 0] rfl) ?_
      simp only [List.set_cons_zero, List.set_cons_succ, List.eraseIdx_cons_zero, List.eraseIdx_cons_succ, List.cons_append, List.nil_append]
      refine K.doneC (by first | exact Or.inl rfl | exact Or.inr rfl) (.cell rfl (Fx.agg rfl) (Fx.sz rfl) (by first | exact K.cels_own (pre := []) (post := []) 0 rfl rfl | exact K.cels_own (pre := []) (post := []) 1 rfl rfl | exact K.cels_own (pre := []) (post := []) 2 rfl rfl | exact K.cels_own (pre := []) (post := []) 3 rfl rfl | exact K.cels_own (pre := []) (post := []) 4 rfl rfl | exact K.cels_own (pre := []) (post := []) 5 rfl rfl) (.tmp rfl .nil)) (by first | exact K.Base.le.refl _ | assumption) (vs := [.agg (cP p (bufV (some b) l.length (l.length + 1))).toArray, .int .i64 0]) (D := [_, _, _]) (H' := pgA (some b) (l.length + 1) (l.set j c')) (by rw [pgA, hdat, List.length_set]; rfl) (by rw [hres]; exact ⟨rfl, some b, l.length + 1, l.set j c', by rw [hpl, List.map_set, hc']; rfl, okO_set hkO j (by rw [hc']; exact hot), by rw [List.length_set]; rfl, rfl⟩)
    ·have hres : doQ p o = ({ p with cells := freeC p.kind p.cells j }, 0) := by
      rw [hdo, if_neg (by omega), if_neg (by omega), if_neg (by omega), if_pos (by omega)]
     refine K.l_call (Fx.cal rfl) rfl (PFree h b (l.length + 1) l p j hjl (by omega) (by omega) hkO) (K.pp [0, 0] rfl) rfl ?_
     rintro u h' H' - ⟨e, l', hl', hk', rfl, rfl⟩
     obtain rfl := e.symm
     simp only [pgA, List.cons_append, List.nil_append, List.append_nil]
     (repeat' (first | refine X.rq ?_ | (refine X.rc ?_ ?_ <;> intro hc <;> first | (exfalso; omega) | skip)))
     refine X.stw ?_
     simp only [List.set_cons_zero, List.set_cons_succ, List.eraseIdx_cons_zero, List.eraseIdx_cons_succ, List.cons_append, List.nil_append]
     (repeat' (first | refine X.rq ?_ | (refine X.rc ?_ ?_ <;> intro hc <;> first | (exfalso; omega) | skip)))
     refine K.AT.perm (K.pp [2, 2, 2, 0, 0] rfl) ?_
     simp only [List.set_cons_zero, List.set_cons_succ, List.eraseIdx_cons_zero, List.eraseIdx_cons_succ, List.cons_append, List.nil_append]
     refine K.doneC (by first | exact Or.inl rfl | exact Or.inr rfl) (.cell rfl (Fx.agg rfl) (Fx.sz rfl) (by first | exact K.cels_own (pre := []) (post := []) 0 rfl rfl | exact K.cels_own (pre := []) (post := []) 1 rfl rfl | exact K.cels_own (pre := []) (post := []) 2 rfl rfl | exact K.cels_own (pre := []) (post := []) 3 rfl rfl | exact K.cels_own (pre := []) (post := []) 4 rfl rfl | exact K.cels_own (pre := []) (post := []) 5 rfl rfl) (.tmp rfl .nil)) (by first | exact K.Base.le.refl _ | assumption) (vs := [.agg (cP p (bufV (some b) l'.length (l.length + 1))).toArray, .int .i64 0]) (D := [_, _, _]) (H' := pgA (some b) (l.length + 1) l') rfl (by rw [hres]; exact ⟨rfl, some b, l.length + 1, l', by rw [hpl]; exact hl'.symm, hk', rfl, rfl⟩)
  ·rw [decide_eq_false hri]
   have hres : doQ p o = (zP, 1) := by rw [doQ, if_neg (by rw [hm]; decide), if_pos hri]
   (repeat' (first | refine X.rq ?_ | (refine X.rc ?_ ?_ <;> intro hc <;> first | (exfalso; omega) | skip)))
   refine X.stw ?_
   simp only [List.set_cons_zero, List.set_cons_succ, List.eraseIdx_cons_zero, List.eraseIdx_cons_succ, List.cons_append, List.nil_append]
   (repeat' (first | refine X.rq ?_ | (refine X.rc ?_ ?_ <;> intro hc <;> first | (exfalso; omega) | skip)))
   refine AT.allNil ?_
   refine K.AT.nilBuf 55 3 ?_
   refine K.AT.perm (K.pp [2, 2, 2, 0, 0] rfl) ?_
   simp only [List.set_cons_zero, List.set_cons_succ, List.eraseIdx_cons_zero, List.eraseIdx_cons_succ, List.cons_append, List.nil_append]
   refine K.doneC (by first | exact Or.inl rfl | exact Or.inr rfl) (.cell rfl (Fx.agg rfl) (Fx.sz rfl) (by first | exact K.cels_own (pre := []) (post := []) 0 rfl rfl | exact K.cels_own (pre := []) (post := []) 1 rfl rfl | exact K.cels_own (pre := []) (post := []) 2 rfl rfl | exact K.cels_own (pre := []) (post := []) 3 rfl rfl | exact K.cels_own (pre := []) (post := []) 4 rfl rfl | exact K.cels_own (pre := []) (post := []) 5 rfl rfl) (.tmp rfl .nil)) (by first | exact K.Base.le.refl _ | assumption) (vs := [.agg (cP zP (bufV none 0 0)).toArray, .int .i64 1]) (D := [_, _, _]) (H' := pgA none 0 []) rfl (by rw [hres]; exact ⟨rfl, none, 0, [], rfl, (fun c hc => by cases hc), rfl, rfl⟩)
end Go.Proofs.YtkdngpiiecmpgaaGreat.Pg
