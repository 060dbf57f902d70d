/-
 A cell put. Conditions: each theorem's own.
-/
import Derived.Test.YtkdngpiiecmpgaaGreatQ29
namespace Go.Proofs.YtkdngpiiecmpgaaGreat.Pg
open Go Go.K Go.Proofs Go.Proofs.YtkdngpiiecmpgaaGreat
set_option linter.unusedVariables false
set_option linter.unusedSimpArgs false
set_option maxRecDepth 10000

def putC (kind : Int) (l : List PCell) (i : Nat) (d : List UInt8) : List PCell := if kind = 2 ∨ i = l.length then l.take i ++ ⟨true, 0, d⟩ :: l.drop i else l.set i ⟨true, 0, d⟩
def zP : Pag := ⟨0, 0, 0, []⟩
def putQ (p : Pag) (i : Nat) (d : List UInt8) : Pag × Int := if cellsQ (putC p.kind p.cells i d) = true then ({ p with cells := putC p.kind p.cells i d }, 0) else (zP, 4)
def DoV (h0 : Base) (r : Pag × Int) (v : Value) (h' : Base) (H' : List Asrt) : Prop := h' = h0 ∧ ∃ b cap l, r.1.cells = l.map OC.cell ∧ okO l ∧ v = .tuple #[.agg (cP r.1 (bufV b l.length cap)).toArray, .int .i64 r.2] ∧ H' = pgA b cap l
theorem putC_len {kind : Int} {l : List PCell} {i : Nat} {d : List UInt8} (hi : i ≤ l.length) : (putC kind l i d).length ≤ l.length + 1 := by
 unfold putC
 split
 ·simp; omega
 ·simp
set_option maxHeartbeats 2000000 in
theorem PPut (h : Base) (b cap : Nat) (l : List OC) (p : Pag) (i : Nat) (v : Value) (d : List UInt8) (hw : wfP p) (hp : p.cells = l.map OC.cell) (hi : i ≤ l.length) (hcap : l.length + 1 ≤ cap) (hc1 : cap ≤ 1000000) (hk : okO l) (hv : BV h v d) (hd : d.length ≤ 140737488355328) :
  Tr Tryz.prog 113 [.agg (cP p (bufV (some b) l.length cap)).toArray, .int .i64 i, v] h (pgA (some b) cap l) (DoV h (putQ p i d)) := by
 obtain ⟨ao, ca, rfl⟩ := hv.len
 have hpl : p.cells.length = l.length := by rw [hp, List.length_map]
 have hins := fun B a2 cap2 => Insert h b (l.map rowO) i cap B (rowO ⟨true, 0, a2, cap2, d⟩) (by rw [List.length_map]; exact hi) (by rw [List.length_map]; exact hcap) hc1 (rowO_len l) rfl (rowO_ones l) rfl
 rw [List.length_map] at hins
 have hcells := fun (h' : Base) (hle : h.le h') (b' : Option Nat) (cap' : Nat) (l' : List OC) (hl : l'.length ≤ l.length + 1) (hk' : okO l') (hs : Says h' (pgA b' cap' l')) =>
  PCells h' _ { p with cells := l'.map OC.cell } (says_page hs hk' ⟨hw.kind, hw.lsn, hw.next, by rw [List.length_map]; omega⟩ rfl)
 have hcel := fun (b' : Option Nat) (cap' : Nat) (l' : List OC) (hl : l'.length ≤ l.length + 1) (hk' : okO l') => K.TrV.borrow (h := h) (R := []) fun h' hle hs => hcells h' hle b' cap' l' hl hk' hs
 simp only [List.length_map] at hcel
 show Tr Tryz.prog 113 _ h _ _
 refine K.enter Tryz.func113 rfl (Nat.le_of_ble_eq_true rfl) (fun F => ?_)
 simp only [pgA, List.cons_append, List.nil_append]
 (repeat' (first | refine X.rq ?_ | (refine X.rc ?_ ?_ <;> intro hc <;> first | (exfalso; omega) | skip)))
 refine K.l_box rfl rfl rfl (fun B1 => ?_)
 refine K.l_alloc (Fx.zr rfl) rfl rfl (fun B2 => ?_)
 (repeat' (first | refine X.rq ?_ | (refine X.rc ?_ ?_ <;> intro hc <;> first | (exfalso; omega) | skip)))
 refine K.l_call (Fx.cal rfl) rfl (Clone h _ d hv hd) (K.pp [] rfl) rfl ?_
 rintro u h' H' - ⟨e, a2, cap2, rfl, rfl⟩
 obtain rfl := e.symm
 simp only [List.set_cons_zero, List.set_cons_succ, List.eraseIdx_cons_zero, List.eraseIdx_cons_succ, List.cons_append, List.nil_append]
 (repeat' (first | refine X.rq ?_ | (refine X.rc ?_ ?_ <;> intro hc <;> first | (exfalso; omega) | skip)))
 refine K.l_alloc (Fx.zr rfl) rfl rfl (fun B => ?_)
 (repeat' (first | refine X.rq ?_ | (refine X.rc ?_ ?_ <;> intro hc <;> first | (exfalso; omega) | skip)))
 refine X.stw ?_
 simp only [List.set_cons_zero, List.set_cons_succ, List.eraseIdx_cons_zero, List.eraseIdx_cons_succ, List.cons_append, List.nil_append]
 (repeat' (first | refine X.rq ?_ | (refine X.rc ?_ ?_ <;> intro hc <;> first | (exfalso; omega) | skip)))
 ·have hk2 := hc
  refine X.bs (fun B => ?_)
  (repeat' (first | refine X.rq ?_ | (refine X.rc ?_ ?_ <;> intro hc <;> first | (exfalso; omega) | skip)))
  refine K.l_call (Fx.cal rfl) rfl (hins B a2 cap2) (K.pp [5, 0] rfl) rfl ?_
  rintro u h' H' - ⟨e, b', cap', rfl, rfl⟩
  obtain rfl := e.symm
  simp only [List.set_cons_zero, List.set_cons_succ, List.eraseIdx_cons_zero, List.eraseIdx_cons_succ, List.cons_append, List.nil_append]
  obtain ⟨l', hl'⟩ : ∃ l' : List OC, l' = l.take i ++ ⟨true, 0, a2, cap2, d⟩ :: l.drop i := ⟨_, rfl⟩
  have hln : l'.length = l.length + 1 := by rw [hl']; simp; omega
  have hrow : (l.map rowO).take i ++ rowO ⟨true, 0, a2, cap2, d⟩ :: (l.map rowO).drop i = l'.map rowO := by rw [hl', List.map_append, List.map_cons, List.map_take, List.map_drop]
  have hput : putC p.kind p.cells i d = l'.map OC.cell := by
   rw [putC, if_pos (.inl hk2), hp, hl', List.map_append, List.map_cons, List.map_take, List.map_drop]; rfl
  have hk' : okO l' := fun c hc => by
   rw [hl'] at hc
   rcases List.mem_append.1 hc with hc | hc
   ·exact hk c (List.mem_of_mem_take hc)
   ·rcases List.mem_cons.1 hc with hc | hc
    ·rw [hc]; exact Nat.zero_lt_succ _
    ·exact hk c (List.mem_of_mem_drop hc)
  rw [hrow, ← hln]
  refine K.WL.perm (K.pp [2, 4] rfl) ?_
  simp only [List.set_cons_zero, List.set_cons_succ, List.eraseIdx_cons_zero, List.eraseIdx_cons_succ, List.cons_append, List.nil_append]
  refine K.WL.allCons ?_
  refine WL.allPerm (B := l'.map datA) (by rw [hl', List.map_append, List.map_cons, List.map_take, List.map_drop]; exact (List.perm_middle.trans (by rw [List.take_append_drop]; exact List.Perm.refl _)).symm) ?_
  refine K.WL.perm (K.pp [1, 0] rfl) ?_
  simp only [List.set_cons_zero, List.set_cons_succ, List.eraseIdx_cons_zero, List.eraseIdx_cons_succ, List.cons_append, List.nil_append]
  (repeat' (first | refine X.rq ?_ | (refine X.rc ?_ ?_ <;> intro hc <;> first | (exfalso; omega) | skip)))
  refine X.sto ?_
  simp only [List.set_cons_zero, List.set_cons_succ, List.eraseIdx_cons_zero, List.eraseIdx_cons_succ, List.cons_append, List.nil_append]

  (repeat' (first | refine X.rq ?_ | (refine X.rc ?_ ?_ <;> intro hc <;> first | (exfalso; omega) | skip)))
  refine K.l_callV (Fx.cal rfl) rfl (hcel b' cap' l' (by omega) hk') (K.pp [0, 0] rfl) rfl rfl ?_
  simp only [pgA, List.cons_append, List.nil_append, List.append_nil]
  generalize hq : cellsQ (l'.map OC.cell) = q
  cases q with
  | true =>
   have hres : putQ p i d = ({ p with cells := l'.map OC.cell }, 0) := by rw [putQ, hput, if_pos hq]
   (repeat' (first | refine X.rq ?_ | (refine X.rc ?_ ?_ <;> intro hc <;> first | (exfalso; omega) | skip)))
   refine X.stw ?_
   simp only [List.set_cons_zero, List.set_cons_succ, List.eraseIdx_cons_zero, List.eraseIdx_cons_succ, List.cons_append, List.nil_append]
   (repeat' (first | refine X.rq ?_ | (refine X.rc ?_ ?_ <;> intro hc <;> first | (exfalso; omega) | skip)))
   refine K.AT.perm (K.pp [2, 2, 2, 0, 0] rfl) ?_
   simp only [List.set_cons_zero, List.set_cons_succ, List.eraseIdx_cons_zero, List.eraseIdx_cons_succ, List.cons_append, List.nil_append]
   refine K.doneC (by first | exact Or.inl rfl | exact Or.inr rfl) (.cell rfl (Fx.agg rfl) (Fx.sz rfl) (by first | exact K.cels_own (pre := []) (post := []) 0 rfl rfl | exact K.cels_own (pre := []) (post := []) 1 rfl rfl | exact K.cels_own (pre := []) (post := []) 2 rfl rfl | exact K.cels_own (pre := []) (post := []) 3 rfl rfl | exact K.cels_own (pre := []) (post := []) 4 rfl rfl | exact K.cels_own (pre := []) (post := []) 5 rfl rfl) (.tmp rfl .nil)) (by first | exact K.Base.le.refl _ | assumption) (vs := [.agg (cP p (bufV b' l'.length cap')).toArray, .int .i64 0]) (D := [_, _, _]) (H' := pgA b' cap' l') rfl (by rw [hres]; exact ⟨rfl, b', cap', l', rfl, hk', rfl, rfl⟩)
  | false =>
   have hres : putQ p i d = (zP, 4) := by rw [putQ, hput, if_neg (by rw [hq]; decide)]
   (repeat' (first | refine X.rq ?_ | (refine X.rc ?_ ?_ <;> intro hc <;> first | (exfalso; omega) | skip)))
   refine X.stw ?_
   simp only [List.set_cons_zero, List.set_cons_succ, List.eraseIdx_cons_zero, List.eraseIdx_cons_succ, List.cons_append, List.nil_append]
   (repeat' (first | refine X.rq ?_ | (refine X.rc ?_ ?_ <;> intro hc <;> first | (exfalso; omega) | skip)))
   refine AT.allNil ?_
   refine K.AT.nilBuf 55 3 ?_
   refine K.AT.perm (K.pp [2, 2, 2, 2, 2, 0, 0] rfl) ?_
   simp only [List.set_cons_zero, List.set_cons_succ, List.eraseIdx_cons_zero, List.eraseIdx_cons_succ, List.cons_append, List.nil_append]
   refine K.doneC (by first | exact Or.inl rfl | exact Or.inr rfl) (.cell rfl (Fx.agg rfl) (Fx.sz rfl) (by first | exact K.cels_own (pre := []) (post := []) 0 rfl rfl | exact K.cels_own (pre := []) (post := []) 1 rfl rfl | exact K.cels_own (pre := []) (post := []) 2 rfl rfl | exact K.cels_own (pre := []) (post := []) 3 rfl rfl | exact K.cels_own (pre := []) (post := []) 4 rfl rfl | exact K.cels_own (pre := []) (post := []) 5 rfl rfl) (.tmp rfl .nil)) (by first | exact K.Base.le.refl _ | assumption) (vs := [.agg (cP zP (bufV none 0 0)).toArray, .int .i64 4]) (D := [_, _, _, _, _]) (H' := pgA none 0 []) rfl (by rw [hres]; exact ⟨rfl, none, 0, [], rfl, (fun c hc => by cases hc), rfl, rfl⟩)
 ·have hil : i = p.cells.length := by omega
  refine X.bs (fun B => ?_)
  (repeat' (first | refine X.rq ?_ | (refine X.rc ?_ ?_ <;> intro hc <;> first | (exfalso; omega) | skip)))
  refine K.l_call (Fx.cal rfl) rfl (hins B a2 cap2) (K.pp [5, 0] rfl) rfl ?_
  rintro u h' H' - ⟨e, b', cap', rfl, rfl⟩
  obtain rfl := e.symm
  simp only [List.set_cons_zero, List.set_cons_succ, List.eraseIdx_cons_zero, List.eraseIdx_cons_succ, List.cons_append, List.nil_append]
  obtain ⟨l', hl'⟩ : ∃ l' : List OC, l' = l.take i ++ ⟨true, 0, a2, cap2, d⟩ :: l.drop i := ⟨_, rfl⟩
  have hln : l'.length = l.length + 1 := by rw [hl']; simp; omega
  have hrow : (l.map rowO).take i ++ rowO ⟨true, 0, a2, cap2, d⟩ :: (l.map rowO).drop i = l'.map rowO := by rw [hl', List.map_append, List.map_cons, List.map_take, List.map_drop]
  have hput : putC p.kind p.cells i d = l'.map OC.cell := by
   rw [putC, if_pos (.inr hil), hp, hl', List.map_append, List.map_cons, List.map_take, List.map_drop]; rfl
  have hk' : okO l' := fun c hc => by
   rw [hl'] at hc
   rcases List.mem_append.1 hc with hc | hc
   ·exact hk c (List.mem_of_mem_take hc)
   ·rcases List.mem_cons.1 hc with hc | hc
    ·rw [hc]; exact Nat.zero_lt_succ _
    ·exact hk c (List.mem_of_mem_drop hc)
  rw [hrow, ← hln]
  refine K.WL.perm (K.pp [2, 4] rfl) ?_
  simp only [List.set_cons_zero, List.set_cons_succ, List.eraseIdx_cons_zero, List.eraseIdx_cons_succ, List.cons_append, List.nil_append]
  refine K.WL.allCons ?_
  refine WL.allPerm (B := l'.map datA) (by rw [hl', List.map_append, List.map_cons, List.map_take, List.map_drop]; exact (List.perm_middle.trans (by rw [List.take_append_drop]; exact List.Perm.refl _)).symm) ?_
  refine K.WL.perm (K.pp [1, 0] rfl) ?_
  simp only [List.set_cons_zero, List.set_cons_succ, List.eraseIdx_cons_zero, List.eraseIdx_cons_succ, List.cons_append, List.nil_append]
  (repeat' (first | refine X.rq ?_ | (refine X.rc ?_ ?_ <;> intro hc <;> first | (exfalso; omega) | skip)))
  refine X.sto ?_
  simp only [List.set_cons_zero, List.set_cons_succ, List.eraseIdx_cons_zero, List.eraseIdx_cons_succ, List.cons_append, List.nil_append]

  (repeat' (first | refine X.rq ?_ | (refine X.rc ?_ ?_ <;> intro hc <;> first | (exfalso; omega) | skip)))
  refine K.l_callV (Fx.cal rfl) rfl (hcel b' cap' l' (by omega) hk') (K.pp [0, 0] rfl) rfl rfl ?_
  simp only [pgA, List.cons_append, List.nil_append, List.append_nil]
  generalize hq : cellsQ (l'.map OC.cell) = q
  cases q with
  | true =>
   have hres : putQ p i d = ({ p with cells := l'.map OC.cell }, 0) := by rw [putQ, hput, if_pos hq]
   (repeat' (first | refine X.rq ?_ | (refine X.rc ?_ ?_ <;> intro hc <;> first | (exfalso; omega) | skip)))
   refine X.stw ?_
   simp only [List.set_cons_zero, List.set_cons_succ, List.eraseIdx_cons_zero, List.eraseIdx_cons_succ, List.cons_append, List.nil_append]
   (repeat' (first | refine X.rq ?_ | (refine X.rc ?_ ?_ <;> intro hc <;> first | (exfalso; omega) | skip)))
   refine K.AT.perm (K.pp [2, 2, 2, 0, 0] rfl) ?_
   simp only [List.set_cons_zero, List.set_cons_succ, List.eraseIdx_cons_zero, List.eraseIdx_cons_succ, List.cons_append, List.nil_append]
   refine K.doneC (by first | exact Or.inl rfl | exact Or.inr rfl) (.cell rfl (Fx.agg rfl) (Fx.sz rfl) (by first | exact K.cels_own (pre := []) (post := []) 0 rfl rfl | exact K.cels_own (pre := []) (post := []) 1 rfl rfl | exact K.cels_own (pre := []) (post := []) 2 rfl rfl | exact K.cels_own (pre := []) (post := []) 3 rfl rfl | exact K.cels_own (pre := []) (post := []) 4 rfl rfl | exact K.cels_own (pre := []) (post := []) 5 rfl rfl) (.tmp rfl .nil)) (by first | exact K.Base.le.refl _ | assumption) (vs := [.agg (cP p (bufV b' l'.length cap')).toArray, .int .i64 0]) (D := [_, _, _]) (H' := pgA b' cap' l') rfl (by rw [hres]; exact ⟨rfl, b', cap', l', rfl, hk', rfl, rfl⟩)
  | false =>
   have hres : putQ p i d = (zP, 4) := by rw [putQ, hput, if_neg (by rw [hq]; decide)]
   (repeat' (first | refine X.rq ?_ | (refine X.rc ?_ ?_ <;> intro hc <;> first | (exfalso; omega) | skip)))
   refine X.stw ?_
   simp only [List.set_cons_zero, List.set_cons_succ, List.eraseIdx_cons_zero, List.eraseIdx_cons_succ, List.cons_append, List.nil_append]
   (repeat' (first | refine X.rq ?_ | (refine X.rc ?_ ?_ <;> intro hc <;> first | (exfalso; omega) | skip)))
   refine AT.allNil ?_
   refine K.AT.nilBuf 55 3 ?_
   refine K.AT.perm (K.pp [2, 2, 2, 2, 2, 0, 0] rfl) ?_
   simp only [List.set_cons_zero, List.set_cons_succ, List.eraseIdx_cons_zero, List.eraseIdx_cons_succ, List.cons_append, List.nil_append]
   refine K.doneC (by first | exact Or.inl rfl | exact Or.inr rfl) (.cell rfl (Fx.agg rfl) (Fx.sz rfl) (by first | exact K.cels_own (pre := []) (post := []) 0 rfl rfl | exact K.cels_own (pre := []) (post := []) 1 rfl rfl | exact K.cels_own (pre := []) (post := []) 2 rfl rfl | exact K.cels_own (pre := []) (post := []) 3 rfl rfl | exact K.cels_own (pre := []) (post := []) 4 rfl rfl | exact K.cels_own (pre := []) (post := []) 5 rfl rfl) (.tmp rfl .nil)) (by first | exact K.Base.le.refl _ | assumption) (vs := [.agg (cP zP (bufV none 0 0)).toArray, .int .i64 4]) (D := [_, _, _, _, _]) (H' := pgA none 0 []) rfl (by rw [hres]; exact ⟨rfl, none, 0, [], rfl, (fun c hc => by cases hc), rfl, rfl⟩)
 ·have hk2 : ¬ p.kind = 2 := by assumption
  refine K.WL.perm (K.pp [4] rfl) ?_
  simp only [List.set_cons_zero, List.set_cons_succ, List.eraseIdx_cons_zero, List.eraseIdx_cons_succ, List.cons_append, List.nil_append]
  refine K.o_buf (fun e _ _ _ => by cases e) ?_
  rintro bb sp fz e g2 g3 g4 g5 g6
  cases e
  have hil : i < l.length := by omega
  have hle : l.length * 3 ≤ cap * 3 := Nat.mul_le_mul_right _ (by omega)
  refine K.l_storeRow (s := 3) (i := i) (us := rowO ⟨true, 0, a2, cap2, d⟩) (Fx.sz rfl) (by show some (Value.pointer (some ⟨b, 0 + ((i : Nat) : Int).toNat * 3, none⟩)) = _; rw [Nat.zero_add]; rfl) rfl rfl (rowO_len l) rfl (by rw [List.length_map]; exact hil) (fun o ho => g6 o (by rw [List.length_map] at ho; omega)) ?_
  rw [← map_row_set]
  obtain ⟨l', hl'⟩ : ∃ l' : List OC, l' = l.set i ⟨true, 0, a2, cap2, d⟩ := ⟨_, rfl⟩
  have hln : l'.length = l.length := by rw [hl']; simp
  have hput : putC p.kind p.cells i d = l'.map OC.cell := by
   rw [putC, if_neg (by omega), hp, hl', List.map_set]; rfl
  have hk' : okO l' := by rw [hl']; exact okO_set hk i (Nat.zero_lt_succ _)
  have hfl : (l'.map rowO).flatten.length = l'.length * 3 := by rw [K.flatten_len _ (rowO_len l'), List.length_map]
  refine K.WL.perm (K.pp [2, 4] rfl) ?_
  simp only [List.set_cons_zero, List.set_cons_succ, List.eraseIdx_cons_zero, List.eraseIdx_cons_succ, List.cons_append, List.nil_append]
  refine K.WL.allPut (i := i) (by rw [List.length_map]; exact hil) ?_
  rw [show (l.map datA).set i (bufA 5 1 a2 d.length cap2 (d.map u8)) = l'.map datA by rw [hl', List.map_set]; rfl, ← hl']
  refine K.WL.perm (K.pp [1, 0] rfl) ?_
  simp only [List.set_cons_zero, List.set_cons_succ, List.eraseIdx_cons_zero, List.eraseIdx_cons_succ, List.cons_append, List.nil_append]
  refine K.WL.shut (s := 3) (m := l'.length) (cap := cap) hfl (by rw [← g3, List.length_append, List.length_append, hfl, hln, g2]) (by omega) g5 g6 ?_
  rw [← hln]
  obtain ⟨b', hb'⟩ : ∃ b', b' = some b := ⟨_, rfl⟩
  obtain ⟨cap', hcap'⟩ : ∃ cap', cap' = cap := ⟨_, rfl⟩
  rw [← hb', ← hcap']

  (repeat' (first | refine X.rq ?_ | (refine X.rc ?_ ?_ <;> intro hc <;> first | (exfalso; omega) | skip)))
  refine K.l_callV (Fx.cal rfl) rfl (hcel b' cap' l' (by omega) hk') (K.pp [0, 0] rfl) rfl rfl ?_
  simp only [pgA, List.cons_append, List.nil_append, List.append_nil]
  generalize hq : cellsQ (l'.map OC.cell) = q
  cases q with
  | true =>
   have hres : putQ p i d = ({ p with cells := l'.map OC.cell }, 0) := by rw [putQ, hput, if_pos hq]
   (repeat' (first | refine X.rq ?_ | (refine X.rc ?_ ?_ <;> intro hc <;> first | (exfalso; omega) | skip)))
   refine X.stw ?_
   simp only [List.set_cons_zero, List.set_cons_succ, List.eraseIdx_cons_zero, List.eraseIdx_cons_succ, List.cons_append, List.nil_append]
   (repeat' (first | refine X.rq ?_ | (refine X.rc ?_ ?_ <;> intro hc <;> first | (exfalso; omega) | skip)))
   refine K.AT.perm (K.pp [2, 2, 2, 0, 0] rfl) ?_
   simp only [List.set_cons_zero, List.set_cons_succ, List.eraseIdx_cons_zero, List.eraseIdx_cons_succ, List.cons_append, List.nil_append]
   refine K.doneC (by first | exact Or.inl rfl | exact Or.inr rfl) (.cell rfl (Fx.agg rfl) (Fx.sz rfl) (by first | exact K.cels_own (pre := []) (post := []) 0 rfl rfl | exact K.cels_own (pre := []) (post := []) 1 rfl rfl | exact K.cels_own (pre := []) (post := []) 2 rfl rfl | exact K.cels_own (pre := []) (post := []) 3 rfl rfl | exact K.cels_own (pre := []) (post := []) 4 rfl rfl | exact K.cels_own (pre := []) (post := []) 5 rfl rfl) (.tmp rfl .nil)) (by first | exact K.Base.le.refl _ | assumption) (vs := [.agg (cP p (bufV b' l'.length cap')).toArray, .int .i64 0]) (D := [_, _, _]) (H' := pgA b' cap' l') rfl (by rw [hres]; exact ⟨rfl, b', cap', l', rfl, hk', rfl, rfl⟩)
  | false =>
   have hres : putQ p i d = (zP, 4) := by rw [putQ, hput, if_neg (by rw [hq]; decide)]
   (repeat' (first | refine X.rq ?_ | (refine X.rc ?_ ?_ <;> intro hc <;> first | (exfalso; omega) | skip)))
   refine X.stw ?_
   simp only [List.set_cons_zero, List.set_cons_succ, List.eraseIdx_cons_zero, List.eraseIdx_cons_succ, List.cons_append, List.nil_append]
   (repeat' (first | refine X.rq ?_ | (refine X.rc ?_ ?_ <;> intro hc <;> first | (exfalso; omega) | skip)))
   refine AT.allNil ?_
   refine K.AT.nilBuf 55 3 ?_
   refine K.AT.perm (K.pp [2, 2, 2, 2, 2, 0, 0] rfl) ?_
   simp only [List.set_cons_zero, List.set_cons_succ, List.eraseIdx_cons_zero, List.eraseIdx_cons_succ, List.cons_append, List.nil_append]
   refine K.doneC (by first | exact Or.inl rfl | exact Or.inr rfl) (.cell rfl (Fx.agg rfl) (Fx.sz rfl) (by first | exact K.cels_own (pre := []) (post := []) 0 rfl rfl | exact K.cels_own (pre := []) (post := []) 1 rfl rfl | exact K.cels_own (pre := []) (post := []) 2 rfl rfl | exact K.cels_own (pre := []) (post := []) 3 rfl rfl | exact K.cels_own (pre := []) (post := []) 4 rfl rfl | exact K.cels_own (pre := []) (post := []) 5 rfl rfl) (.tmp rfl .nil)) (by first | exact K.Base.le.refl _ | assumption) (vs := [.agg (cP zP (bufV none 0 0)).toArray, .int .i64 4]) (D := [_, _, _, _, _]) (H' := pgA none 0 []) rfl (by rw [hres]; exact ⟨rfl, none, 0, [], rfl, (fun c hc => by cases hc), rfl, rfl⟩)
end Go.Proofs.YtkdngpiiecmpgaaGreat.Pg
