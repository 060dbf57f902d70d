/-
 A cell taken away, a cell put. Conditions: each theorem's own.
-/
import Derived.Test.YtkdngpiiecmpgaaGreatQ28
import Derived.Test.YtkdngpiiecmpgaaGreatQ1
namespace Go.Proofs.YtkdngpiiecmpgaaGreat.Pg
open Go Go.K Go.Proofs Go.Proofs.YtkdngpiiecmpgaaGreat
set_option linter.unusedVariables false
set_option linter.unusedSimpArgs false
set_option maxRecDepth 10000

def trimN (l : List PCell) : Nat → Nat
 | 0 => 0
 | n + 1 => match l[n]? with
  | some x => if x.used = true then n + 1 else trimN l n
  | none => trimN l n
def freeC (kind : Int) (l : List PCell) (i : Nat) : List PCell := if kind = 2 then l.take i ++ l.drop (i + 1) else (l.set i ⟨false, 0, []⟩).take (trimN (l.set i ⟨false, 0, []⟩) l.length)
theorem trim_used {l : List PCell} {n : Nat} {x : PCell} (hx : l[n]? = some x) (hu : x.used = true) : trimN l (n + 1) = n + 1 := by rw [trimN, hx]; simp [hu]
theorem trim_free {l : List PCell} {n : Nat} {x : PCell} (hx : l[n]? = some x) (hu : x.used = false) : trimN l (n + 1) = trimN l n := by rw [trimN, hx]; simp [hu]
theorem rowO_ones (l : List OC) : ∀ e ∈ l.map rowO, ones e = true := fun e he => by
 obtain ⟨c, _, rfl⟩ := List.mem_map.1 he
 rfl
def oZ : OC := ⟨false, 0, none, 0, []⟩
theorem rowO_z : rowO oZ = zrow := rfl
theorem map_row_set (l : List OC) (i : Nat) (c : OC) : (l.set i c).map rowO = (l.map rowO).set i (rowO c) := List.map_set
theorem okO_set {l : List OC} (hk : okO l) (i : Nat) {c : OC} (hc : c.killer < 4294967296) : okO (l.set i c) := fun x hx => by
 rcases List.mem_or_eq_of_mem_set hx with h' | h'
 ·exact hk x h'
 ·rw [h']; exact hc
set_option maxHeartbeats 1000000 in
theorem PFree (h : Base) (b cap : Nat) (l : List OC) (p : Pag) (i : Nat) (hi : i < l.length) (hcap : l.length ≤ cap) (hc1 : cap ≤ 1000000) (hk : okO l) :
  Tr Tryz.prog 114 [.agg (cP p (bufV (some b) l.length cap)).toArray, .int .i64 i] h (pgA (some b) cap l)
   (fun v h' H' => h' = h ∧ ∃ l', l'.map OC.cell = freeC p.kind (l.map OC.cell) i ∧ okO l' ∧ v = .agg (cP p (bufV (some b) l'.length cap)).toArray ∧ H' = pgA (some b) cap l') := by
 have hdel := Delete h b (l.map rowO) i cap (by rw [List.length_map]; exact hi) (by rw [List.length_map]; exact hcap) hc1 (rowO_len l) (rowO_ones l)
 rw [List.length_map] at hdel
 show Tr Tryz.prog 114 _ h _ _
 refine K.enter Tryz.func114 rfl (Nat.le_of_ble_eq_true rfl) (fun F => ?_)
 simp only [pgA, List.cons_append, List.nil_append]
 (repeat' (first | refine X.rq ?_ | (refine X.rc ?_ ?_ <;> intro hc <;> first | (exfalso; omega) | skip)))
 refine K.l_box rfl rfl rfl (fun B1 => ?_)
 refine K.l_alloc (Fx.zr rfl) rfl rfl (fun B2 => ?_)
 (repeat' (first | refine X.rq ?_ | (refine X.rc ?_ ?_ <;> intro hc <;> first | (exfalso; omega) | skip)))
 ·have hk2 := hc
  refine K.l_call (Fx.cal rfl) rfl hdel (K.pp [2] rfl) rfl ?_
  rintro u h' H' - ⟨e, rfl, rfl⟩
  obtain rfl := e.symm
  simp only [List.set_cons_zero, List.set_cons_succ, List.eraseIdx_cons_zero, List.eraseIdx_cons_succ, List.cons_append, List.nil_append]
  (repeat' (first | refine X.rq ?_ | (refine X.rc ?_ ?_ <;> intro hc <;> first | (exfalso; omega) | skip)))
  refine X.sto ?_
  simp only [List.set_cons_zero, List.set_cons_succ, List.eraseIdx_cons_zero, List.eraseIdx_cons_succ, List.cons_append, List.nil_append]
  (repeat' (first | refine X.rq ?_ | (refine X.rc ?_ ?_ <;> intro hc <;> first | (exfalso; omega) | skip)))
  refine X.stw ?_
  simp only [List.set_cons_zero, List.set_cons_succ, List.eraseIdx_cons_zero, List.eraseIdx_cons_succ, List.cons_append, List.nil_append]
  (repeat' (first | refine X.rq ?_ | (refine X.rc ?_ ?_ <;> intro hc <;> first | (exfalso; omega) | skip)))
  have hl' : (l.take i ++ l.drop (i + 1)).length = l.length - 1 := by simp; omega
  refine K.AT.perm (K.pp [3] rfl) ?_
  simp only [List.set_cons_zero, List.set_cons_succ, List.eraseIdx_cons_zero, List.eraseIdx_cons_succ, List.cons_append, List.nil_append]
  refine K.AT.allSub (B := (l.take i ++ l.drop (i + 1)).map datA) (List.Sublist.map _ ?_) ?_
  ·exact (List.eraseIdx_eq_take_drop_succ l i ▸ List.eraseIdx_sublist ..)
  refine K.AT.perm (K.pp [2, 2, 1, 0] rfl) ?_
  simp only [List.set_cons_zero, List.set_cons_succ, List.eraseIdx_cons_zero, List.eraseIdx_cons_succ, List.cons_append, List.nil_append]
  rw [← List.map_take, ← List.map_drop, ← List.map_append, ← hl']
  refine K.doneC (by first | exact Or.inl rfl | exact Or.inr rfl) (.cell rfl (Fx.agg rfl) (Fx.sz rfl) (by first | exact K.cels_own (pre := []) (post := []) 0 rfl rfl | exact K.cels_own (pre := []) (post := []) 1 rfl rfl | exact K.cels_own (pre := []) (post := []) 2 rfl rfl | exact K.cels_own (pre := []) (post := []) 3 rfl rfl | exact K.cels_own (pre := []) (post := []) 4 rfl rfl | exact K.cels_own (pre := []) (post := []) 5 rfl rfl) .nil) (by first | exact K.Base.le.refl _ | assumption) (vs := [.agg (cP p (bufV (some b) (l.take i ++ l.drop (i + 1)).length cap)).toArray]) (D := [_, _]) (H' := pgA (some b) cap (l.take i ++ l.drop (i + 1))) rfl ⟨rfl, l.take i ++ l.drop (i + 1), by rw [freeC, if_pos hk2, List.map_append, List.map_take, List.map_drop], fun c hc => ?_, rfl, rfl⟩
  rcases List.mem_append.1 hc with hc | hc
  ·exact hk c (List.mem_of_mem_take hc)
  ·exact hk c (List.mem_of_mem_drop hc)
 ·have hk2 := hc
  refine K.WL.perm (K.pp [2] rfl) ?_
  simp only [List.set_cons_zero, List.set_cons_succ, List.eraseIdx_cons_zero, List.eraseIdx_cons_succ, List.cons_append, List.nil_append]
  refine K.o_buf (fun e _ _ _ => by cases e) ?_
  rintro bb sp fz e g2 g3 g4 g5 g6
  cases e
  (repeat' (first | refine X.rq ?_ | (refine X.rc ?_ ?_ <;> intro hc <;> first | (exfalso; omega) | skip)))
  refine K.l_storeRow (s := 3) (i := i) (us := zrow) (Fx.sz rfl) (by show some (Value.pointer (some ⟨b, 0 + ((i : Nat) : Int).toNat * 3, none⟩)) = _; rw [Nat.zero_add]; rfl) rfl rfl (rowO_len l) rfl (by rw [List.length_map]; exact hi) (fun o ho => g6 o (by
   have : l.length * 3 ≤ cap * 3 := Nat.mul_le_mul_right _ hcap
   rw [List.length_map] at ho; omega)) ?_
  rw [← rowO_z, ← map_row_set]
  have hlen : (l.set i oZ).length = l.length := List.length_set
  have hfr : freeC p.kind (l.map OC.cell) i = ((l.set i oZ).map OC.cell).take (trimN ((l.set i oZ).map OC.cell) l.length) := by
   rw [freeC, if_neg hk2, List.length_map, List.map_set]; rfl
  have hk1 := okO_set hk i (c := oZ) (by decide)
  (repeat' (first | refine X.rq ?_ | (refine X.rc ?_ ?_ <;> intro hc <;> first | (exfalso; omega) | skip)))
  refine K.WC.perm (K.pp [3] rfl) ?_
  simp only [List.set_cons_zero, List.set_cons_succ, List.eraseIdx_cons_zero, List.eraseIdx_cons_succ, List.cons_append, List.nil_append]
  refine K.WC.allSet 5 1 i ?_
  rw [show (l.map datA).set i (bufA 5 1 none 0 0 []) = (l.set i oZ).map datA by rw [List.map_set]; rfl]
  generalize l.set i oZ = m at hlen hfr hk1 ⊢
  have hz := rowO_len m
  refine K.c_loop (σ := Nat) (fun j => [(2, .pointer (some ⟨B1, 0, none⟩)), (4, .pointer (some ⟨B2, 0, none⟩)), (5, .int .i64 j)]) (fun _ => h) (fun _ => all (m.map datA) :: blkF b 55 ((m.map rowO).flatten ++ sp) fz :: blk B2 50 (cP ⟨0, 0, 0, []⟩ (.slice none 0 0)) :: blk B1 50 (cP p (bufV (some b) l.length cap)) :: F)
   (fun j => j ≤ l.length ∧ trimN (m.map OC.cell) l.length = trimN (m.map OC.cell) j) (fun j => j) l.length ⟨Nat.le_refl _, rfl⟩ (by repeat (first | exact K.Sub.nil _ | refine K.Sub.cons rfl ?_)) rfl rfl ?_
  rintro j ⟨hj, hjt⟩ KL hKL
  by_cases hj0 : 0 < j
  ·have hm1 : m[j - 1]? = some (m[j - 1]'(by omega)) := List.getElem?_eq_getElem (by omega)
   generalize m[j - 1]'(by omega) = x at hm1
   have hr1 : (m.map rowO)[j - 1]? = some (rowO x) := by rw [List.getElem?_map, hm1]; rfl
   have hx1 : (m.map OC.cell)[j - 1]? = some x.cell := by rw [List.getElem?_map, hm1]; rfl
   obtain ⟨j', rfl⟩ : ∃ j', j = j' + 1 := ⟨j - 1, by omega⟩
   rw [Nat.add_sub_cancel] at hm1 hr1 hx1
   cases hu : x.used with
   | true =>
    have ht := trim_used hx1 hu
    (repeat' (first | refine X.rq ?_ | (refine X.rc ?_ ?_ <;> intro hc <;> first | (exfalso; omega) | skip)))
    refine K.s_pure (K.p_load (Fx.agg rfl) rfl (K.cel_row (s := 3) (i := j') (j := 0) (u := .bool true) 1 rfl hz hr1 (by show some (Value.bool x.used) = _; rw [hu]) (by omega))) rfl ?_
    (repeat' (first | refine X.rq ?_ | (refine X.rc ?_ ?_ <;> intro hc <;> first | (exfalso; omega) | skip)))
    refine K.s_pure (K.p_slice (k1 := .i64) (k2 := .i64) (l := 0) (u := j' + 1) (ao := some ⟨b, 0, none⟩) (Fx.und rfl) (Fx.sz rfl) rfl rfl ⟨_, rfl, rfl⟩ (by omega) (by omega) (by split <;> simp)) rfl ?_
    rw [Nat.sub_zero, Nat.sub_zero]
    (repeat' (first | refine X.rq ?_ | (refine X.rc ?_ ?_ <;> intro hc <;> first | (exfalso; omega) | skip)))
    refine X.sto ?_
    simp only [List.set_cons_zero, List.set_cons_succ, List.eraseIdx_cons_zero, List.eraseIdx_cons_succ, List.cons_append, List.nil_append]
    (repeat' (first | refine X.rq ?_ | (refine X.rc ?_ ?_ <;> intro hc <;> first | (exfalso; omega) | skip)))
    refine X.stw ?_
    simp only [List.set_cons_zero, List.set_cons_succ, List.eraseIdx_cons_zero, List.eraseIdx_cons_succ, List.cons_append, List.nil_append]
    (repeat' (first | refine X.rq ?_ | (refine X.rc ?_ ?_ <;> intro hc <;> first | (exfalso; omega) | skip)))
    have hlj : (m.take (j' + 1)).length = j' + 1 := by rw [List.length_take]; omega
    have hsplit : (m.map rowO).flatten ++ sp = ((m.take (j' + 1)).map rowO).flatten ++ (((m.drop (j' + 1)).map rowO).flatten ++ sp) := by rw [← List.append_assoc, ← List.flatten_append, ← List.map_append, List.take_append_drop]
    have hlf : ((m.take (j' + 1)).map rowO).flatten.length = (j' + 1) * 3 := by rw [K.flatten_len _ (rowO_len _), List.length_map, hlj]
    have hlc : (((m.take (j' + 1)).map rowO).flatten ++ (((m.drop (j' + 1)).map rowO).flatten ++ sp)).length = cap * 3 := by rw [← hsplit, ← g3, List.length_append, List.length_append, g2, K.flatten_len _ hz, List.length_map, hlen]
    rw [hsplit]
    refine K.AT.perm (K.pp [1] rfl) ?_
    simp only [List.set_cons_zero, List.set_cons_succ, List.eraseIdx_cons_zero, List.eraseIdx_cons_succ, List.cons_append, List.nil_append]
    refine K.AT.shut (s := 3) (m := j' + 1) (cap := cap) hlf hlc (by omega) g5 g6 ?_
    refine K.AT.perm (K.pp [1] rfl) ?_
    simp only [List.set_cons_zero, List.set_cons_succ, List.eraseIdx_cons_zero, List.eraseIdx_cons_succ, List.cons_append, List.nil_append]
    refine K.AT.allSub (B := (m.take (j' + 1)).map datA) (List.Sublist.map _ (List.take_sublist ..)) ?_
    refine K.AT.perm (K.pp [2, 2, 1, 0] rfl) ?_
    simp only [List.set_cons_zero, List.set_cons_succ, List.eraseIdx_cons_zero, List.eraseIdx_cons_succ, List.cons_append, List.nil_append]
    refine K.doneC (by first | exact Or.inl rfl | exact Or.inr rfl) (.cell rfl (Fx.agg rfl) (Fx.sz rfl) (by first | exact K.cels_own (pre := []) (post := []) 0 rfl rfl | exact K.cels_own (pre := []) (post := []) 1 rfl rfl | exact K.cels_own (pre := []) (post := []) 2 rfl rfl | exact K.cels_own (pre := []) (post := []) 3 rfl rfl | exact K.cels_own (pre := []) (post := []) 4 rfl rfl | exact K.cels_own (pre := []) (post := []) 5 rfl rfl) .nil) (by first | exact K.Base.le.refl _ | assumption) (vs := [.agg (cP p (bufV (some b) (j' + 1) cap)).toArray]) (D := [_, _]) (H' := pgA (some b) cap (m.take (j' + 1))) (by rw [pgA, hlj]; rfl) ⟨rfl, m.take (j' + 1), by rw [hfr, hjt, List.map_take, ht], fun c hc => hk1 c (List.mem_of_mem_take hc), by rw [hlj]; rfl, rfl⟩
   | false =>
    have ht := trim_free hx1 hu
    (repeat' (first | refine X.rq ?_ | (refine X.rc ?_ ?_ <;> intro hc <;> first | (exfalso; omega) | skip)))
    refine K.s_pure (K.p_load (Fx.agg rfl) rfl (K.cel_row (s := 3) (i := j') (j := 0) (u := .bool false) 1 rfl hz hr1 (by show some (Value.bool x.used) = _; rw [hu]) (by omega))) rfl ?_
    (repeat' (first | refine X.rq ?_ | (refine X.rc ?_ ?_ <;> intro hc <;> first | (exfalso; omega) | skip)))
    rw [show (((j' + 1 : Nat) : Int) - 1) = (j' : Int) by omega]
    refine K.a_round hKL j' ⟨by omega, by rw [hjt, ht]⟩ (by repeat (first | exact K.Sub.nil _ | refine K.Sub.cons rfl ?_)) rfl rfl (by omega)
  ·have hz0 : List.take j (m.map OC.cell) = List.take (trimN (m.map OC.cell) j) (m.map OC.cell) := by
    rw [show j = 0 by omega]; rfl
   (repeat' (first | refine X.rq ?_ | (refine X.rc ?_ ?_ <;> intro hc <;> first | (exfalso; omega) | skip)))
   refine K.s_pure (K.p_slice (k1 := .i64) (k2 := .i64) (l := 0) (u := j) (ao := some ⟨b, 0, none⟩) (Fx.und rfl) (Fx.sz rfl) rfl rfl ⟨_, rfl, rfl⟩ (by omega) (by omega) (by split <;> simp)) rfl ?_
   rw [Nat.sub_zero, Nat.sub_zero]
   (repeat' (first | refine X.rq ?_ | (refine X.rc ?_ ?_ <;> intro hc <;> first | (exfalso; omega) | skip)))
   refine X.sto ?_
   simp only [List.set_cons_zero, List.set_cons_succ, List.eraseIdx_cons_zero, List.eraseIdx_cons_succ, List.cons_append, List.nil_append]
   (repeat' (first | refine X.rq ?_ | (refine X.rc ?_ ?_ <;> intro hc <;> first | (exfalso; omega) | skip)))
   refine X.stw ?_
   simp only [List.set_cons_zero, List.set_cons_succ, List.eraseIdx_cons_zero, List.eraseIdx_cons_succ, List.cons_append, List.nil_append]
   (repeat' (first | refine X.rq ?_ | (refine X.rc ?_ ?_ <;> intro hc <;> first | (exfalso; omega) | skip)))
   have hlj : (m.take (j)).length = j := by rw [List.length_take]; omega
   have hsplit : (m.map rowO).flatten ++ sp = ((m.take (j)).map rowO).flatten ++ (((m.drop (j)).map rowO).flatten ++ sp) := by rw [← List.append_assoc, ← List.flatten_append, ← List.map_append, List.take_append_drop]
   have hlf : ((m.take (j)).map rowO).flatten.length = (j) * 3 := by rw [K.flatten_len _ (rowO_len _), List.length_map, hlj]
   have hlc : (((m.take (j)).map rowO).flatten ++ (((m.drop (j)).map rowO).flatten ++ sp)).length = cap * 3 := by rw [← hsplit, ← g3, List.length_append, List.length_append, g2, K.flatten_len _ hz, List.length_map, hlen]
   rw [hsplit]
   refine K.AT.perm (K.pp [1] rfl) ?_
   simp only [List.set_cons_zero, List.set_cons_succ, List.eraseIdx_cons_zero, List.eraseIdx_cons_succ, List.cons_append, List.nil_append]
   refine K.AT.shut (s := 3) (m := j) (cap := cap) hlf hlc (by omega) g5 g6 ?_
   refine K.AT.perm (K.pp [1] rfl) ?_
   simp only [List.set_cons_zero, List.set_cons_succ, List.eraseIdx_cons_zero, List.eraseIdx_cons_succ, List.cons_append, List.nil_append]
   refine K.AT.allSub (B := (m.take (j)).map datA) (List.Sublist.map _ (List.take_sublist ..)) ?_
   refine K.AT.perm (K.pp [2, 2, 1, 0] rfl) ?_
   simp only [List.set_cons_zero, List.set_cons_succ, List.eraseIdx_cons_zero, List.eraseIdx_cons_succ, List.cons_append, List.nil_append]
   refine K.doneC (by first | exact Or.inl rfl | exact Or.inr rfl) (.cell rfl (Fx.agg rfl) (Fx.sz rfl) (by first | exact K.cels_own (pre := []) (post := []) 0 rfl rfl | exact K.cels_own (pre := []) (post := []) 1 rfl rfl | exact K.cels_own (pre := []) (post := []) 2 rfl rfl | exact K.cels_own (pre := []) (post := []) 3 rfl rfl | exact K.cels_own (pre := []) (post := []) 4 rfl rfl | exact K.cels_own (pre := []) (post := []) 5 rfl rfl) .nil) (by first | exact K.Base.le.refl _ | assumption) (vs := [.agg (cP p (bufV (some b) (j) cap)).toArray]) (D := [_, _]) (H' := pgA (some b) cap (m.take (j))) (by rw [pgA, hlj]; rfl) ⟨rfl, m.take (j), by rw [hfr, hjt, List.map_take]; exact hz0, fun c hc => hk1 c (List.mem_of_mem_take hc), by rw [hlj]; rfl, rfl⟩
end Go.Proofs.YtkdngpiiecmpgaaGreat.Pg
