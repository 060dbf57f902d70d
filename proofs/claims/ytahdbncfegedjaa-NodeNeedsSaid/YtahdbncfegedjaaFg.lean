/-
  Pages: too long ones; copies; room. Conditions: each theorem's own.
-/
import Derived.Test.YtahdbncfegedjaaFf

namespace Go.Proofs.Ytahdbncfegedjaa.Pg
open Go Go.K Go.Proofs Go.Proofs.Ytahdbncfegedjaa
set_option linter.unusedVariables false
set_option linter.unusedSimpArgs false
set_option maxRecDepth 10000

def longQ (l : List PCell) : Bool := (l.take 301).any (fun x => decide (2000 < x.data.length)) || decide (300 < l.length)
theorem long_no {l : List PCell} (h : longQ l = false) : l.length ≤ 300 ∧ ∀ x ∈ l, x.data.length ≤ 2000 := by
  simp only [longQ, Bool.or_eq_false_iff, List.any_eq_false, decide_eq_true_eq, decide_eq_false_iff_not] at h
  have h1 : l.length ≤ 300 := by omega
  refine ⟨h1, fun x hx => ?_⟩
  have := h.1 x (by rw [List.take_of_length_le (by omega)]; exact hx)
  omega
/-- A row of cells. -/
def RowC (h : Base) (es : List (List Value)) (l : List PCell) : Prop := es.length = l.length ∧ (∀ e ∈ es, e.length = 3) ∧ ∀ (j : Nat) c x, es[j]? = some c → l[j]? = some x → CellC h c x
theorem RowC.le {h h' : Base} (hle : h.le h') {es : List (List Value)} {l : List PCell} (hr : RowC h es l) : RowC h' es l := ⟨hr.1, hr.2.1, fun j c x a b => (hr.2.2 j c x a b).le hle⟩
theorem CellC.three {h : Base} {c : List Value} {x : PCell} (hc : CellC h c x) : c.length = 3 := by
  obtain ⟨_, _, _, _, e, _⟩ := hc
  rw [e]; rfl
theorem CellC.ones {h : Base} {c : List Value} {x : PCell} (hc : CellC h c x) : K.ones c = true := by
  obtain ⟨_, _, _, _, e, _⟩ := hc
  rw [e]; rfl
theorem RowC.snoc {h : Base} {es : List (List Value)} {l : List PCell} {c : List Value} {x : PCell} (hr : RowC h es l) (hc : CellC h c x) : RowC h (es ++ [c]) (l ++ [x]) := by
  obtain ⟨h1, h2, h3⟩ := hr
  refine ⟨by simp [h1], fun e he => ?_, fun j c' x' hj hx => ?_⟩
  · rcases List.mem_append.1 he with he | he
    · exact h2 e he
    · rw [List.mem_singleton.1 he]; exact hc.three
  · by_cases hjl : j < l.length
    · rw [List.getElem?_append_left (by omega)] at hj hx
      exact h3 j c' x' hj hx
    · have hj2 : j = l.length := by
        have := (List.getElem?_eq_some_iff.1 hx).1
        simp at this; omega
      subst hj2
      rw [List.getElem?_append_right (by omega), h1, Nat.sub_self] at hj
      rw [List.getElem?_append_right (by omega), Nat.sub_self] at hx
      cases hj; cases hx; exact hc
/-- A page whose row of cells is its owner's. -/
def NewP (h0 : Base) (p : Pag) (v : Value) (h' : Base) (H' : List Asrt) : Prop := ∃ a cap es, v = .agg (cP p (bufV a p.cells.length cap)).toArray ∧ RowC h' es p.cells ∧ H' = [bufA 52 3 a p.cells.length cap es.flatten]
/-- Cells that may be copied. -/
def smallX (l : List PCell) : Prop := l.length ≤ 4398046511104 ∧ ∀ x ∈ l, x.data.length ≤ 140737488351232
set_option maxHeartbeats 1000000 in
theorem CopyPageX (h : Base) (cs : List Value) (p : Pag) (hx : PagC h cs p) (hs : smallX p.cells) : Tr Try.prog 51 [.agg cs.toArray] h [] (NewP h p) := by
  obtain ⟨hw, cv, rfl, es, hv, hel, hr⟩ := hx
  have hlen := hw.len
  obtain ⟨ao, ca, rfl⟩ := hv.len
  rw [hel] at hv ⊢
  generalize hpl : p.cells = l at hv hel hr hlen hs ⊢
  have hl400 := hs.1
  refine K.enter Try.func51 rfl (Nat.le_of_ble_eq_true rfl) (fun F => ?_)
  (repeat' (first | refine X.rq ?_ | (refine X.rc ?_ ?_ <;> intro hc <;> first | (exfalso; omega) | skip)))
  refine K.l_box rfl rfl rfl (fun B1 => ?_)
  refine K.l_alloc (Fx.zr rfl) rfl rfl (fun B2 => ?_)
  (repeat' (first | refine X.rq ?_ | (refine X.rc ?_ ?_ <;> intro hc <;> first | (exfalso; omega) | skip)))
  refine K.WC.nilBuf 52 3 ?_
  refine K.c_loop (σ := Nat × Option Nat × Nat × List (List Value) × Base) (fun q => [(1, .pointer (some ⟨B1, 0, none⟩)), (2, .pointer (some ⟨B2, 0, none⟩)), (3, bufV q.2.1 q.1 q.2.2.1), (4, .int .i64 q.1)]) (fun q => q.2.2.2.2)
    (fun q => bufA 52 3 q.2.1 q.1 q.2.2.1 q.2.2.2.1.flatten :: blk B2 55 (cP ⟨0, 0, 0, []⟩ (.slice none 0 0)) :: blk B1 55 (cP p (.slice ao l.length ca)) :: F)
    (fun q => q.1 ≤ l.length ∧ h.le q.2.2.2.2 ∧ RowC q.2.2.2.2 q.2.2.2.1 (l.take q.1)) (fun q => l.length - q.1) (0, none, 0, [], h) ⟨Nat.zero_le _, K.Base.le.refl _, rfl, (fun e he => by cases he), fun j c x hj => by simp at hj⟩ (by repeat (first | exact K.Sub.nil _ | refine K.Sub.cons rfl ?_)) rfl rfl ?_
  rintro ⟨j, a, cap, fs, h1⟩ ⟨hj, hle, hrow⟩ KL hKL
  dsimp only at hj hle hrow ⊢
  have hv1 := hv.le hle
  have hfl : fs.length = j := by rw [hrow.1, List.length_take]; omega
  by_cases hjl : j < l.length
  · have hc1 : es[j]? = some (es[j]'(by omega)) := List.getElem?_eq_getElem (by omega)
    have hc0 : es[((j : Nat) : Int).toNat]? = some (es[j]'(by omega)) := by rw [Int.toNat_natCast]; exact hc1
    have he1 : l[j]? = some l[j] := List.getElem?_eq_getElem hjl
    generalize es[j]'(by omega) = c at hc0 hc1
    have hmem : l[j] ∈ l := List.getElem_mem hjl
    generalize l[j] = x at he1 hmem
    have hd4 := hs.2 x hmem
    obtain ⟨hkl, hdl, ao3, ca3, rfl, hbv⟩ := (hr j c x hc1 he1).le hle
    (repeat' (first | refine X.rq ?_ | (refine X.rc ?_ ?_ <;> intro hc <;> first | (exfalso; omega) | skip)))
    refine K.s_pureE (K.p_indexL hv1 (Fx.und rfl) (Fx.sz rfl) rfl rfl (by omega) hc0) rfl ?_
    rintro v2 ⟨b, o, rfl, hcel⟩
    refine K.s_pure (K.p_loadM (Fx.agg rfl) rfl (Cels.up hcel) (Fx.sz rfl) rfl) rfl ?_
    refine K.l_alloc (Fx.zr rfl) rfl rfl (fun B5 => ?_)
    refine X.stw ?_
    simp only [List.set_cons_zero, List.set_cons_succ, List.eraseIdx_cons_zero, List.eraseIdx_cons_succ, List.cons_append, List.nil_append]
    (repeat' (first | refine X.rq ?_ | (refine X.rc ?_ ?_ <;> intro hc <;> first | (exfalso; omega) | skip)))
    refine K.l_call (Fx.cal rfl) rfl (Copy h1 _ x.data hbv (by omega)) (K.pp [] rfl) rfl ?_
    rintro u h' H' - ⟨e, a2, cap2, rfl, rfl⟩
    obtain rfl := e.symm
    simp only [List.set_cons_zero, List.set_cons_succ, List.eraseIdx_cons_zero, List.eraseIdx_cons_succ, List.cons_append, List.nil_append]
    refine K.WL.freezeBuf (fun h2 le2 hbv2 => ?_)
    obtain ⟨ao4, ca4, e4⟩ : ∃ ao4 ca4, bufV a2 x.data.length cap2 = .slice ao4 x.data.length ca4 := ⟨_, _, rfl⟩
    rw [e4] at hbv2 ⊢
    (repeat' (first | refine X.rq ?_ | (refine X.rc ?_ ?_ <;> intro hc <;> first | (exfalso; omega) | skip)))
    refine X.sto ?_
    simp only [List.set_cons_zero, List.set_cons_succ, List.eraseIdx_cons_zero, List.eraseIdx_cons_succ, List.cons_append, List.nil_append]
    (repeat' (first | refine X.rq ?_ | (refine X.rc ?_ ?_ <;> intro hc <;> first | (exfalso; omega) | skip)))
    refine K.l_buildSlice (Fx.und rfl) (Fx.sz rfl) rfl (Fx.zr rfl) rfl rfl rfl (cs := [.bool x.used, .int .u32 x.killer, .slice ao4 x.data.length ca4]) rfl rfl (fun B6 => ?_)
    refine K.l_append_at 2 rfl (Fx.und rfl) (Fx.und rfl) rfl (Fx.sz rfl) (Fx.zr rfl) rfl (Fx.byt rfl) rfl rfl (K.src_cells (K.cels_own (pre := []) (cs := [.bool x.used, .int .u32 x.killer, .slice ao4 x.data.length ca4]) (post := []) 0 rfl rfl) rfl (by simp [oneCell])) (by omega) (by omega) rfl (fun a6 cap6 => ?_)
    simp only [List.set_cons_zero, List.set_cons_succ, List.eraseIdx_cons_zero, List.eraseIdx_cons_succ, List.cons_append, List.nil_append]
    (repeat' (first | refine X.rq ?_ | (refine X.rc ?_ ?_ <;> intro hc <;> first | (exfalso; omega) | skip)))
    refine K.AT.sel [0, 0] rfl ?_
    refine K.a_round hKL (j + 1, a6, cap6, fs ++ [[.bool x.used, .int .u32 x.killer, .slice ao4 x.data.length ca4]], h2) ⟨by dsimp only; omega, hle.trans le2, ?_⟩ (by repeat (first | exact K.Sub.nil _ | refine K.Sub.cons rfl ?_)) rfl ?_ (by dsimp only; omega)
    · dsimp only
      rw [List.take_add_one, he1]
      exact (hrow.le le2).snoc ⟨hkl, hdl, ao4, ca4, rfl, hbv2⟩
    · simp
  · obtain rfl : j = l.length := by omega
    rw [List.take_length] at hrow
    (repeat' (first | refine X.rq ?_ | (refine X.rc ?_ ?_ <;> intro hc <;> first | (exfalso; omega) | skip)))
    refine X.sto ?_
    (repeat' (first | refine X.rq ?_ | (refine X.rc ?_ ?_ <;> intro hc <;> first | (exfalso; omega) | skip)))
    refine X.stw ?_
    simp only [List.set_cons_zero, List.set_cons_succ, List.eraseIdx_cons_zero, List.eraseIdx_cons_succ, List.cons_append, List.nil_append]
    (repeat' (first | refine X.rq ?_ | (refine X.rc ?_ ?_ <;> intro hc <;> first | (exfalso; omega) | skip)))
    refine K.AT.perm (K.pp [1, 1, 0] rfl) ?_
    simp only [List.set_cons_zero, List.set_cons_succ, List.eraseIdx_cons_zero, List.eraseIdx_cons_succ, List.cons_append, List.nil_append]
    refine K.doneC (vs := [.agg (cP p (bufV a l.length cap)).toArray]) (by first | exact Or.inl rfl | exact Or.inr rfl) (.cell rfl (Fx.agg rfl) (Fx.sz rfl) (by first | exact K.cels_own (pre := []) (post := []) 0 rfl rfl | exact K.cels_own (pre := []) (post := []) 1 rfl rfl) .nil) hle (D := [_, _]) (H' := [bufA 52 3 a l.length cap fs.flatten]) rfl ⟨a, cap, fs, ?_, ?_, ?_⟩
    · rw [hpl]; rfl
    · rw [hpl]; exact hrow
    · rw [hpl]
theorem CopyPage (h : Base) (cs : List Value) (p : Pag) (hx : PagC h cs p) (hs : small p.cells) : Tr Try.prog 51 [.agg cs.toArray] h [] (NewP h p) :=
  CopyPageX h cs p hx ⟨by have := hs.1; omega, fun x hx => by have := hs.2 x hx; omega⟩
end Go.Proofs.Ytahdbncfegedjaa.Pg
