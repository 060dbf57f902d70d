/-
  The law of records that are read, walked. Conditions: each theorem's own.
-/
import Derived.Test.YtihambjhlhgaeaaIe

namespace Go.Proofs.Ytihambjhlhgaeaa.Rc
open Go Go.K Go.Proofs Go.Proofs.Ytihambjhlhgaeaa Go.Proofs.Ytihambjhlhgaeaa.Pg Go.Proofs.Ytihambjhlhgaeaa.Cc Go.Proofs.Ytihambjhlhgaeaa.Rb
set_option linter.unusedVariables false
set_option linter.unusedSimpArgs false
set_option maxRecDepth 10000

set_option maxHeartbeats 4000000 in
theorem RecordReadsW (h : Base) (v : Value) (bl : List UInt8) (hb : BV h v bl) (hbl : bl.length ≤ 140737488351232) : Tr Try.prog 4 [v] h [] (fun u h' H' => u = .bool true ∧ H' = []) := by
  obtain ⟨ao, ca, rfl⟩ := hb.len
  refine K.enter Try.func4 rfl (Nat.le_of_ble_eq_true rfl) (fun F => ?_)
  simp only [List.nil_append]
  by_cases h17 : 131072 < bl.length
  · (repeat' (first | refine X.rq ?_ | (refine X.rc ?_ ?_ <;> intro hc <;> first | (exfalso; omega) | skip)))
    refine K.l_callV (Fx.cal rfl) rfl (Alive h) (K.pp [] rfl) rfl rfl ?_
    simp only [List.nil_append]
    (repeat' (first | refine X.rq ?_ | (refine X.rc ?_ ?_ <;> intro hc <;> first | (exfalso; omega) | skip)))
    refine K.done (by first | exact Or.inl rfl | exact Or.inr rfl) rfl (by first | exact K.Base.le.refl _ | assumption) (H' := []) rfl ⟨rfl, rfl⟩
  · (repeat' (first | refine X.rq ?_ | (refine X.rc ?_ ?_ <;> intro hc <;> first | (exfalso; omega) | skip)))
    refine K.l_call (Fx.cal rfl) rfl (Pg.Copy h _ _ hb (by omega)) (K.pp [] rfl) rfl ?_
    rintro u h' H' - ⟨e, a1, c1, rfl, rfl⟩
    obtain rfl := e.symm
    simp only [List.cons_append, List.nil_append]
    refine K.WL.freezeBuf (fun h1 le1 hw1 => ?_)
    have hb1 := hb.le le1
    obtain ⟨vw, evw⟩ : ∃ v, v = bufV a1 bl.length c1 := ⟨_, rfl⟩
    rw [← evw] at hw1 ⊢
    clear evw
    (repeat' (first | refine X.rq ?_ | (refine X.rc ?_ ?_ <;> intro hc <;> first | (exfalso; omega) | skip)))
    refine K.l_call (Fx.cal rfl) rfl (RecDecodeF h1 _ _ hb1 (by omega)) (K.pp [] rfl) rfl ?_
    rintro u h2 H' le2 ⟨rfl, cs2, r, n, e, rfl, hrF, hs2, hl2, hd2⟩
    have hrF0 := hrF
    have hrC := hrF.c
    obtain ⟨_, ad, ai, al, ay, cd, ci, cl, cy, rfl, _⟩ := hrC.cells
    simp only [List.nil_append]
    clear hrC hrF
    (repeat' (first | refine X.rq ?_ | (refine X.rc ?_ ?_ <;> intro hc <;> first | (exfalso; omega) | skip)))
    refine K.l_alloc (Fx.zr rfl) rfl rfl (fun B4 => ?_)
    refine X.stw ?_
    simp only [List.set_cons_zero, List.set_cons_succ, List.eraseIdx_cons_zero, List.eraseIdx_cons_succ, List.cons_append, List.nil_append]
    (repeat' (first | refine X.rq ?_ | (refine X.rc ?_ ?_ <;> intro hc <;> first | (exfalso; omega) | skip)))
    refine K.l_call (Fx.cal rfl) rfl (RefDecode h2 _ _ (hw1.le le2) (by omega)) (K.pp [] rfl) rfl ?_
    rintro u h3 H' le3 ⟨rfl, cs3, r3, n3, e3, rfl, hr3, hs3, hl3, hd3⟩
    obtain ⟨rfl, rfl, rfl⟩ := dec_one hd3 hd2
    have hsame := SameR h3 _ _ r3 r3 (hrF0.c.le le3) hr3
    rw [decide_eq_true rfl] at hsame
    have hrF3 := hrF0.le (K.Base.le.refl _) le3
    obtain ⟨_, bd, bi, bll, by_, dd, di, dl, dy, rfl, _⟩ := hr3.cells
    simp only [List.nil_append]
    clear hd2 hd3 hs2 hs3 hl3 hr3 hrF0
    (repeat' (first | refine X.rq ?_ | (refine X.rc ?_ ?_ <;> intro hc <;> first | (exfalso; omega) | skip)))
    refine K.l_alloc (Fx.zr rfl) rfl rfl (fun B7 => ?_)
    refine X.stw ?_
    simp only [List.set_cons_zero, List.set_cons_succ, List.eraseIdx_cons_zero, List.eraseIdx_cons_succ, List.cons_append, List.nil_append]
    (repeat' (first | refine X.rq ?_ | (refine X.rc ?_ ?_ <;> intro hc <;> first | (exfalso; omega) | skip)))
    refine K.l_callV (Fx.cal rfl) rfl hsame (K.pp [] rfl) rfl rfl ?_
    simp only [List.nil_append]
    (repeat' (first | refine X.rq ?_ | (refine X.rc ?_ ?_ <;> intro hc <;> first | (exfalso; omega) | skip)))
    refine K.WL.thaw (h := h1) (le2.trans le3) (fun L g hww hg hL => ?_)
    refine K.l_call (Fx.cal rfl) rfl (Spoil h1 h3 L g hww hg hL _ r3 hrF3) (K.pp [0] rfl) rfl ?_
    rintro u h' H' - ⟨e, rfl⟩
    obtain rfl := e.symm
    simp only [List.nil_append]
    (repeat' (first | refine X.rq ?_ | (refine X.rc ?_ ?_ <;> intro hc <;> first | (exfalso; omega) | skip)))
    refine K.s_pure (K.p_textB hb1 (Fx.und rfl) (Fx.und rfl) (Fx.und rfl) rfl) rfl ?_
    (repeat' (first | refine X.rq ?_ | (refine X.rc ?_ ?_ <;> intro hc <;> first | (exfalso; omega) | skip)))
    refine K.s_pure (K.p_textB hw1 (Fx.und rfl) (Fx.und rfl) (Fx.und rfl) rfl) rfl ?_
    refine K.s_pure X.beql rfl ?_
    rw [show decide ((⟨bl.toArray⟩ : ByteArray) = ⟨bl.toArray⟩) = true from decide_eq_true rfl]
    (repeat' (first | refine X.rq ?_ | (refine X.rc ?_ ?_ <;> intro hc <;> first | (exfalso; omega) | skip)))
    refine K.l_callV (Fx.cal rfl) rfl (Alive h1) (K.pp [] rfl) rfl rfl ?_
    simp only [List.nil_append]
    (repeat' (first | refine X.rq ?_ | (refine X.rc ?_ ?_ <;> intro hc <;> first | (exfalso; omega) | skip)))
    refine K.AT.sel [0, 0] rfl ?_
    refine K.done (by first | exact Or.inl rfl | exact Or.inr rfl) rfl le1 (H' := []) rfl ⟨rfl, rfl⟩
end Go.Proofs.Ytihambjhlhgaeaa.Rc
