/-
  Records in the law: some answers that the document fixes. Conditions: each theorem's own.
-/
import Derived.Test.YtihambjhlhgaeaaHu

namespace Go.Proofs.Ytihambjhlhgaeaa.Rc
open Go Go.K Go.Proofs Go.Proofs.Ytihambjhlhgaeaa Go.Proofs.Ytihambjhlhgaeaa.Pg Go.Proofs.Ytihambjhlhgaeaa.Cc Go.Proofs.Ytihambjhlhgaeaa.Rb
set_option linter.unusedVariables false
set_option linter.unusedSimpArgs false
set_option maxRecDepth 10000

def rA1 : Recd := ⟨1, 0, 300, 0, 0, 0, 0, zO, [], [], [], 0⟩
def rA2 : Recd := ⟨7, 0, 1, 0, 0, 4, 0, zO, [], [], [], 0⟩
theorem wfR_plain (r : Recd) (h1 : in64 r.kind) (h2 : r.lsn = 0) (h3 : r.txn < 1000) (h4 : r.prev = 0) (h5 : r.undo = 0) (h6 : r.page < 1000) (h7 : r.root = 0) (h8 : r.op = zO) (h9 : r.images = []) (h10 : r.lives = []) (h11 : r.dirty = []) (h12 : r.next = 0) : wfR r := by
  refine ⟨h1, by omega, by omega, by omega, by omega, by omega, by omega, by rw [h8]; exact wf_zO, by omega, ?_, ?_, ?_, ?_, ?_⟩
  · rw [h9]; exact Nat.zero_le _
  · rw [h10]; exact Nat.zero_le _
  · rw [h11]; exact Nat.zero_le _
  · rw [h10]; intro x hx; cases hx
  · rw [h11]; intro x hx; cases hx
theorem recC_A1 (h : Base) : RecC h (cR rA1 (.slice none 0 0) (.slice none 0 0) (.slice none 0 0) (.slice none 0 0)) rA1 := recC_of (r := rA1) (wfR_plain _ (by decide) rfl (by decide) rfl rfl (by decide) rfl rfl rfl rfl rfl rfl) BV.nil ImgsV.nil SL.nil SL.nil
theorem recC_A2 (h : Base) : RecC h (cR rA2 (.slice none 0 0) (.slice none 0 0) (.slice none 0 0) (.slice none 0 0)) rA2 := recC_of (r := rA2) (wfR_plain _ (by decide) rfl (by decide) rfl rfl (by decide) rfl rfl rfl rfl rfl rfl) BV.nil ImgsV.nil SL.nil SL.nil
theorem may_A1 : mayR rA1 = true := by decide
theorem enc_A1 : encR rA1 = ([5, 0, 1, 172, 2], 0) := by decide
theorem enc_A2 : encR rA2 = ([], 5) := by decide
theorem size_A1 : sizeR rA1 = 5 := by decide
theorem dec_A1 : Dec [5, 0, 1, 172, 2] rA1 5 0 := .inr (.inr (.inr (.inr ⟨by decide, by decide, by decide, ⟨may_A1, rfl, (recC_A1 ⟨default, fun _ _ => 0, #[], fun _ => none⟩).wfX⟩, by decide, by decide, rfl⟩)))
theorem dec_A3 : Dec [2, 0] zR 0 5 := .inr (.inl ⟨by decide, by decide, rfl, rfl, rfl⟩)
set_option maxHeartbeats 4000000 in
theorem Alive (h : Base) : TrV Try.prog 9 [] h [] (.bool true) [] := by
  have s1 : smallR rA1 := ⟨Nat.zero_le _, Nat.zero_le _, Nat.zero_le _, Nat.zero_le _⟩
  have s2 : smallR rA2 := ⟨Nat.zero_le _, Nat.zero_le _, Nat.zero_le _, Nat.zero_le _⟩
  refine K.enter Try.func9 rfl (Nat.le_of_ble_eq_true rfl) (fun F => ?_)
  simp only [List.nil_append]
  (repeat' (first | refine X.rq ?_ | (refine X.rc ?_ ?_ <;> intro hc <;> first | (exfalso; omega) | skip)))
  have he1 := RecEncode h _ rA1 (recC_A1 h) s1
  rw [enc_A1] at he1
  refine K.l_call (Fx.cal rfl) rfl he1 (K.pp [] rfl) rfl ?_
  rintro u h' H' - ⟨e, a1, c1, rfl, rfl⟩
  obtain rfl := e.symm
  simp only [List.cons_append, List.nil_append]
  refine K.WL.freezeBuf (l := [5, 0, 1, 172, 2]) (fun h1 le1 hb1 => ?_)
  obtain ⟨v1, ev1⟩ : ∃ v, v = bufV a1 ([5, 0, 1, 172, 2] : List UInt8).length c1 := ⟨_, rfl⟩
  rw [← ev1] at hb1 ⊢
  (repeat' (first | refine X.rq ?_ | (refine X.rc ?_ ?_ <;> intro hc <;> first | (exfalso; omega) | skip)))
  refine K.l_call (Fx.cal rfl) rfl (RecDecode h1 _ _ hb1 (by decide)) (K.pp [] rfl) rfl ?_
  rintro u h2 H' le2 ⟨rfl, cs2, r2, n2, e2, rfl, hrc2, hs2, hl2, hd2⟩
  obtain ⟨rfl, rfl, rfl⟩ := dec_one hd2 dec_A1
  obtain ⟨_, ad, ai, al, ay, cd, ci, cl, cy, ecs, _⟩ := hrc2.cells
  subst ecs
  simp only [List.nil_append]
  (repeat' (first | refine X.rq ?_ | (refine X.rc ?_ ?_ <;> intro hc <;> first | (exfalso; omega) | skip)))
  refine K.l_alloc (Fx.zr rfl) rfl rfl (fun B2 => ?_)
  refine X.stw ?_
  simp only [List.set_cons_zero, List.set_cons_succ, List.eraseIdx_cons_zero, List.eraseIdx_cons_succ, List.cons_append, List.nil_append]
  (repeat' (first | refine X.rq ?_ | (refine X.rc ?_ ?_ <;> intro hc <;> first | (exfalso; omega) | skip)))
  have he3 := RecEncode h2 _ rA2 (recC_A2 h2) s2
  rw [enc_A2] at he3
  refine K.l_call (Fx.cal rfl) rfl he3 (K.pp [] rfl) rfl ?_
  rintro u h' H' - ⟨e, a3, c3, rfl, rfl⟩
  obtain rfl := e.symm
  simp only [List.cons_append, List.nil_append]
  refine K.WL.perm (K.pp [1] rfl) ?_
  simp only [List.set_cons_zero, List.set_cons_succ, List.eraseIdx_cons_zero, List.eraseIdx_cons_succ, List.cons_append, List.nil_append]
  (repeat' (first | refine X.rq ?_ | (refine X.rc ?_ ?_ <;> intro hc <;> first | (exfalso; omega) | skip)))
  refine X.bs (fun B5 => ?_)
  refine K.WL.bufOf (s := 1) (m := 2) rfl (by decide) ?_
  refine K.WL.freezeBuf (l := [2, 0]) (fun h3 le3 hb3 => ?_)
  obtain ⟨v3, ev3⟩ : ∃ v, v = bufV (some B5) ([2, 0] : List UInt8).length 2 := ⟨_, rfl⟩
  rw [show Value.slice (some ⟨B5, 0, none⟩) 2 2 = v3 from ev3.symm]
  rw [← ev3] at hb3
  (repeat' (first | refine X.rq ?_ | (refine X.rc ?_ ?_ <;> intro hc <;> first | (exfalso; omega) | skip)))
  refine K.l_call (Fx.cal rfl) rfl (RecDecode h3 _ _ hb3 (by decide)) (K.pp [] rfl) rfl ?_
  rintro u h4 H' le4 ⟨rfl, cs4, r4, n4, e4, rfl, hrc4, hs4, hl4, hd4⟩
  obtain ⟨rfl, rfl, rfl⟩ := dec_one hd4 dec_A3
  obtain ⟨_, ad4, ai4, al4, ay4, cd4, ci4, cl4, cy4, ecs4, _⟩ := hrc4.cells
  subst ecs4
  simp only [List.nil_append]
  have hb4 := hb1.le (le2.trans (le3.trans le4))
  have hz := RecSize h4 _ rA1 (hrc2.le (le3.trans le4)) s1
  rw [size_A1] at hz
  (repeat' (first | refine X.rq ?_ | (refine X.rc ?_ ?_ <;> intro hc <;> first | (exfalso; omega) | skip)))
  refine K.l_alloc (Fx.zr rfl) rfl rfl (fun B4 => ?_)
  refine X.stw ?_
  simp only [List.set_cons_zero, List.set_cons_succ, List.eraseIdx_cons_zero, List.eraseIdx_cons_succ, List.cons_append, List.nil_append]
  (repeat' (first | refine X.rq ?_ | (refine X.rc ?_ ?_ <;> intro hc <;> first | (exfalso; omega) | skip)))
  refine K.s_pure (K.p_textB hb4 (Fx.und rfl) (Fx.und rfl) (Fx.und rfl) rfl) rfl ?_
  (repeat' (first | refine X.rq ?_ | (refine X.rc ?_ ?_ <;> intro hc <;> first | (exfalso; omega) | skip)))
  skip
  refine K.l_callV (Fx.cal rfl) rfl hz (K.pp [] rfl) rfl rfl ?_
  simp only [List.nil_append]
  (repeat' (first | refine X.rq ?_ | (refine X.rc ?_ ?_ <;> intro hc <;> first | (exfalso; omega) | skip)))
  refine K.AT.forget (le1.trans (le2.trans (le3.trans le4))) ?_
  refine K.AT.sel [0, 0, 0] rfl ?_
  refine K.done (by first | exact Or.inl rfl | exact Or.inr rfl) rfl (by first | exact K.Base.le.refl _ | assumption) (H' := []) rfl ⟨rfl, rfl, rfl⟩
end Go.Proofs.Ytihambjhlhgaeaa.Rc
