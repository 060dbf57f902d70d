/-
  Whether what a record's kind does not use is zero; what may be recorded; numbers that rise: the code. Conditions: each theorem's own.
-/
import Derived.Test.YtkdngpiiecmpgaaGreatHb

namespace Go.Proofs.YtkdngpiiecmpgaaGreat.Rc
open Go Go.K Go.Proofs Go.Proofs.YtkdngpiiecmpgaaGreat Go.Proofs.YtkdngpiiecmpgaaGreat.Pg
set_option linter.unusedVariables false
set_option linter.unusedSimpArgs false
set_option maxRecDepth 10000

theorem RecC.cells {h : Base} {cs : List Value} {r : Recd} (hx : RecC h cs r) : wfR r ∧ ∃ ad ai al ay cd ci cl cy, cs = cR r (.slice ad r.op.data.length cd) (.slice ai r.images.length ci) (.slice al r.lives.length cl) (.slice ay r.dirty.length cy) ∧ BV h (.slice ad r.op.data.length cd) r.op.data ∧ ImgsV h (.slice ai r.images.length ci) r.images ∧ SL h 4 (.slice al r.lives.length cl) (r.lives.map cL) ∧ SL h 2 (.slice ay r.dirty.length cy) (r.dirty.map cD) := by
  obtain ⟨hw, ad, cd, iv, lv, yv, rfl, hb, ⟨es, h1, h2, h3⟩, h4, h5⟩ := hx
  obtain ⟨ai, ci, rfl⟩ := h1.len
  obtain ⟨al, cl, rfl⟩ := h4.len
  obtain ⟨ay, cy, rfl⟩ := h5.len
  rw [List.length_map] at h4 ⊢
  rw [List.length_map] at h5 ⊢
  rw [h2] at h1 ⊢
  exact ⟨hw, ad, ai, al, ay, cd, ci, cl, cy, rfl, hb, ⟨es, h1, h2, h3⟩, h4, h5⟩
theorem bare_iff (r : Recd) : bareP r ↔ r.txn = (usedQ r).txn ∧ r.prev = (usedQ r).prev ∧ r.undo = (usedQ r).undo ∧ r.page = (usedQ r).page ∧ r.root = (usedQ r).root ∧ r.next = (usedQ r).next ∧ r.op.kind = (usedQ r).op.kind ∧ r.op.slot = (usedQ r).op.slot ∧ r.op.txn = (usedQ r).op.txn ∧
    r.op.data.length = (if r.kind = 2 ∨ r.kind = 3 then r.op.data.length else 0) ∧ r.images.length = (if r.kind = 4 then r.images.length else 0) ∧ r.lives.length = (if r.kind = 8 then r.lives.length else 0) ∧ r.dirty.length = (if r.kind = 8 then r.dirty.length else 0) := by
  rw [bareP_iff]
  unfold usedQ
  dsimp only
  constructor
  · rintro ⟨h1, h2, h3, h4, h5, h6⟩
    refine ⟨?_, ?_, ?_, ?_, ?_, ?_, ?_, ?_, ?_, ?_, ?_, ?_, ?_⟩
    · split
      · rfl
      · exact h1 (by assumption)
    · split
      · rfl
      · exact h2 (by assumption)
    · split
      · rfl
      · exact h3 (by assumption)
    · split
      · rfl
      · exact (h4 (by assumption)).1
    · split
      · rfl
      · exact (h4 (by assumption)).2.1
    · split
      · rfl
      · exact (h5 (by assumption)).1
    · split
      · rfl
      · exact (h4 (by assumption)).2.2.1
    · split
      · rfl
      · exact (h4 (by assumption)).2.2.2.1
    · split
      · rfl
      · exact (h4 (by assumption)).2.2.2.2.1
    · split
      · rfl
      · exact (h4 (by assumption)).2.2.2.2.2
    · split
      · rfl
      · exact h6 (by assumption)
    · split
      · rfl
      · exact (h5 (by assumption)).2.1
    · split
      · rfl
      · exact (h5 (by assumption)).2.2
  · rintro ⟨h1, h2, h3, h4, h5, h6, h7, h8, h9, h10, h11, h12, h13⟩
    refine ⟨fun h => ?_, fun h => ?_, fun h => ?_, fun h => ?_, fun h => ?_, fun h => ?_⟩
    · rwa [if_neg h] at h1
    · rwa [if_neg h] at h2
    · rwa [if_neg h] at h3
    · rw [if_neg h] at h4 h5 h7 h8 h9 h10
      exact ⟨h4, h5, h7, h8, h9, h10⟩
    · rw [if_neg h] at h6 h12 h13
      exact ⟨h6, h12, h13⟩
    · rwa [if_neg h] at h11
set_option maxHeartbeats 8000000 in
theorem PBare (h : Base) (cs : List Value) (r : Recd) (hx : RecC h cs r) : TrV Tryz.prog 79 [.agg cs.toArray] h [] (.bool (decide (bareP r))) [] := by
  obtain ⟨hw, ad, ai, al, ay, cd, ci, cl, cy, rfl, hb, _, _, _⟩ := hx.cells
  have hu := PUsed h r ad ai al ay r.op.data.length cd r.images.length ci r.lives.length cl r.dirty.length cy
  have hbi := bare_iff r
  unfold usedV sl at hu
  generalize (if r.kind = 2 ∨ r.kind = 3 then r.op.data.length else 0) = nd at hbi hu
  generalize (if r.kind = 4 then r.images.length else 0) = ni at hbi hu
  generalize (if r.kind = 8 then r.lives.length else 0) = nl at hbi hu
  generalize (if r.kind = 8 then r.dirty.length else 0) = ny at hbi hu
  generalize (if r.kind = 2 ∨ r.kind = 3 then ad else none) = ad2 at hu
  generalize (if r.kind = 4 then ai else none) = ai2 at hu
  generalize (if r.kind = 8 then al else none) = al2 at hu
  generalize (if r.kind = 8 then ay else none) = ay2 at hu
  generalize (if r.kind = 2 ∨ r.kind = 3 then cd else 0) = cd2 at hu
  generalize (if r.kind = 4 then ci else 0) = ci2 at hu
  generalize (if r.kind = 8 then cl else 0) = cl2 at hu
  generalize (if r.kind = 8 then cy else 0) = cy2 at hu
  generalize usedQ r = x at hbi hu
  have hbd : decide (bareP r) = decide (r.txn = x.txn ∧ r.prev = x.prev ∧ r.undo = x.undo ∧ r.page = x.page ∧ r.root = x.root ∧ r.next = x.next ∧ r.op.kind = x.op.kind ∧ r.op.slot = x.op.slot ∧ r.op.txn = x.op.txn ∧ r.op.data.length = nd ∧ r.images.length = ni ∧ r.lives.length = nl ∧ r.dirty.length = ny) := decide_eq_decide.2 hbi
  rw [hbd]
  clear hbi hbd
  refine K.enter Tryz.func79 rfl (Nat.le_of_ble_eq_true rfl) (fun F => ?_)
  simp only [List.nil_append]
  (repeat' (first | refine X.rq ?_ | (refine X.rc ?_ ?_ <;> intro hc <;> first | (exfalso; omega) | skip)))
  refine K.l_box rfl rfl rfl (fun B1 => ?_)
  (repeat' (first | refine X.rq ?_ | (refine X.rc ?_ ?_ <;> intro hc <;> first | (exfalso; omega) | skip)))
  refine K.l_callV (Fx.cal rfl) rfl hu (K.pp [] rfl) rfl rfl ?_
  simp only [List.nil_append]
  refine K.l_alloc (Fx.zr rfl) rfl rfl (fun B3 => ?_)
  refine X.stw ?_
  simp only [List.set_cons_zero, List.set_cons_succ, List.eraseIdx_cons_zero, List.eraseIdx_cons_succ, List.cons_append, List.nil_append]
  (repeat' (first | refine X.rq ?_ | (refine X.rc ?_ ?_ <;> intro hc <;> first | (exfalso; omega) | skip)))
  all_goals
    refine K.AT.sel [0, 0] rfl ?_
    refine K.done (by first | exact Or.inl rfl | exact Or.inr rfl) rfl (by first | exact K.Base.le.refl _ | assumption) (H' := []) rfl ⟨?_, rfl, rfl⟩
    refine congrArg Value.bool (Bool.eq_iff_iff.2 ?_)
    simp only [decide_eq_true_eq, Bool.false_eq_true, false_iff]
    omega
end Go.Proofs.YtkdngpiiecmpgaaGreat.Rc
