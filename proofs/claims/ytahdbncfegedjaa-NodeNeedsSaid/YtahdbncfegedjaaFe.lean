/-
  Pages: which operations are right; what undoes them. Conditions: each theorem's own.
-/
import Derived.Test.YtahdbncfegedjaaFb

namespace Go.Proofs.Ytahdbncfegedjaa.Pg
open Go Go.K Go.Proofs Go.Proofs.Ytahdbncfegedjaa
set_option linter.unusedVariables false
set_option linter.unusedSimpArgs false
set_option maxRecDepth 10000

structure POp where
  kind : Int
  slot : Int
  txn : Nat
  data : List UInt8
  deriving DecidableEq
def cO (o : POp) (dv : Value) : List Value := [.int .i64 o.kind, .int .i64 o.slot, .int .u32 o.txn, dv]
structure wfO (o : POp) : Prop where
  kind : in64 o.kind
  slot : in64 o.slot
  txn : o.txn < 4294967296
  len : o.data.length ≤ 9223372036854775807
def OpC (h : Base) (cs : List Value) (o : POp) : Prop := wfO o ∧ ∃ ao ca, cs = cO o (.slice ao o.data.length ca) ∧ BV h (.slice ao o.data.length ca) o.data
theorem OpC.le {h h' : Base} (hle : h.le h') {cs : List Value} {o : POp} (hc : OpC h cs o) : OpC h' cs o := by
  obtain ⟨h1, ao, ca, e, h2⟩ := hc
  exact ⟨h1, ao, ca, e, h2.le hle⟩
def rightP (k : Int) (o : POp) : Prop := (k = 1 ∨ k = 2) ∧ (1 ≤ o.kind ∧ o.kind ≤ 4) ∧ (o.kind = 2 ↔ o.txn ≠ 0) ∧ (k = 2 → o.slot = 0) ∧ (k = 1 ∧ o.kind ≠ 1 → o.data.length = 0) ∧ (¬ (k = 1 ∧ o.kind ≠ 1) → 1 ≤ o.data.length ∧ o.data.length ≤ 180)
instance (k : Int) (o : POp) : Decidable (rightP k o) := by unfold rightP; infer_instance
/-! ### Copies of bytes -/
def NewB (h0 : Base) (l : List UInt8) (v : Value) (h' : Base) (H' : List Asrt) : Prop := h' = h0 ∧ ∃ a cap, v = bufV a l.length cap ∧ H' = [bufA 5 1 a l.length cap (l.map u8)]
theorem Copy (h : Base) (v : Value) (l : List UInt8) (hv : BV h v l) (hl : l.length ≤ 140737488355328) : Tr Try.prog 75 [v] h [] (NewB h l) := by
  refine K.enter Try.func75 rfl (Nat.le_of_ble_eq_true rfl) (fun F => ?_)
  simp only [List.nil_append]
  (repeat' (first | refine X.rq ?_ | (refine X.rc ?_ ?_ <;> intro hc <;> first | (exfalso; omega) | skip)))
  refine K.l_buildSlice (Fx.und rfl) (Fx.sz rfl) rfl (Fx.zr rfl) rfl rfl rfl rfl rfl (fun B => ?_)
  refine K.WL.bufOf (m := 0) (s := 1) rfl (by unfold maxLen; omega) ?_
  (repeat' (first | refine X.rq ?_ | (refine X.rc ?_ ?_ <;> intro hc <;> first | (exfalso; omega) | skip)))
  refine K.l_append_at 0 rfl (Fx.und rfl) (Fx.und rfl) rfl (Fx.sz rfl) (Fx.zr rfl) rfl (Fx.byt rfl) rfl rfl hv.src (by omega) (by omega) rfl (fun a1 cap1 => ?_)
  simp only [List.set_cons_zero, List.set_cons_succ, List.eraseIdx_cons_zero, List.eraseIdx_cons_succ, List.cons_append, List.nil_append]
  rw [Nat.zero_add]
  (repeat' (first | refine X.rq ?_ | (refine X.rc ?_ ?_ <;> intro hc <;> first | (exfalso; omega) | skip)))
  refine K.done (by first | exact Or.inl rfl | exact Or.inr rfl) rfl (by first | exact K.Base.le.refl _ | assumption) (H' := [bufA 5 1 a1 l.length cap1 (l.map u8)]) rfl ⟨rfl, a1, cap1, rfl, rfl⟩
theorem Clone (h : Base) (v : Value) (l : List UInt8) (hv : BV h v l) (hl : l.length ≤ 140737488355328) : Tr Try.prog 74 [v] h [] (NewB h l) := by
  obtain ⟨ao, ca, rfl⟩ := hv.len
  refine K.enter Try.func74 rfl (Nat.le_of_ble_eq_true rfl) (fun F => ?_)
  simp only [List.nil_append]
  cases ao with
  | none =>
    have hl0 : l = [] := by
      rcases hv with ⟨_, _, e, e2⟩ | ⟨_, _, _, e, _⟩
      · exact e2
      · cases e
    subst hl0
    (repeat' (first | refine X.rq ?_ | (refine X.rc ?_ ?_ <;> intro hc <;> first | (exfalso; omega) | skip)))
    refine K.AT.nilBuf 5 1 ?_
    refine K.done (by first | exact Or.inl rfl | exact Or.inr rfl) rfl (by first | exact K.Base.le.refl _ | assumption) (H' := [bufA 5 1 none 0 0 []]) rfl ⟨rfl, none, 0, rfl, rfl⟩
  | some ad =>
    (repeat' (first | refine X.rq ?_ | (refine X.rc ?_ ?_ <;> intro hc <;> first | (exfalso; omega) | skip)))
    refine K.l_buildSlice (Fx.und rfl) (Fx.sz rfl) rfl (Fx.zr rfl) rfl rfl rfl rfl rfl (fun B => ?_)
    refine K.WL.bufOf (m := 0) (s := 1) rfl (by unfold maxLen; omega) ?_
    (repeat' (first | refine X.rq ?_ | (refine X.rc ?_ ?_ <;> intro hc <;> first | (exfalso; omega) | skip)))
    refine K.l_append_at 0 rfl (Fx.und rfl) (Fx.und rfl) rfl (Fx.sz rfl) (Fx.zr rfl) rfl (Fx.byt rfl) rfl rfl hv.src (by omega) (by omega) rfl (fun a1 cap1 => ?_)
    simp only [List.set_cons_zero, List.set_cons_succ, List.eraseIdx_cons_zero, List.eraseIdx_cons_succ, List.cons_append, List.nil_append]
    rw [Nat.zero_add]
    (repeat' (first | refine X.rq ?_ | (refine X.rc ?_ ?_ <;> intro hc <;> first | (exfalso; omega) | skip)))
    refine K.done (by first | exact Or.inl rfl | exact Or.inr rfl) rfl (by first | exact K.Base.le.refl _ | assumption) (H' := [bufA 5 1 a1 l.length cap1 (l.map u8)]) rfl ⟨rfl, a1, cap1, rfl, rfl⟩
def undoQ (k : Int) (o : POp) : POp × Int := if rightP k o ∧ o.kind ≤ 2 then (⟨if o.kind = 2 then 3 else 4, if k = 1 then o.slot else 0, 0, if k = 2 then o.data else []⟩, 0) else (⟨0, 0, 0, []⟩, 1)
/-- What is answered: an operation whose bytes are its owner's, and an error. -/
def NewO (h0 : Base) (r : POp × Int) (v : Value) (h' : Base) (H' : List Asrt) : Prop := h' = h0 ∧ ∃ a cap, v = .tuple #[.agg (cO r.1 (bufV a r.1.data.length cap)).toArray, .int .i64 r.2] ∧ H' = [bufA 5 1 a r.1.data.length cap (r.1.data.map u8)]
end Go.Proofs.Ytahdbncfegedjaa.Pg
