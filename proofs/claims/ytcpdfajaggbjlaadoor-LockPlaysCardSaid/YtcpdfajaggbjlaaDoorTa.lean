/-
  Things and locks: what they are in memory, which may be, meet, lie in one another, conflict. Conditions: each theorem's own.
-/
import Derived.Test.YtcpdfajaggbjlaaDoorKA
import Derived.Test.YtcpdfajaggbjlaaDoorKNa

namespace Go.Proofs.YtcpdfajaggbjlaaDoor.Lk
open Go Go.K Go.Proofs Go.Proofs.YtcpdfajaggbjlaaDoor
set_option linter.unusedVariables false
set_option linter.unusedSimpArgs false
set_option maxRecDepth 10000

structure PThing where
  rng : Bool
  id : Nat
  frm : ByteArray
  to : ByteArray
  deriving DecidableEq
structure PLock where
  txn : Nat
  thing : PThing
  mode : Int
  held : Bool
  deriving DecidableEq
abbrev noT : ByteArray := ⟨#[]⟩
def cT (x : PThing) : List Value := [.bool x.rng, .int .u32 x.id, .string x.frm, .string x.to]
def cK (x : PLock) : List Value := [.int .u32 x.txn, .bool x.thing.rng, .int .u32 x.thing.id, .string x.thing.frm, .string x.thing.to, .int .i64 x.mode, .bool x.held]
structure wfT (x : PThing) : Prop where
  id : x.id < 4294967296
  frm : x.frm.size ≤ 9223372036854775807
  to : x.to.size ≤ 9223372036854775807
def ltS (a b : ByteArray) : Bool := Op.bytesLess a.toList b.toList
def leS (a b : ByteArray) : Bool := Op.bytesLess a.toList b.toList || decide (a = b)
def belowQ (key to : ByteArray) : Bool := decide (to = noT) || ltS key to
def meetQ (a b : PThing) : Bool := if a.rng = b.rng ∧ a.id = b.id then (!a.rng || (belowQ a.frm b.to && belowQ b.frm a.to)) else false
def withinQ (a b : PThing) : Bool := if a.rng = b.rng ∧ a.id = b.id then (!a.rng || (leS b.frm a.frm && (decide (b.to = noT) || (!decide (a.to = noT) && leS a.to b.to)))) else false
def confQ (a b : Int) : Bool := decide (a = 4 ∨ b = 4 ∨ (a = 2 ∧ b = 3) ∨ (a = 3 ∧ b = 2))
def coverQ (a b : Int) : Bool := decide (a = 4 ∨ a = b ∨ b = 1)
def mayQ (x : PThing) (mode : Int) : Bool := if x.rng then decide (3 ≤ mode ∧ mode ≤ 4 ∧ x.frm.size ≤ 148 ∧ x.to.size ≤ 148) && (decide (x.to = noT) || ltS x.frm x.to) else decide (x.frm = noT ∧ x.to = noT ∧ 1 ≤ mode ∧ mode ≤ 4)
theorem less_tot : ∀ a b : List UInt8, (!Op.bytesLess b a) = (Op.bytesLess a b || decide (a = b))
  | [], [] => rfl
  | [], y :: b => rfl
  | x :: a, [] => by simp [Op.bytesLess]
  | x :: a, y :: b => by
    have ih := less_tot a b
    rw [Op.bytesLess, Op.bytesLess]
    rcases Nat.lt_trichotomy x.toNat y.toNat with h | h | h
    · have h1 : x < y := h
      have h2 : ¬ y < x := fun e => Nat.lt_asymm h e
      have h3 : ¬ y = x := fun e => by rw [e] at h; exact Nat.lt_irrefl _ h
      have h4 : ¬ x = y := fun e => h3 e.symm
      simp [h1, h2, h3, h4]
    · obtain rfl : x = y := UInt8.toNat_inj.1 h
      have h1 : ¬ x < x := fun e => Nat.lt_irrefl _ e
      simp only [h1, decide_false, beq_self_eq_true, Bool.true_and, Bool.false_or, List.cons.injEq, true_and]
      exact ih
    · have h1 : y < x := h
      have h2 : ¬ x < y := fun e => Nat.lt_asymm h e
      have h3 : ¬ x = y := fun e => by rw [e] at h; exact Nat.lt_irrefl _ h
      have h4 : ¬ y = x := fun e => h3 e.symm
      simp [h1, h2, h3, h4]
theorem leS_lt (a b : ByteArray) : leS a b = !ltS b a := by
  rw [leS, ltS, less_tot, decide_eq_decide.2 toList_inj.symm]
theorem Below (h : Base) (a b : ByteArray) : TrV Tryd.prog 60 [.string a, .string b] h [] (.bool (belowQ a b)) [] := by
  refine K.enter Tryd.func60 rfl (Nat.le_of_ble_eq_true rfl) (fun F => ?_)
  simp only [List.nil_append]
  (repeat' (first | refine X.rq ?_ | (refine X.rc ?_ ?_ <;> intro hc <;> first | (exfalso; omega) | skip)))
  all_goals
    refine K.done (by first | exact Or.inl rfl | exact Or.inr rfl) rfl (by first | exact K.Base.le.refl _ | assumption) (H' := []) rfl ⟨?_, rfl, rfl⟩
    show Value.bool _ = Value.bool _
    congr 1
    simp_all [belowQ, ltS]
theorem Meet (h : Base) (a b : PThing) : TrV Tryd.prog 47 [.agg (cT a).toArray, .agg (cT b).toArray] h [] (.bool (meetQ a b)) [] := by
  have b1 := Below h a.frm b.to
  have b2 := Below h b.frm a.to
  refine K.enter Tryd.func47 rfl (Nat.le_of_ble_eq_true rfl) (fun F => ?_)
  simp only [List.nil_append]
  (repeat' (first | refine X.rq ?_ | (refine X.rc ?_ ?_ <;> intro hc <;> first | (exfalso; omega) | skip)))
  refine K.l_box rfl rfl rfl (fun B2 => ?_)
  refine K.l_box rfl rfl rfl (fun B3 => ?_)
  by_cases hr : a.rng = b.rng ∧ a.id = b.id
  · have hq : meetQ a b = (!a.rng || (belowQ a.frm b.to && belowQ b.frm a.to)) := by unfold meetQ; rw [if_pos hr]
    rw [hq]
    generalize belowQ a.frm b.to = q1 at b1 ⊢
    generalize belowQ b.frm a.to = q2 at b2 ⊢
    clear hq
    (repeat' (first | refine X.rq ?_ | (refine X.rc ?_ ?_ <;> intro hc <;> first | (exfalso; omega) | skip)))
    all_goals first | (exfalso; simp_all; done) | skip
    · refine K.AT.sel [0, 0] rfl ?_
      refine K.done (by first | exact Or.inl rfl | exact Or.inr rfl) rfl (by first | exact K.Base.le.refl _ | assumption) (H' := []) rfl ⟨?_, rfl, rfl⟩
      show Value.bool _ = Value.bool _
      congr 1
      simp_all
    · refine K.l_callV (Fx.cal rfl) rfl b1 (K.pp [] rfl) rfl rfl ?_
      simp only [List.nil_append]
      cases q1 with
      | false =>
        (repeat' (first | refine X.rq ?_ | (refine X.rc ?_ ?_ <;> intro hc <;> first | (exfalso; omega) | skip)))
        refine K.AT.sel [0, 0] rfl ?_
        refine K.done (by first | exact Or.inl rfl | exact Or.inr rfl) rfl (by first | exact K.Base.le.refl _ | assumption) (H' := []) rfl ⟨?_, rfl, rfl⟩
        show Value.bool _ = Value.bool _
        congr 1
        simp_all
      | true =>
        (repeat' (first | refine X.rq ?_ | (refine X.rc ?_ ?_ <;> intro hc <;> first | (exfalso; omega) | skip)))
        refine K.l_callV (Fx.cal rfl) rfl b2 (K.pp [] rfl) rfl rfl ?_
        simp only [List.nil_append]
        (repeat' (first | refine X.rq ?_ | (refine X.rc ?_ ?_ <;> intro hc <;> first | (exfalso; omega) | skip)))
        refine K.AT.sel [0, 0] rfl ?_
        refine K.done (by first | exact Or.inl rfl | exact Or.inr rfl) rfl (by first | exact K.Base.le.refl _ | assumption) (H' := []) rfl ⟨?_, rfl, rfl⟩
        show Value.bool _ = Value.bool _
        congr 1
        simp_all
  · have hq : meetQ a b = false := by unfold meetQ; rw [if_neg hr]
    rw [hq]
    by_cases hr1 : a.rng = b.rng
    · have hi : a.id ≠ b.id := fun e => hr ⟨hr1, e⟩
      clear hr
      (repeat' (first | refine X.rq ?_ | (refine X.rc ?_ ?_ <;> intro hc <;> first | (exfalso; omega) | skip)))
      all_goals first | (exfalso; simp_all; done) | skip
      all_goals
        refine K.AT.sel [0, 0] rfl ?_
        refine K.done (by first | exact Or.inl rfl | exact Or.inr rfl) rfl (by first | exact K.Base.le.refl _ | assumption) (H' := []) rfl ⟨rfl, rfl, rfl⟩
    · clear hr
      (repeat' (first | refine X.rq ?_ | (refine X.rc ?_ ?_ <;> intro hc <;> first | (exfalso; omega) | skip)))
      all_goals first | (exfalso; simp_all; done) | skip
      all_goals
        refine K.AT.sel [0, 0] rfl ?_
        refine K.done (by first | exact Or.inl rfl | exact Or.inr rfl) rfl (by first | exact K.Base.le.refl _ | assumption) (H' := []) rfl ⟨rfl, rfl, rfl⟩
theorem CMeet (h : Base) (a b : PThing) : TrV Tryd.prog 54 [.agg (cT a).toArray, .agg (cT b).toArray] h [] (.bool (meetQ a b)) [] := by
  refine K.enter Tryd.func54 rfl (Nat.le_of_ble_eq_true rfl) (fun F => ?_)
  simp only [List.nil_append]
  (repeat' (first | refine X.rq ?_ | (refine X.rc ?_ ?_ <;> intro hc <;> first | (exfalso; omega) | skip)))
  refine K.l_box rfl rfl rfl (fun B2 => ?_)
  refine K.l_box rfl rfl rfl (fun B3 => ?_)
  by_cases hr : a.rng = b.rng ∧ a.id = b.id
  · have hq : meetQ a b = (!a.rng || (belowQ a.frm b.to && belowQ b.frm a.to)) := by unfold meetQ; rw [if_pos hr]
    rw [hq]
    clear hq
    (repeat' (first | refine X.rq ?_ | (refine X.rc ?_ ?_ <;> intro hc <;> first | (exfalso; omega) | skip)))
    all_goals first | (exfalso; simp_all; done) | skip
    all_goals
      refine K.AT.sel [0, 0] rfl ?_
      refine K.done (by first | exact Or.inl rfl | exact Or.inr rfl) rfl (by first | exact K.Base.le.refl _ | assumption) (H' := []) rfl ⟨?_, rfl, rfl⟩
      show Value.bool _ = Value.bool _
      congr 1
      simp_all [belowQ, ltS]
  · have hq : meetQ a b = false := by unfold meetQ; rw [if_neg hr]
    rw [hq]
    by_cases hr1 : a.rng = b.rng
    · have hi : a.id ≠ b.id := fun e => hr ⟨hr1, e⟩
      clear hr
      (repeat' (first | refine X.rq ?_ | (refine X.rc ?_ ?_ <;> intro hc <;> first | (exfalso; omega) | skip)))
      all_goals first | (exfalso; simp_all; done) | skip
      all_goals
        refine K.AT.sel [0, 0] rfl ?_
        refine K.done (by first | exact Or.inl rfl | exact Or.inr rfl) rfl (by first | exact K.Base.le.refl _ | assumption) (H' := []) rfl ⟨rfl, rfl, rfl⟩
    · clear hr
      (repeat' (first | refine X.rq ?_ | (refine X.rc ?_ ?_ <;> intro hc <;> first | (exfalso; omega) | skip)))
      all_goals first | (exfalso; simp_all; done) | skip
      all_goals
        refine K.AT.sel [0, 0] rfl ?_
        refine K.done (by first | exact Or.inl rfl | exact Or.inr rfl) rfl (by first | exact K.Base.le.refl _ | assumption) (H' := []) rfl ⟨rfl, rfl, rfl⟩
theorem CWithin (h : Base) (a b : PThing) : TrV Tryd.prog 46 [.agg (cT a).toArray, .agg (cT b).toArray] h [] (.bool (withinQ a b)) [] := by
  refine K.enter Tryd.func46 rfl (Nat.le_of_ble_eq_true rfl) (fun F => ?_)
  simp only [List.nil_append]
  (repeat' (first | refine X.rq ?_ | (refine X.rc ?_ ?_ <;> intro hc <;> first | (exfalso; omega) | skip)))
  refine K.l_box rfl rfl rfl (fun B2 => ?_)
  refine K.l_box rfl rfl rfl (fun B3 => ?_)
  by_cases hr : a.rng = b.rng ∧ a.id = b.id
  · have hq : withinQ a b = (!a.rng || (leS b.frm a.frm && (decide (b.to = noT) || (!decide (a.to = noT) && leS a.to b.to)))) := by unfold withinQ; rw [if_pos hr]
    rw [hq]
    clear hq
    (repeat' (first | refine X.rq ?_ | (refine X.rc ?_ ?_ <;> intro hc <;> first | (exfalso; omega) | skip)))
    all_goals first | (exfalso; simp_all; done) | skip
    all_goals
      refine K.AT.sel [0, 0] rfl ?_
      refine K.done (by first | exact Or.inl rfl | exact Or.inr rfl) rfl (by first | exact K.Base.le.refl _ | assumption) (H' := []) rfl ⟨?_, rfl, rfl⟩
      show Value.bool _ = Value.bool _
      congr 1
      simp_all [leS]
  · have hq : withinQ a b = false := by unfold withinQ; rw [if_neg hr]
    rw [hq]
    by_cases hr1 : a.rng = b.rng
    · have hi : a.id ≠ b.id := fun e => hr ⟨hr1, e⟩
      clear hr
      (repeat' (first | refine X.rq ?_ | (refine X.rc ?_ ?_ <;> intro hc <;> first | (exfalso; omega) | skip)))
      all_goals first | (exfalso; simp_all; done) | skip
      all_goals
        refine K.AT.sel [0, 0] rfl ?_
        refine K.done (by first | exact Or.inl rfl | exact Or.inr rfl) rfl (by first | exact K.Base.le.refl _ | assumption) (H' := []) rfl ⟨rfl, rfl, rfl⟩
    · clear hr
      (repeat' (first | refine X.rq ?_ | (refine X.rc ?_ ?_ <;> intro hc <;> first | (exfalso; omega) | skip)))
      all_goals first | (exfalso; simp_all; done) | skip
      all_goals
        refine K.AT.sel [0, 0] rfl ?_
        refine K.done (by first | exact Or.inl rfl | exact Or.inr rfl) rfl (by first | exact K.Base.le.refl _ | assumption) (H' := []) rfl ⟨rfl, rfl, rfl⟩
theorem RWithin (h : Base) (a b : PThing) : TrV Tryd.prog 51 [.agg (cT a).toArray, .agg (cT b).toArray] h [] (.bool (withinQ a b)) [] := by
  refine K.enter Tryd.func51 rfl (Nat.le_of_ble_eq_true rfl) (fun F => ?_)
  simp only [List.nil_append]
  (repeat' (first | refine X.rq ?_ | (refine X.rc ?_ ?_ <;> intro hc <;> first | (exfalso; omega) | skip)))
  refine K.l_box rfl rfl rfl (fun B2 => ?_)
  refine K.l_box rfl rfl rfl (fun B3 => ?_)
  by_cases hr : a.rng = b.rng ∧ a.id = b.id
  · have hq : withinQ a b = (!a.rng || (leS b.frm a.frm && (decide (b.to = noT) || (!decide (a.to = noT) && leS a.to b.to)))) := by unfold withinQ; rw [if_pos hr]
    rw [hq]
    have hl2 : leS a.to b.to = !Op.bytesLess b.to.toList a.to.toList := leS_lt _ _
    have hl1 : (Op.bytesLess b.frm.toList a.frm.toList || decide (b.frm = a.frm)) = leS b.frm a.frm := rfl
    generalize leS b.frm a.frm = l1 at hl1 ⊢
    rw [hl2]
    clear hq hl2
    (repeat' (first | refine X.rq ?_ | (refine X.rc ?_ ?_ <;> intro hc <;> first | (exfalso; omega) | skip)))
    all_goals first | (exfalso; simp_all; done) | skip
    all_goals
      refine K.AT.sel [0, 0] rfl ?_
      refine K.done (by first | exact Or.inl rfl | exact Or.inr rfl) rfl (by first | exact K.Base.le.refl _ | assumption) (H' := []) rfl ⟨?_, rfl, rfl⟩
      show Value.bool _ = Value.bool _
      congr 1
      cases l1 <;> simp_all
  · have hq : withinQ a b = false := by unfold withinQ; rw [if_neg hr]
    rw [hq]
    by_cases hr1 : a.rng = b.rng
    · have hi : a.id ≠ b.id := fun e => hr ⟨hr1, e⟩
      clear hr
      (repeat' (first | refine X.rq ?_ | (refine X.rc ?_ ?_ <;> intro hc <;> first | (exfalso; omega) | skip)))
      all_goals first | (exfalso; simp_all; done) | skip
      all_goals
        refine K.AT.sel [0, 0] rfl ?_
        refine K.done (by first | exact Or.inl rfl | exact Or.inr rfl) rfl (by first | exact K.Base.le.refl _ | assumption) (H' := []) rfl ⟨rfl, rfl, rfl⟩
    · clear hr
      (repeat' (first | refine X.rq ?_ | (refine X.rc ?_ ?_ <;> intro hc <;> first | (exfalso; omega) | skip)))
      all_goals first | (exfalso; simp_all; done) | skip
      all_goals
        refine K.AT.sel [0, 0] rfl ?_
        refine K.done (by first | exact Or.inl rfl | exact Or.inr rfl) rfl (by first | exact K.Base.le.refl _ | assumption) (H' := []) rfl ⟨rfl, rfl, rfl⟩
theorem Conf (h : Base) (a b : Int) : TrV Tryd.prog 48 [.int .i64 a, .int .i64 b] h [] (.bool (confQ a b)) [] := by
  refine K.enter Tryd.func48 rfl (Nat.le_of_ble_eq_true rfl) (fun F => ?_)
  simp only [List.nil_append]
  (repeat' (first | refine X.rq ?_ | (refine X.rc ?_ ?_ <;> intro hc <;> first | (exfalso; omega) | skip)))
  all_goals
    refine K.done (by first | exact Or.inl rfl | exact Or.inr rfl) rfl (by first | exact K.Base.le.refl _ | assumption) (H' := []) rfl ⟨?_, rfl, rfl⟩
    show Value.bool _ = Value.bool _
    congr 1
    rw [confQ, Bool.eq_iff_iff]
    simp only [decide_eq_true_iff, true_iff, false_iff, Bool.false_eq_true]
    omega
theorem Covers (h : Base) (a b : Int) : TrV Tryd.prog 52 [.int .i64 a, .int .i64 b] h [] (.bool (coverQ a b)) [] := by
  refine K.enter Tryd.func52 rfl (Nat.le_of_ble_eq_true rfl) (fun F => ?_)
  simp only [List.nil_append]
  (repeat' (first | refine X.rq ?_ | (refine X.rc ?_ ?_ <;> intro hc <;> first | (exfalso; omega) | skip)))
  all_goals
    refine K.done (by first | exact Or.inl rfl | exact Or.inr rfl) rfl (by first | exact K.Base.le.refl _ | assumption) (H' := []) rfl ⟨?_, rfl, rfl⟩
    show Value.bool _ = Value.bool _
    congr 1
    rw [coverQ, Bool.eq_iff_iff]
    simp only [decide_eq_true_iff, true_iff, false_iff, Bool.false_eq_true]
    omega
end Go.Proofs.YtcpdfajaggbjlaaDoor.Lk
