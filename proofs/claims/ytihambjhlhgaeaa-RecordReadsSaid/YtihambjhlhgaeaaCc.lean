/-
  The walks of package code, the reader: making, faults, taking. Conditions: each theorem's own.
-/
import Derived.Test.YtihambjhlhgaeaaKX
import Derived.Test.YtihambjhlhgaeaaMX
import Derived.Test.YtihambjhlhgaeaaKA

namespace Go.Proofs.Ytihambjhlhgaeaa.Cc
open Go Go.K Go.Proofs Go.Proofs.Ytihambjhlhgaeaa
set_option linter.unusedVariables false
set_option linter.unusedSimpArgs false
set_option maxRecDepth 10000

abbrev unit : Value := .tuple #[]
def big : Nat := 140737488355328
/-- A reader: its block, whether somebody made it, its slice, whether there was a fault; or nil. -/
structure RS where
  p : Nat
  made : Bool
  sv : Value
  bad : Bool
def rv : Option RS → Value
  | none => .pointer none
  | some r => .pointer (some ⟨r.p, 0, none⟩)
def rA : Option RS → Asrt
  | none => all []
  | some r => blk r.p 108 [.bool r.made, r.sv, .bool r.bad]
/-- What a reader is: whether it reads still, and what is left. -/
def Rd (h : Base) (s : Option RS) (ok : Bool) (rem : List UInt8) : Prop := match s with
  | none => ok = false ∧ rem = []
  | some r => ok = (r.made && !r.bad) ∧ BV h r.sv rem
def same : Option RS → Option RS → Prop
  | none, none => True
  | some r, some r' => r'.p = r.p
  | _, _ => False
theorem same_refl : ∀ s, same s s
  | none => trivial
  | some _ => rfl
theorem same_trans : ∀ {a b c : Option RS}, same a b → same b c → same a c
  | none, none, none, _, _ => trivial
  | some _, some _, some _, h1, h2 => Eq.trans h2 h1
  | none, some _, _, h1, _ => h1.elim
  | some _, none, _, h1, _ => h1.elim
  | none, none, some _, _, h2 => h2.elim
  | some _, some _, none, _, h2 => h2.elim
theorem same_val : ∀ {a b : Option RS}, same a b → rv b = rv a
  | none, none, _ => rfl
  | some r, some r', e => by show Value.pointer _ = Value.pointer _; rw [show r'.p = r.p from e]
  | none, some _, h1 => h1.elim
  | some _, none, h1 => h1.elim
theorem Rd.le {h h' : Base} {s : Option RS} {ok : Bool} {rem : List UInt8} (hr : Rd h s ok rem) (hle : h.le h') : Rd h' s ok rem := by
  cases s with
  | none => exact hr
  | some r => exact ⟨hr.1, hr.2.le hle⟩
/-- What every reading method does. -/
def RPost (h : Base) (s : Option RS) (ok : Bool) (rem : List UInt8) (V : Value → Prop) (v : Value) (h' : Base) (H' : List Asrt) : Prop := h = h' ∧ V v ∧ ∃ s', same s s' ∧ Rd h s' ok rem ∧ H' = [rA s']

theorem NewReader (h : Base) (v : Value) (l : List UInt8) (Pre : List Asrt) (hs : Src Try.prog h Pre 1 v l.length (l.map u8)) (hl : l.length ≤ big) :
    Tr Try.prog 45 [v] h Pre (fun v' h' H' => ∃ p sv, v' = rv (some ⟨p, true, sv, false⟩) ∧ Rd h' (some ⟨p, true, sv, false⟩) true l ∧ H' = rA (some ⟨p, true, sv, false⟩) :: Pre) := by
  unfold big at hl
  refine K.enter Try.func45 rfl (Nat.le_of_ble_eq_true rfl) (fun F => ?_)
  (repeat' (first | refine X.rq ?_ | (refine X.rc ?_ ?_ <;> intro hc <;> first | (exfalso; omega) | skip)))
  refine K.WL.nilBuf 5 1 ?_
  refine K.l_append_at 0 rfl (Fx.und rfl) (Fx.und rfl) rfl (Fx.sz rfl) (Fx.zr rfl) rfl (Fx.byt rfl) rfl rfl (hs.sub (fun A hA => by simp [hA])) (by omega) (by omega) rfl (fun a' cap' => ?_)
  simp only [List.set_cons_zero, List.set_cons_succ, List.eraseIdx_cons_zero, List.eraseIdx_cons_succ, List.cons_append, List.nil_append]
  (repeat' (first | refine X.rq ?_ | (refine X.rc ?_ ?_ <;> intro hc <;> first | (exfalso; omega) | skip)))
  refine K.l_box rfl rfl rfl (fun B => ?_)
  (repeat' (first | refine X.rq ?_ | (refine X.rc ?_ ?_ <;> intro hc <;> first | (exfalso; omega) | skip)))
  rw [Nat.zero_add]
  refine K.AT.perm (List.Perm.swap ..) (K.AT.freezeBuf (fun h1 hle hb => ?_))
  refine K.done (by first | exact Or.inl rfl | exact Or.inr rfl) rfl (by first | exact K.Base.le.refl _ | assumption) (H' := rA (some ⟨B, true, bufV a' l.length cap', false⟩) :: Pre) rfl ⟨B, _, rfl, ⟨rfl, hb⟩, rfl⟩

theorem R_fault (h : Base) (s : Option RS) (ok : Bool) (rem : List UInt8) (hr : Rd h s ok rem) : Tr Try.prog 89 [rv s] h [rA s] (RPost h s false rem (· = unit)) := by
  match s, hr with
  | none, ⟨_, hb⟩ =>
    refine K.enter Try.func89 rfl (Nat.le_of_ble_eq_true rfl) (fun F => ?_)
    simp only [rv]
    (repeat' (first | refine X.rq ?_ | (refine X.rc ?_ ?_ <;> intro hc <;> first | (exfalso; omega) | skip)))
    refine K.done (by first | exact Or.inl rfl | exact Or.inr rfl) rfl (by first | exact K.Base.le.refl _ | assumption) (H' := [rA none]) rfl ⟨rfl, rfl, none, trivial, ⟨rfl, hb⟩, rfl⟩
  | some ⟨p, made, sv, bad⟩, ⟨_, hb⟩ =>
    refine K.enter Try.func89 rfl (Nat.le_of_ble_eq_true rfl) (fun F => ?_)
    simp only [rv, rA, List.cons_append, List.nil_append]
    (repeat' (first | refine X.rq ?_ | (refine X.rc ?_ ?_ <;> intro hc <;> first | (exfalso; omega) | skip)))
    refine X.sto ?_
    (repeat' (first | refine X.rq ?_ | (refine X.rc ?_ ?_ <;> intro hc <;> first | (exfalso; omega) | skip)))
    refine K.done (by first | exact Or.inl rfl | exact Or.inr rfl) rfl (by first | exact K.Base.le.refl _ | assumption) (H' := [rA (some ⟨p, made, sv, true⟩)]) rfl ⟨rfl, rfl, some ⟨p, made, sv, true⟩, rfl, ⟨by simp, hb⟩, rfl⟩

def errV (ok : Bool) : Value := .int .i64 (if ok then 0 else 5)
theorem R_Err (h : Base) (s : Option RS) (ok : Bool) (rem : List UInt8) (hr : Rd h s ok rem) : TrV Try.prog 72 [rv s] h [rA s] (errV ok) [rA s] := by
  match s, hr with
  | none, ⟨hb, _⟩ =>
    subst hb
    refine K.enter Try.func72 rfl (Nat.le_of_ble_eq_true rfl) (fun F => ?_)
    simp only [rv]
    (repeat' (first | refine X.rq ?_ | (refine X.rc ?_ ?_ <;> intro hc <;> first | (exfalso; omega) | skip)))
    refine K.done (by first | exact Or.inl rfl | exact Or.inr rfl) rfl (by first | exact K.Base.le.refl _ | assumption) (H' := [rA none]) rfl ⟨rfl, rfl, rfl⟩
  | some ⟨p, made, sv, bad⟩, ⟨hb, _⟩ =>
    subst hb
    refine K.enter Try.func72 rfl (Nat.le_of_ble_eq_true rfl) (fun F => ?_)
    simp only [rv, rA, List.cons_append, List.nil_append]
    cases made <;> cases bad
    all_goals
      (repeat' (first | refine X.rq ?_ | (refine X.rc ?_ ?_ <;> intro hc <;> first | (exfalso; omega) | skip)))
      refine K.done (by first | exact Or.inl rfl | exact Or.inr rfl) rfl (by first | exact K.Base.le.refl _ | assumption) (H' := [rA (some ⟨p, _, sv, _⟩)]) rfl ⟨rfl, rfl, rfl⟩

theorem R_Left (h : Base) (s : Option RS) (ok : Bool) (rem : List UInt8) (hr : Rd h s ok rem) : TrV Try.prog 90 [rv s] h [rA s] (.int .i64 rem.length) [rA s] := by
  match s, hr with
  | none, ⟨_, hb⟩ =>
    subst hb
    refine K.enter Try.func90 rfl (Nat.le_of_ble_eq_true rfl) (fun F => ?_)
    simp only [rv]
    (repeat' (first | refine X.rq ?_ | (refine X.rc ?_ ?_ <;> intro hc <;> first | (exfalso; omega) | skip)))
    refine K.done (by first | exact Or.inl rfl | exact Or.inr rfl) rfl (by first | exact K.Base.le.refl _ | assumption) (H' := [rA none]) rfl ⟨rfl, rfl, rfl⟩
  | some ⟨p, made, sv, bad⟩, ⟨_, hb⟩ =>
    obtain ⟨ao, c, rfl⟩ := hb.len
    refine K.enter Try.func90 rfl (Nat.le_of_ble_eq_true rfl) (fun F => ?_)
    simp only [rv, rA, List.cons_append, List.nil_append]
    (repeat' (first | refine X.rq ?_ | (refine X.rc ?_ ?_ <;> intro hc <;> first | (exfalso; omega) | skip)))
    refine K.done (by first | exact Or.inl rfl | exact Or.inr rfl) rfl (by first | exact K.Base.le.refl _ | assumption) (H' := [rA (some ⟨p, made, _, bad⟩)]) rfl ⟨rfl, rfl, rfl⟩

theorem R_End (h : Base) (s : Option RS) (ok : Bool) (rem : List UInt8) (hr : Rd h s ok rem) (hl : rem.length ≤ big) :
    Tr Try.prog 74 [rv s] h [rA s] (RPost h s (ok && decide (rem = [])) rem (· = errV (ok && decide (rem = [])))) := by
  unfold big at hl
  refine K.enter Try.func74 rfl (Nat.le_of_ble_eq_true rfl) (fun F => ?_)
  (repeat' (first | refine X.rq ?_ | (refine X.rc ?_ ?_ <;> intro hc <;> first | (exfalso; omega) | skip)))
  refine K.l_callV (Fx.cal rfl) rfl (R_Left h s ok rem hr) (K.pp [0] rfl) rfl rfl ?_
  (repeat' (first | refine X.rq ?_ | (refine X.rc ?_ ?_ <;> intro hc <;> first | (exfalso; omega) | skip)))
  · have hne : rem ≠ [] := by intro e; subst e; simp at hc
    refine K.l_call (Fx.cal rfl) rfl (R_fault h s ok rem hr) (K.pp [0] rfl) rfl ?_
    rintro v h' H' - ⟨rfl, -, s', hs, hr', rfl⟩
    (repeat' (first | refine X.rq ?_ | (refine X.rc ?_ ?_ <;> intro hc <;> first | (exfalso; omega) | skip)))
    refine K.l_callV (vals := [rv s']) (Fx.cal rfl) (by rw [same_val hs]; rfl) (R_Err h s' false rem hr') (K.pp [0] rfl) rfl rfl ?_
    (repeat' (first | refine X.rq ?_ | (refine X.rc ?_ ?_ <;> intro hc <;> first | (exfalso; omega) | skip)))
    simp only [hne, decide_false, Bool.and_false]
    refine K.done (by first | exact Or.inl rfl | exact Or.inr rfl) rfl (by first | exact K.Base.le.refl _ | assumption) (H' := [rA s']) rfl ⟨rfl, rfl, s', hs, hr', rfl⟩
  · have hne : rem = [] := by
      cases rem with
      | nil => rfl
      | cons a b => simp at hc
    refine K.l_callV (Fx.cal rfl) rfl (R_Err h s ok rem hr) (K.pp [0] rfl) rfl rfl ?_
    (repeat' (first | refine X.rq ?_ | (refine X.rc ?_ ?_ <;> intro hc <;> first | (exfalso; omega) | skip)))
    simp only [hne, decide_true, Bool.and_true]
    rw [hne] at hr
    refine K.done (by first | exact Or.inl rfl | exact Or.inr rfl) rfl (by first | exact K.Base.le.refl _ | assumption) (H' := [rA s]) rfl ⟨rfl, rfl, s, same_refl s, hr, rfl⟩

theorem R_take_no (h : Base) (s : Option RS) (ok : Bool) (rem : List UInt8) (m : Int) (hr : Rd h s ok rem) (hl : rem.length ≤ big) (hm1 : -9223372036854775808 ≤ m) (hm2 : m ≤ 9223372036854775807) (hno : ok = false ∨ m < 0 ∨ (rem.length : Int) < m) :
    Tr Try.prog 86 [rv s, .int .i64 m] h [rA s] (RPost h s false rem (· = .tuple #[.slice none 0 0, .bool false])) := by
  unfold big at hl
  cases ok with
  | false =>
    refine K.enter Try.func86 rfl (Nat.le_of_ble_eq_true rfl) (fun F => ?_)
    (repeat' (first | refine X.rq ?_ | (refine X.rc ?_ ?_ <;> intro hc <;> first | (exfalso; omega) | skip)))
    refine K.l_callV (Fx.cal rfl) rfl (R_Err h s false rem hr) (K.pp [0] rfl) rfl rfl ?_
    simp only [errV, Bool.false_eq_true, ↓reduceIte]
    (repeat' (first | refine X.rq ?_ | (refine X.rc ?_ ?_ <;> intro hc <;> first | (exfalso; omega) | skip)))
    refine K.l_call (Fx.cal rfl) rfl (R_fault h s false rem hr) (K.pp [0] rfl) rfl ?_
    rintro v h' H' - ⟨rfl, -, s', hs, hr', rfl⟩
    (repeat' (first | refine X.rq ?_ | (refine X.rc ?_ ?_ <;> intro hc <;> first | (exfalso; omega) | skip)))
    refine K.done (by first | exact Or.inl rfl | exact Or.inr rfl) rfl (by first | exact K.Base.le.refl _ | assumption) (H' := [rA s']) rfl ⟨rfl, rfl, s', hs, hr', rfl⟩
  | true =>
    have hno' : m < 0 ∨ (rem.length : Int) < m := by simpa using hno
    clear hno
    match s, hr with
    | none, hr => exact absurd hr.1 (by simp)
    | some ⟨p, made, sv, bad⟩, hr =>
      obtain ⟨ao, c, hsv⟩ := hr.2.len
      simp only at hsv
      subst hsv
      refine K.enter Try.func86 rfl (Nat.le_of_ble_eq_true rfl) (fun F => ?_)
      (repeat' (first | refine X.rq ?_ | (refine X.rc ?_ ?_ <;> intro hc <;> first | (exfalso; omega) | skip)))
      refine K.l_callV (Fx.cal rfl) rfl (R_Err h (some ⟨p, made, .slice ao rem.length c, bad⟩) true rem hr) (K.pp [0] rfl) rfl rfl ?_
      simp only [errV, ↓reduceIte, rA, rv, List.cons_append, List.nil_append]
      (repeat' (first | refine X.rq ?_ | (refine X.rc ?_ ?_ <;> intro hc <;> first | (exfalso; omega) | skip)))
      all_goals
        refine K.l_call (Fx.cal rfl) rfl (R_fault h (some ⟨p, made, .slice ao rem.length c, bad⟩) true rem hr) (K.pp [0] rfl) rfl ?_
        rintro v h' H' - ⟨rfl, -, s', hs, hr', rfl⟩
        (repeat' (first | refine X.rq ?_ | (refine X.rc ?_ ?_ <;> intro hc <;> first | (exfalso; omega) | skip)))
        refine K.done (by first | exact Or.inl rfl | exact Or.inr rfl) rfl (by first | exact K.Base.le.refl _ | assumption) (H' := [rA s']) rfl ⟨rfl, rfl, s', hs, hr', rfl⟩

theorem R_take (h : Base) (s : Option RS) (rem : List UInt8) (m : Nat) (hr : Rd h s true rem) (hl : rem.length ≤ big) (hm : m ≤ rem.length) :
    Tr Try.prog 86 [rv s, .int .i64 m] h [rA s] (RPost h s true (rem.drop m) (fun v => ∃ v1, v = .tuple #[v1, .bool true] ∧ BV h v1 (rem.take m))) := by
  unfold big at hl
  match s, hr with
  | none, hr => exact absurd hr.1 (by simp)
  | some ⟨p, made, sv, bad⟩, hr =>
    have hb := hr.2
    simp only at hb
    obtain ⟨ao, c, hsv⟩ := hb.len
    refine K.enter Try.func86 rfl (Nat.le_of_ble_eq_true rfl) (fun F => ?_)
    (repeat' (first | refine X.rq ?_ | (refine X.rc ?_ ?_ <;> intro hc <;> first | (exfalso; omega) | skip)))
    refine K.l_callV (Fx.cal rfl) rfl (R_Err h (some ⟨p, made, sv, bad⟩) true rem hr) (K.pp [0] rfl) rfl rfl ?_
    simp only [errV, ↓reduceIte, rA, rv, List.cons_append, List.nil_append]
    (repeat' (first | refine X.rq ?_ | (refine X.rc ?_ ?_ <;> intro hc <;> first | (exfalso; omega) | skip)))
    all_goals
      refine K.s_pure (K.p_lenB hb (Fx.und rfl) rfl) rfl ?_
      (repeat' (first | refine X.rq ?_ | (refine X.rc ?_ ?_ <;> intro hc <;> first | (exfalso; omega) | skip)))
      refine K.s_pureE (K.p_sliceB (k1 := .i64) (k2 := .i64) (p := 0) (q := m) hb (Fx.und rfl) (Fx.sz rfl) rfl rfl ⟨_, rfl, rfl⟩ (Nat.zero_le _) hm) rfl (fun v1 hv1 => ?_)
      (repeat' (first | refine X.rq ?_ | (refine X.rc ?_ ?_ <;> intro hc <;> first | (exfalso; omega) | skip)))
      refine K.s_pureE (K.p_sliceB (k1 := .i64) (k2 := .i64) (p := m) (q := rem.length) hb (Fx.und rfl) (Fx.sz rfl) rfl ⟨_, rfl, rfl⟩ rfl hm (Nat.le_refl _)) rfl (fun v2 hv2 => ?_)
      rw [List.take_of_length_le (Nat.le_refl _)] at hv2
      obtain ⟨ao2, c2, rfl⟩ := hv2.len
      (repeat' (first | refine X.rq ?_ | (refine X.rc ?_ ?_ <;> intro hc <;> first | (exfalso; omega) | skip)))
      refine X.sto ?_
      (repeat' (first | refine X.rq ?_ | (refine X.rc ?_ ?_ <;> intro hc <;> first | (exfalso; omega) | skip)))
      refine K.done (by first | exact Or.inl rfl | exact Or.inr rfl) rfl (by first | exact K.Base.le.refl _ | assumption) (H' := [rA (some ⟨p, made, .slice ao2 (rem.drop m).length c2, bad⟩)]) rfl ⟨rfl, ⟨v1, rfl, hv1⟩, some ⟨p, made, .slice ao2 (rem.drop m).length c2, bad⟩, rfl, ⟨hr.1, hv2⟩, rfl⟩
end Go.Proofs.Ytihambjhlhgaeaa.Cc
