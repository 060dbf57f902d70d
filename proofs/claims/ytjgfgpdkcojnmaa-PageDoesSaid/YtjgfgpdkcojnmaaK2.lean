/-
  K2: the steps of the calculus: plain operations, guards, calls, loads, stores, new variables. Generic over the program. Conditions: none.
-/
import Derived.Test.YtjgfgpdkcojnmaaK1
import Derived.WalkLawsBesides
namespace Go.K
set_option linter.unusedVariables false
set_option linter.unusedSimpArgs false

/-- An operation that yields a value in every world of the state, and does nothing else. -/
structure Pu (P : Program) (n : Nat) (E : Env) (h : Base) (K : List Asrt) (o : Oper) (v : Value) : Prop where
  run : ∀ a w, Fr n E a → Sat h K w → (execOp a.eval o).run P w = .ok (.value v) w

section
variable {P : Program} {n : Nat} {Q : Exit → Act → World → Prop} {E : Env} {h : Base} {H : List Asrt} {ops : Array Oper} {rest : List Oper}
variable {op : Op} {t : TypeId} {ps : String} {af : Array Edge} {d : Nat} {v : Value} {g : Option (Nat × Bool)}

theorem Pu.sub {K : List Asrt} {o : Oper} (hp : Pu P n E h K o v) (hs : ∀ A ∈ K, A ∈ H) : Pu P n E h H o v := ⟨fun a w fa hw => hp.run a w fa (hw.sub hs)⟩

theorem s_pure (hp : Pu P n E h H ⟨some d, op, t, ps, af, none⟩ v) (hd : Nat.blt d n = true) (hk : WL P n ops Q rest ((d, v) :: E) h H) : WL P n ops Q (⟨some d, op, t, ps, af, none⟩ :: rest) E h H :=
  ⟨fun a w fa ok => wpList_plain rfl fun K hK => by
    unfold Oper.wp
    rw [hp.run a w fa ok.sat, Oper.upon_value]
    exact hK _ _ (hk.run _ _ (fa.put v hd) ok)⟩

/-! ### Guards -/
def dstOf (ops : Array Oper) (j : Nat) : Option Nat := (ops[j]?).bind (·.dst)
theorem yielded_of {a : Act} {j t : Nat} {b : Bool} (fa : Fr n E a) (hj : dstOf ops j = some t) (hl : lk E t = some (.bool b)) : yielded ops a.tmps j = some b := by
  unfold dstOf at hj
  simp [yielded, hj, fa.get t _ hl]
theorem s_take {dst : Option Nat} {j s : Nat} {want : Bool} (hj : dstOf ops j = some s) (hl : lk E s = some (.bool want)) (hk : WL P n ops Q (⟨dst, op, t, ps, af, none⟩ :: rest) E h H) :
    WL P n ops Q (⟨dst, op, t, ps, af, some (j, want)⟩ :: rest) E h H :=
  ⟨fun a w fa ok => by
    have := hk.run a w fa ok
    unfold wpList at this ⊢
    rw [if_pos (by simp [Region.wanted])] at this
    rw [if_pos (by simp [Region.wanted, yielded_of fa hj hl])]
    exact this⟩
theorem s_skip {j s : Nat} {want : Bool} (hj : dstOf ops j = some s) (hl : lk E s = some (.bool (!want))) (hd : Nat.blt d n = true) (hk : WL P n ops Q rest ((d, undef) :: E) h H) :
    WL P n ops Q (⟨some d, op, t, ps, af, some (j, want)⟩ :: rest) E h H :=
  ⟨fun a w fa ok => by
    unfold wpList
    rw [if_neg (by simp [Region.wanted, yielded_of fa hj hl])]
    exact hk.run _ _ (fa.put undef hd) ok⟩
theorem s_skip0 {j s : Nat} {want : Bool} (hj : dstOf ops j = some s) (hl : lk E s = some (.bool (!want))) (hk : WL P n ops Q rest E h H) :
    WL P n ops Q (⟨none, op, t, ps, af, some (j, want)⟩ :: rest) E h H :=
  ⟨fun a w fa ok => by
    unfold wpList
    rw [if_neg (by simp [Region.wanted, yielded_of fa hj hl])]
    exact hk.run _ _ fa ok⟩
/-- A Bool of the frame that is not known yet: both ways. -/
theorem s_split {l : List Oper} {s : Nat} {b : Bool} (hl : lk E s = some (.bool b)) (ht : b = true → WL P n ops Q l ((s, .bool true) :: E) h H) (hf : b = false → WL P n ops Q l ((s, .bool false) :: E) h H) : WL P n ops Q l E h H := by
  cases b with
  | true => exact WL.sub (Sub.cons hl (Sub.refl E)) (ht rfl)
  | false => exact WL.sub (Sub.cons hl (Sub.refl E)) (hf rfl)
theorem s_splitD {l : List Oper} {s : Nat} {p : Prop} [Decidable p] (hl : lk E s = some (.bool (decide p))) (ht : p → WL P n ops Q l ((s, .bool true) :: E) h H) (hf : ¬ p → WL P n ops Q l ((s, .bool false) :: E) h H) : WL P n ops Q l E h H :=
  s_split hl (fun e => ht (of_decide_eq_true e)) (fun e => hf (of_decide_eq_false e))
/-- The guard of the operation that stands next is not known yet. -/
theorem s_guard {dst : Option Nat} {j s : Nat} {want b : Bool} (hj : dstOf ops j = some s) (hl : lk E s = some (.bool b))
    (ht : b = true → WL P n ops Q (⟨dst, op, t, ps, af, some (j, want)⟩ :: rest) ((s, .bool true) :: E) h H) (hf : b = false → WL P n ops Q (⟨dst, op, t, ps, af, some (j, want)⟩ :: rest) ((s, .bool false) :: E) h H) :
    WL P n ops Q (⟨dst, op, t, ps, af, some (j, want)⟩ :: rest) E h H := s_split hl ht hf
theorem s_guardD {dst : Option Nat} {j s : Nat} {want : Bool} {p : Prop} [Decidable p] (hj : dstOf ops j = some s) (hl : lk E s = some (.bool (decide p)))
    (ht : p → WL P n ops Q (⟨dst, op, t, ps, af, some (j, want)⟩ :: rest) ((s, .bool true) :: E) h H) (hf : ¬ p → WL P n ops Q (⟨dst, op, t, ps, af, some (j, want)⟩ :: rest) ((s, .bool false) :: E) h H) :
    WL P n ops Q (⟨dst, op, t, ps, af, some (j, want)⟩ :: rest) E h H := s_splitD hl ht hf

/-! ### Plain operations -/
variable {K : List Asrt} {dst : Option Nat} {x y z : Operand} {k k' : IntKind} {a b c : Int} {t' : TypeId}
theorem p_move (hx : lkO E x = some v) : Pu P n E h K ⟨dst, .move x, t, ps, af, g⟩ v := ⟨fun a w fa _ => by simp [execOp, fa.eval hx]⟩
theorem p_assign (hx : lkO E x = some v) : Pu P n E h K ⟨dst, .assign x, t, ps, af, g⟩ v := ⟨fun a w fa _ => by simp [execOp, fa.eval hx]⟩
theorem p_pickT (hz : lkO E z = some (.bool true)) (hx : lkO E x = some v) : Pu P n E h K ⟨dst, .pick z x y, t, ps, af, g⟩ v := ⟨fun a w fa _ => by simp [execOp, asBool, fa.eval hz, fa.eval hx]⟩
theorem p_pickF (hz : lkO E z = some (.bool false)) (hy : lkO E y = some v) : Pu P n E h K ⟨dst, .pick z x y, t, ps, af, g⟩ v := ⟨fun a w fa _ => by simp [execOp, asBool, fa.eval hz, fa.eval hy]⟩
/-- Both arms are known. -/
theorem p_pickB {b1 b2 b3 : Bool} (hz : lkO E z = some (.bool b1)) (hx : lkO E x = some (.bool b2)) (hy : lkO E y = some (.bool b3)) : Pu P n E h K ⟨dst, .pick z x y, t, ps, af, g⟩ (.bool (if b1 then b2 else b3)) :=
  ⟨fun a w fa _ => by cases b1 <;> simp [execOp, asBool, fa.eval hz, fa.eval hx, fa.eval hy]⟩
theorem p_nilP {ad : Addr} (hx : lkO E x = some (.pointer (some ad))) : Pu P n E h K ⟨dst, .nilCheck x, t, ps, af, g⟩ (.pointer (some ad)) := ⟨fun a w fa _ => by simp [execOp, fa.eval hx]⟩

theorem eqGuard_int (op : BinOp) (t : TypeId) (x y : Operand) (k k' : IntKind) (a b : Int) (w : World) : (eqGuard op t x y (.int k a) (.int k' b)).run P w = .ok () w := by cases op <;> simp [eqGuard]
theorem eqGuard_bool (op : BinOp) (t : TypeId) (x y : Operand) (a b : Bool) (w : World) : (eqGuard op t x y (.bool a) (.bool b)).run P w = .ok () w := by cases op <;> simp [eqGuard]
theorem eqGuard_string (op : BinOp) (t : TypeId) (x y : Operand) (a b : ByteArray) (w : World) : (eqGuard op t x y (.string a) (.string b)).run P w = .ok () w := by cases op <;> simp [eqGuard]
theorem eqGuard_pointer (op : BinOp) (t : TypeId) (x y : Operand) (a b : Option Addr) (w : World) : (eqGuard op t x y (.pointer a) (.pointer b)).run P w = .ok () w := by cases op <;> simp [eqGuard]
theorem eqGuard_slice (op : BinOp) (t : TypeId) (x y : Operand) (a b : Option Addr) (l1 c1 l2 c2 : Nat) (w : World) : (eqGuard op t x y (.slice a l1 c1) (.slice b l2 c2)).run P w = .ok () w := by cases op <;> simp [eqGuard]


variable {ty : TypeId}
theorem p_add (hx : lkO E x = some (.int k a)) (hy : lkO E y = some (.int k b)) (hc : k.wrap (a + b) = c) : Pu P n E h K ⟨dst, .binOp .add t x y t', ty, ps, af, g⟩ (.int k c) :=
  ⟨fun s w fa _ => by simp [execOp, fa.eval hx, fa.eval hy, eqGuard_int, binOp, Op.intArith, hc]⟩
theorem p_sub (hx : lkO E x = some (.int k a)) (hy : lkO E y = some (.int k b)) (hc : k.wrap (a - b) = c) : Pu P n E h K ⟨dst, .binOp .sub t x y t', ty, ps, af, g⟩ (.int k c) :=
  ⟨fun s w fa _ => by simp [execOp, fa.eval hx, fa.eval hy, eqGuard_int, binOp, Op.intArith, hc]⟩
theorem p_mul (hx : lkO E x = some (.int k a)) (hy : lkO E y = some (.int k b)) (hc : k.wrap (a * b) = c) : Pu P n E h K ⟨dst, .binOp .mul t x y t', ty, ps, af, g⟩ (.int k c) :=
  ⟨fun s w fa _ => by simp [execOp, fa.eval hx, fa.eval hy, eqGuard_int, binOp, Op.intArith, hc]⟩
theorem p_quo (hx : lkO E x = some (.int k a)) (hy : lkO E y = some (.int k b)) (hb : b ≠ 0) (hc : k.wrap (a.tdiv b) = c) : Pu P n E h K ⟨dst, .binOp .quo t x y t', ty, ps, af, g⟩ (.int k c) :=
  ⟨fun s w fa _ => by simp [execOp, fa.eval hx, fa.eval hy, eqGuard_int, binOp, Op.intDiv, hb, hc]⟩
theorem p_rem (hx : lkO E x = some (.int k a)) (hy : lkO E y = some (.int k b)) (hb : b ≠ 0) (hc : a.tmod b = c) : Pu P n E h K ⟨dst, .binOp .rem t x y t', ty, ps, af, g⟩ (.int k c) :=
  ⟨fun s w fa _ => by simp [execOp, fa.eval hx, fa.eval hy, eqGuard_int, binOp, Op.intDiv, hb, hc]⟩
theorem p_and (hx : lkO E x = some (.int k a)) (hy : lkO E y = some (.int k b)) (hc : bits .and k a b = c) : Pu P n E h K ⟨dst, .binOp .and t x y t', ty, ps, af, g⟩ (.int k c) :=
  ⟨fun s w fa _ => by simp [execOp, fa.eval hx, fa.eval hy, eqGuard_int, binOp, Op.intBits, ← hc, bits]⟩
theorem p_or (hx : lkO E x = some (.int k a)) (hy : lkO E y = some (.int k b)) (hc : bits .or k a b = c) : Pu P n E h K ⟨dst, .binOp .or t x y t', ty, ps, af, g⟩ (.int k c) :=
  ⟨fun s w fa _ => by simp [execOp, fa.eval hx, fa.eval hy, eqGuard_int, binOp, Op.intBits, ← hc, bits]⟩
theorem p_xor (hx : lkO E x = some (.int k a)) (hy : lkO E y = some (.int k b)) (hc : bits .xor k a b = c) : Pu P n E h K ⟨dst, .binOp .xor t x y t', ty, ps, af, g⟩ (.int k c) :=
  ⟨fun s w fa _ => by simp [execOp, fa.eval hx, fa.eval hy, eqGuard_int, binOp, Op.intBits, ← hc, bits]⟩
theorem p_shl (hx : lkO E x = some (.int k a)) (hy : lkO E y = some (.int k' b)) (hb : 0 ≤ b) (hc : k.wrap (a * 2 ^ (min b.toNat k.bits)) = c) : Pu P n E h K ⟨dst, .binOp .shl t x y t', ty, ps, af, g⟩ (.int k c) :=
  ⟨fun s w fa _ => by simp [execOp, fa.eval hx, fa.eval hy, eqGuard_int, binOp, Op.shift, Int.not_lt.2 hb, ← hc]⟩
theorem p_shr (hx : lkO E x = some (.int k a)) (hy : lkO E y = some (.int k' b)) (hb : 0 ≤ b) (hc : a.fdiv (2 ^ (min b.toNat k.bits)) = c) : Pu P n E h K ⟨dst, .binOp .shr t x y t', ty, ps, af, g⟩ (.int k c) :=
  ⟨fun s w fa _ => by simp [execOp, fa.eval hx, fa.eval hy, eqGuard_int, binOp, Op.shift, Int.not_lt.2 hb, ← hc]⟩
theorem beqd {α : Type} [BEq α] [LawfulBEq α] [DecidableEq α] (a b : α) : (a == b) = decide (a = b) := by
  rw [Bool.eq_iff_iff]; simp
theorem p_eql (hx : lkO E x = some (.int k a)) (hy : lkO E y = some (.int k b)) : Pu P n E h K ⟨dst, .binOp .eql t x y t', ty, ps, af, g⟩ (.bool (decide (a = b))) :=
  ⟨fun s w fa _ => by simp [execOp, fa.eval hx, fa.eval hy, eqGuard_int, binOp, Op.intCmp, beqd]⟩
theorem p_neq (hx : lkO E x = some (.int k a)) (hy : lkO E y = some (.int k b)) : Pu P n E h K ⟨dst, .binOp .neq t x y t', ty, ps, af, g⟩ (.bool (decide (a ≠ b))) :=
  ⟨fun s w fa _ => by simp [execOp, fa.eval hx, fa.eval hy, eqGuard_int, binOp, Op.intCmp, bne, beqd]⟩
theorem p_lss (hx : lkO E x = some (.int k a)) (hy : lkO E y = some (.int k b)) : Pu P n E h K ⟨dst, .binOp .lss t x y t', ty, ps, af, g⟩ (.bool (decide (a < b))) :=
  ⟨fun s w fa _ => by simp [execOp, fa.eval hx, fa.eval hy, eqGuard_int, binOp, Op.intCmp]⟩
theorem p_leq (hx : lkO E x = some (.int k a)) (hy : lkO E y = some (.int k b)) : Pu P n E h K ⟨dst, .binOp .leq t x y t', ty, ps, af, g⟩ (.bool (decide (a ≤ b))) :=
  ⟨fun s w fa _ => by simp [execOp, fa.eval hx, fa.eval hy, eqGuard_int, binOp, Op.intCmp]⟩
theorem p_gtr (hx : lkO E x = some (.int k a)) (hy : lkO E y = some (.int k b)) : Pu P n E h K ⟨dst, .binOp .gtr t x y t', ty, ps, af, g⟩ (.bool (decide (b < a))) :=
  ⟨fun s w fa _ => by simp [execOp, fa.eval hx, fa.eval hy, eqGuard_int, binOp, Op.intCmp]⟩
theorem p_geq (hx : lkO E x = some (.int k a)) (hy : lkO E y = some (.int k b)) : Pu P n E h K ⟨dst, .binOp .geq t x y t', ty, ps, af, g⟩ (.bool (decide (b ≤ a))) :=
  ⟨fun s w fa _ => by simp [execOp, fa.eval hx, fa.eval hy, eqGuard_int, binOp, Op.intCmp]⟩

/-! strings -/
variable {s1 s2 : ByteArray}
theorem toList_inj {s u : ByteArray} : s.toList = u.toList ↔ s = u := by
  rw [ByteArray.toList_eq, ByteArray.toList_eq]
  constructor
  · intro e
    cases s; cases u
    simp at e
    rw [e]
  · intro e; rw [e]
theorem sbeq (s u : ByteArray) : (s.toList == u.toList) = decide (s = u) := by rw [beqd, decide_eq_decide]; exact toList_inj
theorem p_seql (hx : lkO E x = some (.string s1)) (hy : lkO E y = some (.string s2)) : Pu P n E h K ⟨dst, .binOp .eql t x y t', ty, ps, af, g⟩ (.bool (decide (s1 = s2))) :=
  ⟨fun s w fa _ => by simp [execOp, fa.eval hx, fa.eval hy, eqGuard_string, binOp, Op.stringOp, sbeq]⟩
theorem p_sneq (hx : lkO E x = some (.string s1)) (hy : lkO E y = some (.string s2)) : Pu P n E h K ⟨dst, .binOp .neq t x y t', ty, ps, af, g⟩ (.bool (decide (s1 ≠ s2))) :=
  ⟨fun s w fa _ => by simp [execOp, fa.eval hx, fa.eval hy, eqGuard_string, binOp, Op.stringOp, sbeq]⟩
theorem p_slss (hx : lkO E x = some (.string s1)) (hy : lkO E y = some (.string s2)) : Pu P n E h K ⟨dst, .binOp .lss t x y t', ty, ps, af, g⟩ (.bool (Op.bytesLess s1.toList s2.toList)) :=
  ⟨fun s w fa _ => by simp [execOp, fa.eval hx, fa.eval hy, eqGuard_string, binOp, Op.stringOp]⟩
theorem p_sgtr (hx : lkO E x = some (.string s1)) (hy : lkO E y = some (.string s2)) : Pu P n E h K ⟨dst, .binOp .gtr t x y t', ty, ps, af, g⟩ (.bool (!(Op.bytesLess s1.toList s2.toList || decide (s1 = s2)))) :=
  ⟨fun s w fa _ => by simp [execOp, fa.eval hx, fa.eval hy, eqGuard_string, binOp, Op.stringOp, sbeq]⟩
theorem p_sleq (hx : lkO E x = some (.string s1)) (hy : lkO E y = some (.string s2)) : Pu P n E h K ⟨dst, .binOp .leq t x y t', ty, ps, af, g⟩ (.bool (Op.bytesLess s1.toList s2.toList || decide (s1 = s2))) :=
  ⟨fun s w fa _ => by simp [execOp, fa.eval hx, fa.eval hy, eqGuard_string, binOp, Op.stringOp, sbeq]⟩
theorem p_sgeq (hx : lkO E x = some (.string s1)) (hy : lkO E y = some (.string s2)) : Pu P n E h K ⟨dst, .binOp .geq t x y t', ty, ps, af, g⟩ (.bool (!Op.bytesLess s1.toList s2.toList)) :=
  ⟨fun s w fa _ => by simp [execOp, fa.eval hx, fa.eval hy, eqGuard_string, binOp, Op.stringOp]⟩
theorem p_sadd (hx : lkO E x = some (.string s1)) (hy : lkO E y = some (.string s2)) (hb : s1.size + s2.size ≤ 9223372036854775807) : Pu P n E h K ⟨dst, .binOp .add t x y t', ty, ps, af, g⟩ (.string (s1 ++ s2)) :=
  ⟨fun s w fa _ => by
    have : ¬ ((s1.size + s2.size : Nat) : Int) > IntKind.i64.max := by simp [IntKind.max, IntKind.signed, IntKind.bits]; omega
    simp only [execOp, fa.eval hx, fa.eval hy, binOp, Op.stringOp, Sem.run_bind, eqGuard_string, Result.andThen_ok, if_neg this, Sem.run_pure]⟩

/-! nil -/
variable {dd : TypeDesc} {ad : Addr} {la ca : Nat}
def isPtr : TypeDesc → Bool | .pointer _ => true | _ => false
def isSlc : TypeDesc → Bool | .slice _ => true | _ => false
theorem run_eqIn_ptr (w : World) (m : Nat) {e : TypeId} (hu : P.underlying t = some (.pointer e)) (o : Option Addr) : (Op.equalIn (m + 1) t (.pointer o) (.pointer none)).run P w = .ok o.isNone w := by
  cases o <;> simp [Op.equalIn, run_underlying hu]
theorem run_eq_ptr (w : World) (hu : P.underlying t = some dd) (hq : isPtr dd = true) (o : Option Addr) : (Op.equal t (.pointer o) (.pointer none)).run P w = .ok o.isNone w := by
  cases dd <;> simp [isPtr] at hq
  exact run_eqIn_ptr w 9999 hu o
theorem run_eqIn_slc (w : World) (m : Nat) {e : TypeId} (hu : P.underlying t = some (.slice e)) (o : Option Addr) : (Op.equalIn (m + 1) t (.slice o la ca) (.slice none 0 0)).run P w = .ok o.isNone w := by
  cases o <;> simp [Op.equalIn, run_underlying hu]
theorem run_eq_slc (w : World) (hu : P.underlying t = some dd) (hq : isSlc dd = true) (o : Option Addr) : (Op.equal t (.slice o la ca) (.slice none 0 0)).run P w = .ok o.isNone w := by
  cases dd <;> simp [isSlc] at hq
  exact run_eqIn_slc w 9999 hu o
theorem p_eqP (hu : P.underlying t = some dd) (hq : isPtr dd = true) {o : Option Addr} {q : Bool} (hx : lkO E x = some (.pointer o)) (hy : lkO E y = some (.pointer none)) (ho : o.isNone = q) : Pu P n E h K ⟨dst, .binOp .eql t x y t', ty, ps, af, g⟩ (.bool q) :=
  ⟨fun s w fa _ => by simp [execOp, fa.eval hx, fa.eval hy, eqGuard_pointer, binOp, run_eq_ptr w hu hq, ← ho]⟩
theorem p_neP (hu : P.underlying t = some dd) (hq : isPtr dd = true) {o : Option Addr} {q : Bool} (hx : lkO E x = some (.pointer o)) (hy : lkO E y = some (.pointer none)) (ho : o.isSome = q) : Pu P n E h K ⟨dst, .binOp .neq t x y t', ty, ps, af, g⟩ (.bool q) :=
  ⟨fun s w fa _ => by simp [execOp, fa.eval hx, fa.eval hy, eqGuard_pointer, binOp, run_eq_ptr w hu hq, ← ho]⟩
theorem p_eqS (hu : P.underlying t = some dd) (hq : isSlc dd = true) {o : Option Addr} {q : Bool} (hx : lkO E x = some (.slice o la ca)) (hy : lkO E y = some (.slice none 0 0)) (ho : o.isNone = q) : Pu P n E h K ⟨dst, .binOp .eql t x y t', ty, ps, af, g⟩ (.bool q) :=
  ⟨fun s w fa _ => by simp [execOp, fa.eval hx, fa.eval hy, eqGuard_slice, binOp, run_eq_slc w hu hq, ← ho]⟩
theorem p_neS (hu : P.underlying t = some dd) (hq : isSlc dd = true) {o : Option Addr} {q : Bool} (hx : lkO E x = some (.slice o la ca)) (hy : lkO E y = some (.slice none 0 0)) (ho : o.isSome = q) : Pu P n E h K ⟨dst, .binOp .neq t x y t', ty, ps, af, g⟩ (.bool q) :=
  ⟨fun s w fa _ => by simp [execOp, fa.eval hx, fa.eval hy, eqGuard_slice, binOp, run_eq_slc w hu hq, ← ho]⟩

/-! Bools, unary, conversions -/
variable {b1 b2 : Bool} {p : Prop} [Decidable p]
theorem p_beql (hu : P.underlying t = some .bool) (hx : lkO E x = some (.bool b1)) (hy : lkO E y = some (.bool b2)) : Pu P n E h K ⟨dst, .binOp .eql t x y t', ty, ps, af, g⟩ (.bool (b1 == b2)) :=
  ⟨fun s w fa _ => by simp [execOp, fa.eval hx, fa.eval hy, eqGuard_bool, run_eql_bool, hu]⟩
theorem p_bneq (hu : P.underlying t = some .bool) (hx : lkO E x = some (.bool b1)) (hy : lkO E y = some (.bool b2)) : Pu P n E h K ⟨dst, .binOp .neq t x y t', ty, ps, af, g⟩ (.bool (!(b1 == b2))) :=
  ⟨fun s w fa _ => by simp [execOp, fa.eval hx, fa.eval hy, eqGuard_bool, run_neq_bool, hu]⟩
theorem p_notT (hx : lkO E x = some (.bool true)) : Pu P n E h K ⟨dst, .unOp .not t x, ty, ps, af, g⟩ (.bool false) := ⟨fun s w fa _ => by simp [execOp, fa.eval hx, Op.unary]⟩
theorem p_notF (hx : lkO E x = some (.bool false)) : Pu P n E h K ⟨dst, .unOp .not t x, ty, ps, af, g⟩ (.bool true) := ⟨fun s w fa _ => by simp [execOp, fa.eval hx, Op.unary]⟩
theorem p_notD (hx : lkO E x = some (.bool (decide p))) : Pu P n E h K ⟨dst, .unOp .not t x, ty, ps, af, g⟩ (.bool (decide (¬ p))) := ⟨fun s w fa _ => by simp [execOp, fa.eval hx, Op.unary]⟩
theorem p_not (hx : lkO E x = some (.bool b1)) : Pu P n E h K ⟨dst, .unOp .not t x, ty, ps, af, g⟩ (.bool (!b1)) := ⟨fun s w fa _ => by simp [execOp, fa.eval hx, Op.unary]⟩
theorem p_neg (hx : lkO E x = some (.int k a)) (hc : k.wrap (0 - a) = c) : Pu P n E h K ⟨dst, .unOp .neg t x, ty, ps, af, g⟩ (.int k c) := ⟨fun s w fa _ => by simp [execOp, fa.eval hx, Op.unary, Op.intArith, ← hc]⟩
theorem p_conv (hs : P.underlying t = some dd) (hu : P.underlying t' = some (.int k)) (hx : lkO E x = some (.int k' a)) (hc : k.wrap a = c) : Pu P n E h K ⟨dst, .convert t t' x, ty, ps, af, g⟩ (.int k c) :=
  ⟨fun s w fa _ => by simp [execOp, fa.eval hx, convert, run_underlying hs, run_underlying hu, Conv.intToInt, hc]⟩
theorem p_convS (hs : P.underlying t = some .string) (hu : P.underlying t' = some .string) (hx : lkO E x = some (.string s1)) : Pu P n E h K ⟨dst, .convert t t' x, ty, ps, af, g⟩ (.string s1) :=
  ⟨fun s w fa _ => by simp [execOp, fa.eval hx, convert, run_underlying hs, run_underlying hu]⟩

/-! tuples, structs -/
theorem p_extract {vs : List Value} {i : Nat} (hx : lkO E x = some (.tuple vs.toArray)) (hi : vs[i]? = some v) : Pu P n E h K ⟨dst, .extract x i, ty, ps, af, g⟩ v :=
  ⟨fun s w fa _ => by simp [execOp, fa.eval hx, Instr.extract, hi]⟩

def fldOff (P : Program) (t i : Nat) : Option (Nat × TypeId × Nat) := match P.underlying t with
  | some (.struct fs) => match fs[i]? with
    | some f => match P.info? f.type with
      | some inf => some (f.offset, f.type, inf.size)
      | none => none
    | none => none
  | _ => none
def aggOf (P : Program) (t : TypeId) : Option Bool := match P.underlying t with
  | some (.struct _) => some true
  | some (.array _ _) => some true
  | some _ => some false
  | none => none
def szOf (P : Program) (t : TypeId) : Option Nat := (P.info? t).map (·.size)
def zrOf (P : Program) (t : TypeId) : Option Value := (P.info? t).bind (·.zero)
def byOf (P : Program) (t : TypeId) : Option Nat := (P.info? t).map (·.bytes)

theorem run_isAgg {w : World} {b : Bool} (ha : aggOf P t = some b) : (isAgg t).run P w = .ok b w := by
  unfold aggOf at ha
  cases hu : P.underlying t with
  | none => simp [hu] at ha
  | some d => cases d <;> simp [hu] at ha <;> subst ha <;> simp [isAgg, run_underlying hu]
theorem run_sizeOf {w : World} {s : Nat} (ha : szOf P t = some s) : (sizeOf t).run P w = .ok s w := by
  unfold szOf at ha
  cases hu : P.info? t with
  | none => simp [hu] at ha
  | some d => simp [hu] at ha; subst ha; simp [sizeOf, typeInfo, hu]
theorem run_zero {w : World} (ha : zrOf P t = some v) : (zeroValue t).run P w = .ok v w := by
  unfold zrOf at ha
  cases hu : P.info? t with
  | none => simp [hu] at ha
  | some d => simp [hu] at ha; simp [zeroValue, typeInfo, hu, ha]

theorem add_none (b o m : Nat) : Addr.add ⟨b, o, none⟩ m = ⟨b, o + m, none⟩ := by
  unfold Addr.add
  split
  · rename_i e; subst e; rfl
  · rfl

theorem p_fieldAddr {bl o i off ft sz o' : Nat} (hf : fldOff P t i = some (off, ft, sz)) (hsz : Nat.blt 0 sz = true) (hx : lkO E x = some (.pointer (some ⟨bl, o, none⟩))) (ho : o + off = o') : Pu P n E h K ⟨dst, .fieldAddr t x i, ty, ps, af, g⟩ (.pointer (some ⟨bl, o', none⟩)) :=
  ⟨fun s w fa _ => by
    unfold fldOff at hf
    cases hu : P.underlying t with
    | none => simp [hu] at hf
    | some d =>
      cases d <;> simp [hu] at hf
      rename_i fs
      cases hi : fs[i]? with
      | none => simp [hi] at hf
      | some f =>
        cases hin : P.info? f.type with
        | none => simp [hi, hin] at hf
        | some inf =>
          simp [hi, hin] at hf
          obtain ⟨h1, h2, h3⟩ := hf
          have h3 : ¬ inf.size = 0 := by have : 0 < sz := by simpa [Nat.blt_eq] using hsz
                                         omega
          simp [execOp, fa.eval hx, Instr.fieldAt, run_underlying hu, hi, Instr.sureAddr, fieldPlace, sizeOf, typeInfo, hin, h3, h1, add_none, ho]⟩

theorem p_field1 {i off ft sz : Nat} {cs : List Value} (hf : fldOff P t i = some (off, ft, sz)) (hg : aggOf P ft = some false) (hx : lkO E x = some (.agg cs.toArray)) (hc : cs[off]? = some v) : Pu P n E h K ⟨dst, .field t x i, ty, ps, af, g⟩ v :=
  ⟨fun s w fa _ => by
    unfold fldOff at hf
    cases hu : P.underlying t with
    | none => simp [hu] at hf
    | some d =>
      cases d <;> simp [hu] at hf
      rename_i fs
      cases hi : fs[i]? with
      | none => simp [hi] at hf
      | some f =>
        cases hin : P.info? f.type with
        | none => simp [hi, hin] at hf
        | some inf =>
          simp [hi, hin] at hf
          obtain ⟨h1, h2, h3⟩ := hf
          subst h1 h2
          simp [execOp, fa.eval hx, Instr.field, run_underlying hu, hi, part, run_isAgg hg, asAgg, hc]⟩
theorem p_fieldN {i off ft sz : Nat} {cs cs' : List Value} (hf : fldOff P t i = some (off, ft, sz)) (hg : aggOf P ft = some true) (hx : lkO E x = some (.agg cs.toArray)) (hc : (cs.drop off).take sz = cs') : Pu P n E h K ⟨dst, .field t x i, ty, ps, af, g⟩ (.agg cs'.toArray) :=
  ⟨fun s w fa _ => by
    unfold fldOff at hf
    cases hu : P.underlying t with
    | none => simp [hu] at hf
    | some d =>
      cases d <;> simp [hu] at hf
      rename_i fs
      cases hi : fs[i]? with
      | none => simp [hi] at hf
      | some f =>
        cases hin : P.info? f.type with
        | none => simp [hi, hin] at hf
        | some inf =>
          simp [hi, hin] at hf
          obtain ⟨h1, h2, h3⟩ := hf
          subst h1 h2 h3
          have : (sizeOf f.type).run P w = .ok inf.size w := by simp [sizeOf, typeInfo, hin]
          simp [execOp, fa.eval hx, Instr.field, run_underlying hu, hi, part, run_isAgg hg, asAgg, this, ← hc]⟩

/-! ### Cells -/
/-- A cell of the state. -/
structure Cel (h : Base) (K : List Asrt) (b o : Nat) (v : Value) : Prop where
  run : ∀ w, Sat h K w → w.cell? ⟨b, o, none⟩ = some v
theorem cel_own {bl o : Nat} {T : TypeId} {cs : List Value} {fz : Nat × Nat} (i : Nat) (hi : K[i]? = some (blkF bl T cs fz)) (hc : cs[o]? = some v) : Cel h K bl o v := ⟨fun w hs => by
  have : w.heap[bl]? = some (.cells cs.toArray T fz) := hs.own _ (List.mem_of_getElem? hi)
  simp [World.cell?, this, hc]⟩
theorem cel_mem {bl o : Nat} {T : TypeId} {cs : List Value} {fz : Nat × Nat} (hi : h.mem bl = some (.cells cs.toArray T fz)) (hc : cs[o]? = some v) : Cel h K bl o v := ⟨fun w hs => by
  have : w.heap[bl]? = some (.cells cs.toArray T fz) := hs.imm _ _ hi
  simp [World.cell?, this, hc]⟩
theorem Cel.sub {bl o : Nat} {K' : List Asrt} (hc : Cel h K bl o v) (hs : ∀ A ∈ K, A ∈ K') : Cel h K' bl o v := ⟨fun w hw => hc.run w (hw.sub hs)⟩

theorem p_load {bl o : Nat} (hg : aggOf P t = some false) (hx : lkO E x = some (.pointer (some ⟨bl, o, none⟩))) (hc : Cel h K bl o v) : Pu P n E h K ⟨dst, .load t x, ty, ps, af, g⟩ v :=
  ⟨fun s w fa hs => by simp [execOp, fa.eval hx, Instr.loadAt, Instr.sureAddr, loadVar, run_isAgg hg, hc.run w hs]⟩

/-- A row of cells of the state. -/
def Cels (h : Base) (K : List Asrt) (b o : Nat) : List Value → Prop
  | [] => True
  | v :: r => Cel h K b o v ∧ Cels h K b (o + 1) r
theorem Cels.get {bl : Nat} : ∀ {vs : List Value} {o : Nat}, Cels h K bl o vs → ∀ j u, vs[j]? = some u → Cel h K bl (o + j) u
  | [], _, _, j, u, hu => by simp at hu
  | x :: r, o, hc, 0, u, hu => by simp at hu; subst hu; exact hc.1
  | x :: r, o, hc, j + 1, u, hu => by
    have := Cels.get hc.2 j u (by simpa using hu)
    rwa [show o + 1 + j = o + (j + 1) from by omega] at this
theorem p_loadN {bl o : Nat} {vs : List Value} (hg : aggOf P t = some true) (hz : szOf P t = some vs.length) (hx : lkO E x = some (.pointer (some ⟨bl, o, none⟩))) (hc : Cels h K bl o vs) : Pu P n E h K ⟨dst, .load t x, ty, ps, af, g⟩ (.agg vs.toArray) :=
  ⟨fun s w fa hs => by
    have hl : (loadCells ⟨bl, o, none⟩ vs.length).run P w = .ok vs.toArray w := run_loadCells_list w _ _ fun j u hj => by
      rw [add_none]; exact (hc.get j u hj).run w hs
    simp [execOp, fa.eval hx, Instr.loadAt, Instr.sureAddr, loadVar, run_isAgg hg, run_sizeOf hz, hl]⟩
end
end Go.K
