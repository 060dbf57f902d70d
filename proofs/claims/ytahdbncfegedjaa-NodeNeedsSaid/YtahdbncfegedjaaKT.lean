/-
  KT: values in interfaces; functions compared with nil; regions in which nothing comes up. Generic over the program. Conditions: each theorem's own.
-/
import Derived.Test.YtahdbncfegedjaaKS
namespace Go.K
open Go
set_option linter.unusedVariables false
set_option linter.unusedSimpArgs false
set_option linter.unusedSectionVars false
section
variable {P : Program} {n : NN} {Q : Exit → Act → World → Prop} {E : Env} {h h' h0 : Base} {H K R F : List Asrt} {ops : Array Oper} {rest : List Oper}
variable {op : Op} {t t' ty : TypeId} {ps : String} {af : Array Edge} {d i b : Nat} {v : Value} {x y : Operand} {dst : Option Nat} {g : Option (Nat × Bool)} {dd : TypeDesc}
def isFn : TypeDesc → Bool | .func _ _ _ => true | _ => false
def isIfc : TypeDesc → Bool | .interface _ => true | _ => false
theorem run_eqIn_fn (w : World) (m : Nat) (hu : P.underlying t = some dd) (hq : isFn dd = true) {f : Fn} {a b : Array Value} : (Op.equalIn (m + 1) t (.func f a b) .nilFunc).run P w = .ok false w := by
  cases dd <;> simp [isFn] at hq
  simp [Op.equalIn, run_underlying hu]
theorem run_eqIn_fn0 (w : World) (m : Nat) (hu : P.underlying t = some dd) (hq : isFn dd = true) : (Op.equalIn (m + 1) t .nilFunc .nilFunc).run P w = .ok true w := by
  cases dd <;> simp [isFn] at hq
  simp [Op.equalIn, run_underlying hu]
theorem p_neF (hu : P.underlying t = some dd) (hq : isFn dd = true) {f : Fn} {a b : Array Value} (hx : lkO E x = some (.func f a b)) (hy : lkO E y = some .nilFunc) : Pu P n E h K ⟨dst, .binOp .neq t x y t', ty, ps, af, g⟩ (.bool true) :=
  ⟨fun s w fa _ => by
    have e : (Op.equal t (.func f a b) .nilFunc).run P w = .ok false w := run_eqIn_fn w 9999 hu hq
    simp [execOp, fa.eval hx, fa.eval hy, eqGuard, binOp, e]⟩
theorem p_neF0 (hu : P.underlying t = some dd) (hq : isFn dd = true) (hx : lkO E x = some .nilFunc) (hy : lkO E y = some .nilFunc) : Pu P n E h K ⟨dst, .binOp .neq t x y t', ty, ps, af, g⟩ (.bool false) :=
  ⟨fun s w fa _ => by
    have e : (Op.equal t .nilFunc .nilFunc).run P w = .ok true w := run_eqIn_fn0 w 9999 hu hq
    simp [execOp, fa.eval hx, fa.eval hy, eqGuard, binOp, e]⟩
theorem run_eqIn_if (w : World) (m : Nat) (hu : P.underlying t = some dd) (hq : isIfc dd = true) {ut : TypeId} {u : Value} : (Op.equalIn (m + 1) t (.iface ut u) .nilIface).run P w = .ok false w := by
  cases dd <;> simp [isIfc] at hq
  simp [Op.equalIn, run_underlying hu]
theorem run_eqIn_if0 (w : World) (m : Nat) (hu : P.underlying t = some dd) (hq : isIfc dd = true) : (Op.equalIn (m + 1) t .nilIface .nilIface).run P w = .ok true w := by
  cases dd <;> simp [isIfc] at hq
  simp [Op.equalIn, run_underlying hu]
theorem p_neI (hu : P.underlying t = some dd) (hq : isIfc dd = true) {ut : TypeId} {u : Value} (hx : lkO E x = some (.iface ut u)) (hy : lkO E y = some .nilIface) : Pu P n E h K ⟨dst, .binOp .neq t x y t', ty, ps, af, g⟩ (.bool true) :=
  ⟨fun s w fa _ => by
    have e : (Op.equal t (.iface ut u) .nilIface).run P w = .ok false w := run_eqIn_if w 9999 hu hq
    simp [execOp, fa.eval hx, fa.eval hy, eqGuard, binOp, e]⟩
theorem p_neI0 (hu : P.underlying t = some dd) (hq : isIfc dd = true) (hx : lkO E x = some .nilIface) : Pu P n E h K ⟨dst, .binOp .neq t x (.const .nilIface) t', ty, ps, af, g⟩ (.bool false) :=
  ⟨fun s w fa _ => by
    have e : (Op.equal t .nilIface .nilIface).run P w = .ok true w := run_eqIn_if0 w 9999 hu hq
    have e2 : s.eval (.const .nilIface) = .nilIface := rfl
    simp [execOp, fa.eval hx, e2, eqGuard, binOp, e]⟩
theorem p_mkI (hu : P.underlying t = some dd) (hq : isIfc dd = false) (hx : lkO E x = some v) : Pu P n E h K ⟨dst, .makeInterface t x, ty, ps, af, g⟩ (.iface t v) :=
  ⟨fun s w fa _ => by
    have e : (Instr.makeInterface t v).run P w = .ok (.iface t v) w := by
      cases dd <;> simp [isIfc] at hq <;> simp [Instr.makeInterface, run_underlying hu]
    simp [execOp, fa.eval hx, e]⟩
theorem p_assert (hu : P.underlying t = some dd) (hq : isIfc dd = false) (hx : lkO E x = some (.iface t v)) : Pu P n E h K ⟨dst, .typeAssert x t' t true, ty, ps, af, g⟩ (.tuple #[v, .bool true]) :=
  ⟨fun s w fa _ => by
    have e : (Instr.typeAssert (.iface t v) t' t true).run P w = .ok (.tuple #[v, .bool true]) w := by
      cases dd <;> simp [isIfc] at hq <;> simp [Instr.typeAssert, run_underlying hu]
    simp [execOp, fa.eval hx, e]⟩
theorem p_makeFuncB {f : FuncId} {fst caps : List Operand} {vs us : List Value} (hf : evArgs E fst = some vs) (ha : evArgs E caps = some us) : Pu P n E h K ⟨dst, .makeFunc (.func f) fst.toArray caps.toArray, ty, ps, af, g⟩ (.func (.func f) vs.toArray us.toArray) :=
  ⟨fun s w fa _ => by
    have h1 := evArgs_eval fa caps us ha
    have h2 := evArgs_eval fa fst vs hf
    simp [execOp, Instr.makeFunc, h1, h2]⟩

/-! ### Nothing comes up -/
def QN (Q : Exit → Act → World → Prop) : Exit → Act → World → Prop
  | .panic _, _, _ => False
  | e, a, w => Q e a w
theorem QN_noPanic : NoPanic (QN Q) := fun c a w d v hx => hx
theorem postX_noPanic {fn : Func} {R RX : Value → World → Prop} : NoPanic (postX P fn R RX) := fun c a w d v hx => by
  obtain ⟨h1, h2⟩ := hx
  exact ⟨by cases d <;> exact h1, h2⟩
theorem RPX_noPanic {α : Type} {J : List α → Base → Asrt → Prop} {Jx : Code → List α → Base → Asrt → Prop} {JP : Value → List α → Base → Asrt → Prop} {pre : List α} {R : List Asrt} : NoPanic (RPX J Jx JP pre h R) := fun c a w d v hx => by
  obtain ⟨h1, h2⟩ := hx
  exact ⟨by cases d <;> exact h1, h2⟩
theorem WC.np {c : Code} (hx : WC P n c (QN Q) E h H) : WC P n c Q E h H := ⟨fun a w fa ok => Code.wp_mono (fun e a' w' hq => by cases e <;> first | exact hq | exact hq.elim) (hx.run a w fa ok)⟩
theorem a_qn (hx : AT P n Q .normal E h H) : AT P n (QN Q) .normal E h H := ⟨hx.run⟩
/-- What comes up, the rest forgotten. -/
theorem upXD {fn : Func} {F H' D : List Asrt} {h0 : Base} {Post PX : Value → Base → List Asrt → Prop} {u : Value} (hle : h0.le h) (hH : H = D ++ (H' ++ F)) (hP : PX u h H') (hn : n.ds = [] := by rfl) :
    AT P n (postX P fn (fun v w' => ∃ h' H', h0.le h' ∧ Post v h' H' ∧ Ok h' (H' ++ F) w') (fun v w' => ∃ h' H', h0.le h' ∧ PX v h' H' ∧ Ok h' (H' ++ F) w')) (.panic (up1 u)) E h H :=
  ⟨fun a w fa ok => ⟨fa.defers.trans hn, .inr ⟨u, rfl, h, H', hle, hP, (hH ▸ ok).drops⟩⟩⟩
theorem doneXC {fn : Func} {e : Exit} {F H' D : List Asrt} {h0 : Base} {Post PX : Value → Base → List Asrt → Prop} {vs : List Value} (he : e = .ret ∨ e = .normal) (hr : ResC P E h H fn.results.toList vs)
    (hle : h0.le h) (hH : H = D ++ (H' ++ F)) (hP : Post (packV vs) h H') (hn : n.ds = [] := by rfl) : AT P n (postX P fn (fun v w' => ∃ h' H', h0.le h' ∧ Post v h' H' ∧ Ok h' (H' ++ F) w') (fun v w' => ∃ h' H', h0.le h' ∧ PX v h' H' ∧ Ok h' (H' ++ F) w')) e E h H :=
  ⟨fun a w fa ok => by
    rcases he with rfl | rfl <;> exact ⟨fa.defers.trans hn, packV vs, run_resC fa ok.sat hr, .inl ⟨_, rfl, h, H', hle, hP, (hH ▸ ok).drops⟩⟩⟩
end
end Go.K
