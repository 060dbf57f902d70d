/-
  Texts joined: KP KR KS KT KU. Conditions: each theorem's own.
-/
import Derived.Test.YtmcdaegaopfihaaGreatY1
import Derived.Defers
import Derived.Recover
import Derived.RangeFuncLeaves
import Derived.RangeFuncSeq
import Derived.StillTail
import Derived.OrdersIn
import Derived.TacticsIn
import Derived.Test.YtmcdaegaopfihaaGreatY21
section
namespace Go.K
open Go
set_option linter.unusedVariables false
set_option linter.unusedSimpArgs false

abbrev up1 (v : Value) : List PanicEntry := [{ v := v, recovered := false }]
def TrX (P : Program) (f : FuncId) (args : List Value) (h : Base) (Pre : List Asrt) (Post PX : Value → Base → List Asrt → Prop) : Prop :=
 ∀ F w, Ok h (Pre ++ F) w → Calls P f args.toArray w fun e w' => (∃ v, e = .returned v ∧ ∃ h' H', h.le h' ∧ Post v h' H' ∧ Ok h' (H' ++ F) w') ∨ ∃ v, e = .panicked (up1 v) ∧ ∃ h' H', h.le h' ∧ PX v h' H' ∧ Ok h' (H' ++ F) w'
def postX (P : Program) (fn : Func) (R RX : Value → World → Prop) : Exit → Act → World → Prop := bodyPost P fn fun e w' => (∃ v, e = .returned v ∧ R v w') ∨ ∃ v, e = .panicked (up1 v) ∧ RX v w'
section
variable {P : Program} {n : NN} {Q : Exit → Act → World → Prop} {E : Env} {h : Base} {H : List Asrt} {ops : Array Oper} {rest : List Oper}
variable {d : Nat} {ty : TypeId} {ps : String} {af : Array Edge}
end
end Go.K
end

section
namespace Go.K
open Go
set_option linter.unusedVariables false
set_option linter.unusedSimpArgs false

section
variable {P : Program} {n : NN} {Q : Exit → Act → World → Prop} {E : Env} {h h' h0 : Base} {H K R F : List Asrt} {ops : Array Oper} {rest : List Oper}
variable {op : Op} {t t' ty : TypeId} {ps : String} {af : Array Edge} {d i b : Nat} {v : Value} {x y : Operand} {dst : Option Nat} {g : Option (Nat × Bool)} {σ : Sch} {ro : Option Nat}

def Wd (ro : Option Nat) : Fence := { Fence.wide with round := ro }
def plainOp (o : Oper) : Bool := match o.op with
 | .defer _ => false
 | _ => true
/-! ### Code in a round's frame -/
structure WR (P : Program) (n : NN) (ro : Option Nat) (c : Code) (Q : Exit → Act → World → Prop) (E : Env) (h : Base) (H : List Asrt) : Prop where
 run : ∀ a w, Fr n E a → Ok h H w → c.wpIn (Wd ro) 0 P Q a w
/-! ### Calls of yield -/
def YieldK (P : Program) (l : Nat) {α : Type} (Enc : Base → α → List Value → Prop) (J Jx : List α → Base → Asrt → Prop) (xs : List α) : Prop :=
 ∀ pre x h args A R w, pre ++ [x] <+: xs → Enc h x args → J pre h A → Ok h (A :: R) w →
  YieldAt (Wd none) 0 P l args.toArray w fun e w' => ∃ h' A', h.le h' ∧ Ok h' (A' :: R) w' ∧ ((e = .returned (.bool true) ∧ J (pre ++ [x]) h' A') ∨ (e = .returned (.bool false) ∧ Jx (pre ++ [x]) h' A'))

/-! ### A region that draws its order, with a call of yield behind all else -/
def backB (ops : Array Oper) (k : Nat) : Bool := (List.range k).all fun i => match ops[i]? with
 | some o => o.guard.isNone && plainOp o && o.after.all fun e => Nat.blt e.on i
 | none => false
def tailB (ops : Array Oper) (k : Nat) : Bool :=
 Nat.blt k ops.size && Region.sinkB .any ops k && Region.chainB .any ops k && backB ops k && Region.seqB .any ops (ops.size - k) k ((List.replicate k true ++ List.replicate (ops.size - k) false).toArray)

/-! ### What an iterator promises; the statement -/
def IterK (P : Program) (gf : Nat) (lb : List Value) {α : Type} (Enc : Base → α → List Value → Prop) (h0 : Base) (Pre : List Asrt) (xs : List α) : Prop :=
 ∀ (l : Nat) (J Jx : List α → Base → Asrt → Prop), (∀ pre h h' A, h.le h' → J pre h A → J pre h' A) → (∀ pre h h' A, h.le h' → Jx pre h A → Jx pre h' A) → YieldK P l Enc J Jx xs →
  ∀ F A w h, h0.le h → J [] h A → Ok h (Pre ++ A :: F) w →
   CallsIn (Wd none) 0 P gf (.func (.yield l) #[] #[] :: lb).toArray w fun e w' => (∃ v, e = .returned v) ∧ ∃ h' A', h.le h' ∧ Ok h' (Pre ++ A' :: F) w' ∧ (J xs h' A' ∨ ∃ pre, pre <+: xs ∧ Jx pre h' A')

def envP : List Nat → List Value → Env → Env
 | p :: ps, v :: vs, E => envP ps vs ((p, v) :: E)
 | _, _, E => E
abbrev mark (D : Nat) : Deferred := { target := .collected D, args := #[] }
def RP {α : Type} (J : List α → Base → Asrt → Prop) (Jx : Code → List α → Base → Asrt → Prop) (pre : List α) (h : Base) (R : List Asrt) : Exit → Act → World → Prop
 | .normal, _, w => ∃ h' A', h.le h' ∧ J pre h' A' ∧ Ok h' (A' :: R) w
 | .ret, _, w => ∃ h' A', h.le h' ∧ Jx .ret pre h' A' ∧ Ok h' (A' :: R) w
 | .exit id, _, w => ∃ h' A', h.le h' ∧ Jx (.exit id) pre h' A' ∧ Ok h' (A' :: R) w
 | .goto q, _, w => ∃ h' A', h.le h' ∧ Jx (.goto q) pre h' A' ∧ Ok h' (A' :: R) w
 | .panic _, _, _ => False
 | .outgrown, _, _ => False
def AP (n : NN) (E : Env) (h : Base) (H : List Asrt) : Exit → Act → World → Prop := Exit.then (fun a w => Fr n E a ∧ Ok h H w) (fun _ _ _ => False)

/-! ### Functions that leave with a mark -/
def postM (P : Program) (fn : Func) (R : Value → World → Prop) : Exit → Act → World → Prop := bodyPostM Fence.wide 0 P fn fun e w' => ∃ v, e = .returned v ∧ R v w'
end
end Go.K
end

section
namespace Go.K
open Go
set_option linter.unusedVariables false
set_option linter.unusedSimpArgs false
set_option linter.unusedSectionVars false

section
variable {P : Program} {n : NN} {Q : Exit → Act → World → Prop} {E : Env} {h h' h0 : Base} {H K R F : List Asrt} {ops : Array Oper} {rest : List Oper}
variable {op : Op} {t t' ty : TypeId} {ps : String} {af : Array Edge} {d i b : Nat} {v : Value} {x y : Operand} {dst : Option Nat} {g : Option (Nat × Bool)} {ro : Option Nat}

theorem run_callB {f : FuncId} {args : List Operand} {vals fst caps : List Value} {ats : Array TypeId} {a : Act} {w : World} (hc : Callable P f) (fa : Fr n E a) (hx : lkO E x = some (.func (.func f) fst.toArray caps.toArray)) (ha : evArgs E args = some vals) :
  (execOp a.eval ⟨dst, .call ⟨.value x, args.toArray, ats⟩, ty, ps, af, g⟩).run P w = .ok (.enter f (fst ++ vals ++ caps).toArray) w := by
 have h1 := evArgs_eval fa args vals ha
 have h2 : args.toArray.map a.eval = vals.toArray := by rw [List.map_toArray, h1]
 simp only [execOp, resolve, fa.eval hx, Deferred.ofValue, h2, Sem.run_bind, Sem.run_pure, Result.andThen_ok, invoke]
 simp only [List.append_toArray]
 exact hc _ _
theorem l_callB {f : FuncId} {args : List Operand} {vals fst caps : List Value} {ats : Array TypeId} {Pre F : List Asrt} {Post : Value → Base → List Asrt → Prop} (hc : Callable P f) (hx : lkO E x = some (.func (.func f) fst.toArray caps.toArray)) (ha : evArgs E args = some vals) (ht : Tr P f (fst ++ vals ++ caps) h Pre Post)
  (hp : H.Perm (Pre ++ F)) (hd : Nat.blt d n = true) (hk : ∀ v h' H', h.le h' → Post v h' H' → WL P n ops Q rest ((d, v) :: E) h' (H' ++ F)) :
  WL P n ops Q (⟨some d, .call ⟨.value x, args.toArray, ats⟩, ty, ps, af, none⟩ :: rest) E h H :=
 ⟨fun a w fa ok => wpList_plain rfl fun K hK => by
  unfold Oper.wp
  rw [run_callB hc fa hx ha, Oper.upon_enter]
  refine Calls.mono (ht F w (ok.perm hp)) ?_
  rintro e w' ⟨v, rfl, h', H', hle, hP, ok'⟩
  exact hK _ _ ((hk v h' H' hle hP).run _ _ (fa.put v hd) ok')⟩
/-! ### What is put off; what catches -/
def postD (P : Program) (fn : Func) (R : Value → World → Prop) : Exit → Act → World → Prop := bodyPostD P fn fun e w' => ∃ v, e = .returned v ∧ R v w'
def TrD (P : Program) (f : FuncId) (args : List Value) (u : FrameMode) (h : Base) (Pre : List Asrt) (Post : FrameMode → Base → List Asrt → Prop) : Prop :=
 ∀ F w, Ok h (Pre ++ F) w → CallsD P f args.toArray u w fun e u' w' => (∃ v, e = .returned v) ∧ ∃ h' H', h.le h' ∧ Post u' h' H' ∧ Ok h' (H' ++ F) w'
def modeOf : Exit → FrameMode
 | .panic ch => .panicking ch
 | _ => .returning
def postS (P : Program) (fn : Func) (R : World → Prop) : Exit → Act → World → Prop
 | .normal, a, w | .ret, a, w => a.defers = [] ∧ (∃ v, (results fn a.tmps).run P w = .ok v w) ∧ R w
 | _, _, _ => False
end
/-! ### Code in a sane frame -/
def wpB (P : Program) (c : Code) (Q : Exit → Act → World → Prop) (a : Act) (w : World) : Prop :=
 ∀ (b : Frame) (k : List Item) (cs : List Frame), (∃ fn, P.funcs[b.fn]? = some fn) → ∃ e a' w', Q e a' w' ∧ Arrives P (lone (b.at a (.code c :: k)) cs w) b k cs e a' w'
section
variable {P : Program} {n : NN} {Q : Exit → Act → World → Prop} {E : Env} {h h' h0 : Base} {H K R F : List Asrt} {ops : Array Oper} {rest : List Oper}
variable {op : Op} {t t' ty : TypeId} {ps : String} {af : Array Edge} {d i b : Nat} {v : Value} {x y : Operand} {dst : Option Nat} {g : Option (Nat × Bool)} {ro : Option Nat}
structure WB (P : Program) (n : NN) (c : Code) (Q : Exit → Act → World → Prop) (E : Env) (h : Base) (H : List Asrt) : Prop where
 run : ∀ a w, Fr n E a → Ok h H w → wpB P c Q a w
/-! ### A round that may let something come up -/
def roundPostX (P : Program) (l : Nat) (R : Ending → World → Prop) : Exit → Act → World → Prop
 | .normal, _, w => ∃ v w', (Instr.endRound l none).run P w = .ok v w' ∧ R (.returned v) w'
 | .ret, _, w => ∃ v w', (Instr.endRound l (some .ret)).run P w = .ok v w' ∧ R (.returned v) w'
 | .exit id, _, w => ∃ v w', (Instr.endRound l (some (.exit id))).run P w = .ok v w' ∧ R (.returned v) w'
 | .goto t, _, w => ∃ v w', (Instr.endRound l (some (.goto t))).run P w = .ok v w' ∧ R (.returned v) w'
 | .panic ch, a, w => a.defers = [] ∧ R (.panicked ch) w
 | .outgrown, _, _ => False
/-! ### What an iterator promises -/
def YieldX (P : Program) (l : Nat) {α : Type} (Enc : Base → α → List Value → Prop) (J Jx : List α → Base → Asrt → Prop) (JP : Value → List α → Base → Asrt → Prop) (xs : List α) : Prop :=
 ∀ pre x h args A R w, pre ++ [x] <+: xs → Enc h x args → J pre h A → Ok h (A :: R) w →
  YieldAt (Wd none) 0 P l args.toArray w fun e w' => ∃ h' A', h.le h' ∧ Ok h' (A' :: R) w' ∧ ((e = .returned (.bool true) ∧ J (pre ++ [x]) h' A') ∨ (e = .returned (.bool false) ∧ Jx (pre ++ [x]) h' A') ∨ ∃ v, e = .panicked (up1 v) ∧ JP v (pre ++ [x]) h' A')
def IterX (P : Program) (gf : Nat) (lb : List Value) {α : Type} (Enc : Base → α → List Value → Prop) (h0 : Base) (Pre : List Asrt) (xs : List α) : Prop :=
 ∀ (l : Nat) (J Jx : List α → Base → Asrt → Prop) (JP : Value → List α → Base → Asrt → Prop), (∀ pre h h' A, h.le h' → J pre h A → J pre h' A) → (∀ pre h h' A, h.le h' → Jx pre h A → Jx pre h' A) → (∀ v pre h h' A, h.le h' → JP v pre h A → JP v pre h' A) → YieldX P l Enc J Jx JP xs →
  ∀ F A w h, h0.le h → J [] h A → Ok h (Pre ++ A :: F) w →
   Calls P gf (.func (.yield l) #[] #[] :: lb).toArray w fun e w' => ∃ h' A', h.le h' ∧ Ok h' (Pre ++ A' :: F) w' ∧ (((∃ v, e = .returned v) ∧ (J xs h' A' ∨ ∃ pre, pre <+: xs ∧ Jx pre h' A')) ∨ ∃ v pre, e = .panicked (up1 v) ∧ pre <+: xs ∧ JP v pre h' A')
def postI (P : Program) (fn : Func) (X : World → Prop) (XP : Value → World → Prop) : Exit → Act → World → Prop := bodyPost P fn fun e w' => ((∃ v, e = .returned v) ∧ X w') ∨ ∃ v, e = .panicked (up1 v) ∧ XP v w'
/-! ### The statement -/
def RPX {α : Type} (J : List α → Base → Asrt → Prop) (Jx : Code → List α → Base → Asrt → Prop) (JP : Value → List α → Base → Asrt → Prop) (pre : List α) (h : Base) (R : List Asrt) : Exit → Act → World → Prop
 | .normal, _, w => ∃ h' A', h.le h' ∧ J pre h' A' ∧ Ok h' (A' :: R) w
 | .ret, _, w => ∃ h' A', h.le h' ∧ Jx .ret pre h' A' ∧ Ok h' (A' :: R) w
 | .exit id, _, w => ∃ h' A', h.le h' ∧ Jx (.exit id) pre h' A' ∧ Ok h' (A' :: R) w
 | .goto q, _, w => ∃ h' A', h.le h' ∧ Jx (.goto q) pre h' A' ∧ Ok h' (A' :: R) w
 | .panic ch, a, w => a.defers = [] ∧ ∃ v, ch = up1 v ∧ ∃ h' A', h.le h' ∧ JP v pre h' A' ∧ Ok h' (A' :: R) w
 | .outgrown, _, _ => False
end
/-! ### Ranges and their marks -/
section
variable {P : Program} {n : NN} {Q : Exit → Act → World → Prop} {E : Env} {h h' h0 : Base} {H K R F : List Asrt} {ops : Array Oper} {rest : List Oper}
def marksA (Ds : List Nat) : List Asrt := Ds.map fun D => objA D (.deferred (some []))
def postMX (P : Program) (fn : Func) (R RX : Value → World → Prop) : Exit → Act → World → Prop := bodyPostM Fence.wide 0 P fn fun e w' => (∃ v, e = .returned v ∧ R v w') ∨ ∃ v, e = .panicked (up1 v) ∧ RX v w'
end
end Go.K
end

section
namespace Go.K
open Go
set_option linter.unusedVariables false
set_option linter.unusedSimpArgs false
set_option linter.unusedSectionVars false
section
variable {P : Program} {n : NN} {Q : Exit → Act → World → Prop} {E : Env} {h h' h0 : Base} {H K R F : List Asrt} {ops : Array Oper} {rest : List Oper}
variable {op : Op} {t t' ty : TypeId} {ps : String} {af : Array Edge} {d i b : Nat} {v : Value} {x y : Operand} {dst : Option Nat} {g : Option (Nat × Bool)} {dd : TypeDesc}
def isFn : TypeDesc → Bool | .func _ _ _ => true | _ => false
def isIfc : TypeDesc → Bool | .interface _ => true | _ => false
theorem p_makeFuncB {f : FuncId} {fst caps : List Operand} {vs us : List Value} (hf : evArgs E fst = some vs) (ha : evArgs E caps = some us) : Pu P n E h K ⟨dst, .makeFunc (.func f) fst.toArray caps.toArray, ty, ps, af, g⟩ (.func (.func f) vs.toArray us.toArray) :=
 ⟨fun s w fa _ => by
  have h1 := evArgs_eval fa caps us ha
  have h2 := evArgs_eval fa fst vs hf
  simp [execOp, Instr.makeFunc, h1, h2]⟩

/-! ### Nothing comes up -/
def QN (Q : Exit → Act → World → Prop) : Exit → Act → World → Prop
 | .panic _, _, _ => False
 | e, a, w => Q e a w
end
end Go.K
end

section
namespace Go.K
open Go
set_option linter.unusedVariables false
set_option linter.unusedSimpArgs false
set_option linter.unusedSectionVars false
section
variable {P : Program} {n : NN} {Q : Exit → Act → World → Prop} {E : Env} {h h' h0 : Base} {H K R F : List Asrt} {ops : Array Oper} {rest : List Oper}
variable {op : Op} {t t2 ty : TypeId} {ps : String} {af : Array Edge} {d : Nat} {v : Value} {x y : Operand} {dst : Option Nat}
end
end Go.K
end
