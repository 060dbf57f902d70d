/-
  KP: calls that may panic: a triple with a second answer. Generic over the program. Conditions: none.
-/
import Derived.Test.YtahdbncfegedjaaKY
import Derived.Defers
import Derived.Recover
namespace Go.K
open Go
set_option linter.unusedVariables false
set_option linter.unusedSimpArgs false

/-- What comes up, not caught yet. -/
abbrev up1 (v : Value) : List PanicEntry := [{ v := v, recovered := false }]
/-- A triple that may end in a panic. -/
def TrX (P : Program) (f : FuncId) (args : List Value) (h : Base) (Pre : List Asrt) (Post PX : Value → Base → List Asrt → Prop) : Prop :=
  ∀ F w, Ok h (Pre ++ F) w → Calls P f args.toArray w fun e w' => (∃ v, e = .returned v ∧ ∃ h' H', h.le h' ∧ Post v h' H' ∧ Ok h' (H' ++ F) w') ∨ ∃ v, e = .panicked (up1 v) ∧ ∃ h' H', h.le h' ∧ PX v h' H' ∧ Ok h' (H' ++ F) w'
def postX (P : Program) (fn : Func) (R RX : Value → World → Prop) : Exit → Act → World → Prop := bodyPost P fn fun e w' => (∃ v, e = .returned v ∧ R v w') ∨ ∃ v, e = .panicked (up1 v) ∧ RX v w'
theorem Tr.x {P : Program} {f : FuncId} {args : List Value} {h : Base} {Pre : List Asrt} {Post PX : Value → Base → List Asrt → Prop} (ht : Tr P f args h Pre Post) : TrX P f args h Pre Post PX := fun F w ok =>
  Calls.mono (ht F w ok) fun e w' ⟨v, he, hh⟩ => .inl ⟨v, he, hh⟩
theorem enterX {P : Program} {h : Base} {f : FuncId} {args : List Value} {fn : Func} {c : Code} {Pre : List Asrt} {Post PX : Value → Base → List Asrt → Prop} (hf : P.funcs[f]? = some fn) (hb : fn.body = some c) (hn : args.length ≤ fn.ntmps)
    (hx : ∀ F, WC P fn.ntmps c (postX P fn (fun v w' => ∃ h' H', h.le h' ∧ Post v h' H' ∧ Ok h' (H' ++ F) w') (fun v w' => ∃ h' H', h.le h' ∧ PX v h' H' ∧ Ok h' (H' ++ F) w')) (args0 0 args) h (Pre ++ F)) : TrX P f args h Pre Post PX :=
  fun F w ok => calls_of_wp hf hb ((hx F).run _ w (Fr.enter _ _ hn) ok)
section
variable {P : Program} {n : NN} {Q : Exit → Act → World → Prop} {E : Env} {h : Base} {H : List Asrt} {ops : Array Oper} {rest : List Oper}
variable {d : Nat} {ty : TypeId} {ps : String} {af : Array Edge}
theorem a_then_panic {K : Act → World → Prop} {ch : List PanicEntry} (hx : AT P n Q (.panic ch) E h H) : AT P n (Exit.then K Q) (.panic ch) E h H := ⟨hx.run⟩
theorem a_block_panic {id : Nat} {ch : List PanicEntry} (hx : AT P n Q (.panic ch) E h H) : AT P n (Exit.inBlock id Q) (.panic ch) E h H := ⟨hx.run⟩
theorem l_callX {f : FuncId} {args : List Operand} {vals : List Value} {ats : Array TypeId} {Pre F : List Asrt} {Post PX : Value → Base → List Asrt → Prop} (hc : Callable P f) (ha : evArgs E args = some vals) (ht : TrX P f vals h Pre Post PX)
    (hp : H.Perm (Pre ++ F)) (hd : Nat.blt d n = true) (hx : ∀ v h' H', h.le h' → PX v h' H' → AT P n Q (.panic (up1 v)) E h' (H' ++ F)) (hk : ∀ v h' H', h.le h' → Post v h' H' → WL P n ops Q rest ((d, v) :: E) h' (H' ++ F)) :
    WL P n ops Q (⟨some d, .call ⟨.value (.func f), args.toArray, ats⟩, ty, ps, af, none⟩ :: rest) E h H :=
  ⟨fun a w fa ok => wpList_plain rfl fun K hK => by
    unfold Oper.wp
    rw [run_call hc fa ha, Oper.upon_enter]
    refine Calls.mono (ht F w (ok.perm hp)) ?_
    rintro e w' (⟨v, rfl, h', H', hle, hP, ok'⟩ | ⟨v, rfl, h', H', hle, hP, ok'⟩)
    · exact hK _ _ ((hk v h' H' hle hP).run _ _ (fa.put v hd) ok')
    · exact (hx v h' H' hle hP).run _ _ fa ok'⟩
theorem l_callX0 {f : FuncId} {args : List Operand} {vals : List Value} {ats : Array TypeId} {Pre F : List Asrt} {Post PX : Value → Base → List Asrt → Prop} (hc : Callable P f) (ha : evArgs E args = some vals) (ht : TrX P f vals h Pre Post PX)
    (hp : H.Perm (Pre ++ F)) (hx : ∀ v h' H', h.le h' → PX v h' H' → AT P n Q (.panic (up1 v)) E h' (H' ++ F)) (hk : ∀ v h' H', h.le h' → Post v h' H' → WL P n ops Q rest E h' (H' ++ F)) :
    WL P n ops Q (⟨none, .call ⟨.value (.func f), args.toArray, ats⟩, ty, ps, af, none⟩ :: rest) E h H :=
  ⟨fun a w fa ok => wpList_plain rfl fun K hK => by
    unfold Oper.wp
    rw [run_call hc fa ha, Oper.upon_enter]
    refine Calls.mono (ht F w (ok.perm hp)) ?_
    rintro e w' (⟨v, rfl, h', H', hle, hP, ok'⟩ | ⟨v, rfl, h', H', hle, hP, ok'⟩)
    · exact hK _ _ ((hk v h' H' hle hP).run _ _ fa ok')
    · exact (hx v h' H' hle hP).run _ _ fa ok'⟩
/-- The end of a function that is told by such a triple. -/
theorem doneX {fn : Func} {e : Exit} {F H' : List Asrt} {h0 : Base} {Post PX : Value → Base → List Asrt → Prop} {vs : List Value} (he : e = .ret ∨ e = .normal) (hr : resV E fn.results.toList = some vs)
    (hle : h0.le h) (hH : H = H' ++ F) (hP : Post (packV vs) h H') (hn : n.ds = [] := by rfl) : AT P n (postX P fn (fun v w' => ∃ h' H', h0.le h' ∧ Post v h' H' ∧ Ok h' (H' ++ F) w') (fun v w' => ∃ h' H', h0.le h' ∧ PX v h' H' ∧ Ok h' (H' ++ F) w')) e E h H :=
  ⟨fun a w fa ok => by
    subst hH
    rcases he with rfl | rfl <;> exact ⟨fa.defers.trans hn, packV vs, run_results fa hr, .inl ⟨_, rfl, h, H', hle, hP, ok⟩⟩⟩
/-- What comes up out of it. -/
theorem upX {fn : Func} {F H' : List Asrt} {h0 : Base} {Post PX : Value → Base → List Asrt → Prop} {v : Value} (hle : h0.le h) (hH : H = H' ++ F) (hP : PX v h H') (hn : n.ds = [] := by rfl) :
    AT P n (postX P fn (fun v w' => ∃ h' H', h0.le h' ∧ Post v h' H' ∧ Ok h' (H' ++ F) w') (fun v w' => ∃ h' H', h0.le h' ∧ PX v h' H' ∧ Ok h' (H' ++ F) w')) (.panic (up1 v)) E h H :=
  ⟨fun a w fa ok => by
    subst hH
    exact ⟨fa.defers.trans hn, .inr ⟨v, rfl, h, H', hle, hP, ok⟩⟩⟩
end
end Go.K
