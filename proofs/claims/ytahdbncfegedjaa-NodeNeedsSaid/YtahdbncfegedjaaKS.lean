/-
  KS: what comes up is caught; ranges over functions whose body may let something come up. Generic over the program. Conditions: each theorem's own.
-/
import Derived.Test.YtahdbncfegedjaaKP
import Derived.Test.YtahdbncfegedjaaKR
namespace Go.K
open Go
set_option linter.unusedVariables false
set_option linter.unusedSimpArgs false
set_option linter.unusedSectionVars false

section
variable {P : Program} {n : NN} {Q : Exit → Act → World → Prop} {E : Env} {h h' h0 : Base} {H K R F : List Asrt} {ops : Array Oper} {rest : List Oper}
variable {op : Op} {t t' ty : TypeId} {ps : String} {af : Array Edge} {d i b : Nat} {v : Value} {x y : Operand} {dst : Option Nat} {g : Option (Nat × Bool)} {ro : Option Nat}

theorem l_panic {ut : TypeId} {u : Value} (hx : lkO E x = some (.iface ut u)) (hk : AT P n Q (.panic (up1 (.iface ut u))) E h H) : WL P n ops Q (⟨dst, .panic x, ty, ps, af, none⟩ :: rest) E h H :=
  ⟨fun a w fa ok => wpList_plain rfl fun K hK => by
    unfold Oper.wp
    have : (execOp a.eval ⟨dst, .panic x, ty, ps, af, none⟩).run P w = .halt (.panic (.iface ut u)) w := by
      simp only [execOp, fa.eval hx, Instr.panic, goPanic]
      rfl
    rw [this]
    exact hk.run _ _ fa ok⟩
/-- What is captured may stand on both sides. -/
theorem run_callB {f : FuncId} {args : List Operand} {vals fst caps : List Value} {ats : Array TypeId} {a : Act} {w : World} (hc : Callable P f) (fa : Fr n E a) (hx : lkO E x = some (.func (.func f) fst.toArray caps.toArray)) (ha : evArgs E args = some vals) :
    (execOp a.eval ⟨dst, .call ⟨.value x, args.toArray, ats⟩, ty, ps, af, g⟩).run P w = .ok (.enter f (fst ++ vals ++ caps).toArray) w := by
  have h1 := evArgs_eval fa args vals ha
  have h2 : args.toArray.map a.eval = vals.toArray := by rw [List.map_toArray, h1]
  simp only [execOp, resolve, fa.eval hx, Deferred.ofValue, h2, Sem.run_bind, Sem.run_pure, Result.andThen_ok, invoke]
  simp only [List.append_toArray]
  exact hc _ _
theorem l_callB {f : FuncId} {args : List Operand} {vals fst caps : List Value} {ats : Array TypeId} {Pre F : List Asrt} {Post : Value → Base → List Asrt → Prop} (hc : Callable P f) (hx : lkO E x = some (.func (.func f) fst.toArray caps.toArray)) (ha : evArgs E args = some vals) (ht : Tr P f (fst ++ vals ++ caps) h Pre Post)
    (hp : H.Perm (Pre ++ F)) (hd : Nat.blt d n = true) (hk : ∀ v h' H', h.le h' → Post v h' H' → WL P n ops Q rest ((d, v) :: E) h' (H' ++ F)) :
    WL P n ops Q (⟨some d, .call ⟨.value x, args.toArray, ats⟩, ty, ps, af, none⟩ :: rest) E h H :=
  ⟨fun a w fa ok => wpList_plain rfl fun K hK => by
    unfold Oper.wp
    rw [run_callB hc fa hx ha, Oper.upon_enter]
    refine Calls.mono (ht F w (ok.perm hp)) ?_
    rintro e w' ⟨v, rfl, h', H', hle, hP, ok'⟩
    exact hK _ _ ((hk v h' H' hle hP).run _ _ (fa.put v hd) ok')⟩
theorem l_callXB {f : FuncId} {args : List Operand} {vals fst caps : List Value} {ats : Array TypeId} {Pre F : List Asrt} {Post PX : Value → Base → List Asrt → Prop} (hc : Callable P f) (hx : lkO E x = some (.func (.func f) fst.toArray caps.toArray)) (ha : evArgs E args = some vals) (ht : TrX P f (fst ++ vals ++ caps) h Pre Post PX)
    (hp : H.Perm (Pre ++ F)) (hd : Nat.blt d n = true) (hX : ∀ v h' H', h.le h' → PX v h' H' → AT P n Q (.panic (up1 v)) E h' (H' ++ F)) (hk : ∀ v h' H', h.le h' → Post v h' H' → WL P n ops Q rest ((d, v) :: E) h' (H' ++ F)) :
    WL P n ops Q (⟨some d, .call ⟨.value x, args.toArray, ats⟩, ty, ps, af, none⟩ :: rest) E h H :=
  ⟨fun a w fa ok => wpList_plain rfl fun K hK => by
    unfold Oper.wp
    rw [run_callB hc fa hx ha, Oper.upon_enter]
    refine Calls.mono (ht F w (ok.perm hp)) ?_
    rintro e w' (⟨v, rfl, h', H', hle, hP, ok'⟩ | ⟨v, rfl, h', H', hle, hP, ok'⟩)
    · exact hK _ _ ((hk v h' H' hle hP).run _ _ (fa.put v hd) ok')
    · exact (hX v h' H' hle hP).run _ _ fa ok'⟩
theorem l_callXB0 {f : FuncId} {args : List Operand} {vals fst caps : List Value} {ats : Array TypeId} {Pre F : List Asrt} {Post PX : Value → Base → List Asrt → Prop} (hc : Callable P f) (hx : lkO E x = some (.func (.func f) fst.toArray caps.toArray)) (ha : evArgs E args = some vals) (ht : TrX P f (fst ++ vals ++ caps) h Pre Post PX)
    (hp : H.Perm (Pre ++ F)) (hX : ∀ v h' H', h.le h' → PX v h' H' → AT P n Q (.panic (up1 v)) E h' (H' ++ F)) (hk : ∀ v h' H', h.le h' → Post v h' H' → WL P n ops Q rest E h' (H' ++ F)) :
    WL P n ops Q (⟨none, .call ⟨.value x, args.toArray, ats⟩, ty, ps, af, none⟩ :: rest) E h H :=
  ⟨fun a w fa ok => wpList_plain rfl fun K hK => by
    unfold Oper.wp
    rw [run_callB hc fa hx ha, Oper.upon_enter]
    refine Calls.mono (ht F w (ok.perm hp)) ?_
    rintro e w' (⟨v, rfl, h', H', hle, hP, ok'⟩ | ⟨v, rfl, h', H', hle, hP, ok'⟩)
    · exact hK _ _ ((hk v h' H' hle hP).run _ _ fa ok')
    · exact (hX v h' H' hle hP).run _ _ fa ok'⟩
theorem TrX.ok {f : FuncId} {args : List Value} {Pre : List Asrt} {Post PX : Value → Base → List Asrt → Prop} (ht : TrX P f args h Pre Post PX) (hn : ∀ v h' H', ¬ PX v h' H') : Tr P f args h Pre Post := fun F w ok =>
  Calls.mono (ht F w ok) fun e w' he => by
    rcases he with ⟨v, he, hh⟩ | ⟨v, he, h', H', _, hP, _⟩
    · exact ⟨v, he, hh⟩
    · exact absurd hP (hn _ _ _)
theorem TrX.mono {f : FuncId} {args : List Value} {Pre : List Asrt} {Post PX Post' PX' : Value → Base → List Asrt → Prop} (ht : TrX P f args h Pre Post PX) (h1 : ∀ v h' H', h.le h' → Post v h' H' → Post' v h' H') (h2 : ∀ v h' H', h.le h' → PX v h' H' → PX' v h' H') : TrX P f args h Pre Post' PX' := fun F w ok =>
  Calls.mono (ht F w ok) fun e w' he => by
    rcases he with ⟨v, he, h', H', hle, hP, ok'⟩ | ⟨v, he, h', H', hle, hP, ok'⟩
    · exact .inl ⟨v, he, h', H', hle, h1 _ _ _ hle hP, ok'⟩
    · exact .inr ⟨v, he, h', H', hle, h2 _ _ _ hle hP, ok'⟩

/-! ### What is put off; what catches -/
theorem l_defer {fc : FuncId} {caps : List Value} {ats : Array TypeId} (hx : lkO E x = some (.func (.func fc) #[] caps.toArray)) (hk : WL P ⟨n.n, { target := .fn (.func fc) caps.toArray, args := #[] } :: n.ds⟩ ops Q rest E h H) :
    WL P n ops Q (⟨none, .defer ⟨.value x, #[], ats⟩, ty, ps, af, none⟩ :: rest) E h H :=
  ⟨fun a w fa ok => wpList_plain rfl fun K hK => by
    unfold Oper.wp
    have : (execOp a.eval ⟨none, .defer ⟨.value x, #[], ats⟩, ty, ps, af, none⟩).run P w = .ok (.defer { target := .fn (.func fc) caps.toArray, args := #[] }) w := by
      simp [execOp, resolve, fa.eval hx, Deferred.ofValue, Sem.run_bind, Sem.run_pure, Result.andThen_ok]
    rw [this, Oper.upon_defer]
    exact hK _ _ (hk.run _ _ ⟨fa.size, by simp [Act.put, fa.defers], fa.get⟩ ok)⟩
def postD (P : Program) (fn : Func) (R : Value → World → Prop) : Exit → Act → World → Prop := bodyPostD P fn fun e w' => ∃ v, e = .returned v ∧ R v w'
theorem enterD {f : FuncId} {args : List Value} {fn : Func} {c : Code} {Pre : List Asrt} {Post : Value → Base → List Asrt → Prop} (hf : P.funcs[f]? = some fn) (hb : fn.body = some c) (hn : args.length ≤ fn.ntmps)
    (hx : ∀ F, WC P fn.ntmps c (postD P fn fun v w' => ∃ h' H', h.le h' ∧ Post v h' H' ∧ Ok h' (H' ++ F) w') (args0 0 args) h (Pre ++ F)) : Tr P f args h Pre Post :=
  fun F w ok => calls_of_wp_defers hf hb ((hx F).run _ w (Fr.enter _ _ hn) ok)
/-- A call put off, of a frame that leaves so. -/
def TrD (P : Program) (f : FuncId) (args : List Value) (u : FrameMode) (h : Base) (Pre : List Asrt) (Post : FrameMode → Base → List Asrt → Prop) : Prop :=
  ∀ F w, Ok h (Pre ++ F) w → CallsD P f args.toArray u w fun e u' w' => (∃ v, e = .returned v) ∧ ∃ h' H', h.le h' ∧ Post u' h' H' ∧ Ok h' (H' ++ F) w'
def modeOf : Exit → FrameMode
  | .panic ch => .panicking ch
  | _ => .returning
theorem endD {fn : Func} {e : Exit} {fc : FuncId} {caps : List Value} {h0 : Base} {F F0 Pre : List Asrt} {Post : Value → Base → List Asrt → Prop} {PD : FrameMode → Base → List Asrt → Prop} (he : e = .ret ∨ e = .normal ∨ ∃ ch, e = .panic ch)
    (hn : n.ds = [{ target := .fn (.func fc) caps.toArray, args := #[] }]) (hcal : Callable P fc) (ht : TrD P fc caps (modeOf e) h Pre PD) (hp : H.Perm (Pre ++ F))
    (hk : ∀ u' h' H', h.le h' → PD u' h' H' → settle u' = .returning ∧ ∃ vs D H'', ResC P E h' (H' ++ F) fn.results.toList vs ∧ H' ++ F = D ++ (H'' ++ F0) ∧ h0.le h' ∧ Post (packV vs) h' H'') :
    AT P n (postD P fn fun v w' => ∃ h' H', h0.le h' ∧ Post v h' H' ∧ Ok h' (H' ++ F0) w') e E h H :=
  ⟨fun a w fa ok => by
    have key : Leaves P fn a.tmps (fun e w' => ∃ v, e = .returned v ∧ ∃ h' H', h0.le h' ∧ Post v h' H' ∧ Ok h' (H' ++ F0) w') a.defers (modeOf e) w := by
      rw [fa.defers, hn]
      refine leaves_cons (f := fc) (args := caps.toArray) ?_ ?_ ?_
      · rcases he with rfl | rfl | ⟨ch, rfl⟩ <;> simp [modeOf]
      · have := hcal caps.toArray w
        simpa [invoke] using this
      · refine CallsD.mono (ht F w (ok.perm hp)) ?_
        rintro e u' w' ⟨⟨v, rfl⟩, h', H', hle, hP, ok'⟩
        obtain ⟨hs, vs, D, H'', hr, hH, hle0, hPP⟩ := hk u' h' H' hle hP
        show Leaves P fn a.tmps _ [] (settle u') w'
        rw [hs]
        exact ⟨packV vs, run_resC fa ok'.sat hr, _, rfl, h', H'', hle0, hPP, (hH ▸ ok').drops⟩
    rcases he with rfl | rfl | ⟨ch, rfl⟩ <;> exact key⟩

def postS (P : Program) (fn : Func) (R : World → Prop) : Exit → Act → World → Prop
  | .normal, a, w | .ret, a, w => a.defers = [] ∧ (∃ v, (results fn a.tmps).run P w = .ok v w) ∧ R w
  | _, _, _ => False
theorem postS_noPanic {fn : Func} {R : World → Prop} : NoPanic (postS P fn R) := fun c a w d v hx => hx
theorem a_postS {fn : Func} {e : Exit} {R : World → Prop} {vs : List Value} (he : e = .ret ∨ e = .normal) (hr : resV E fn.results.toList = some vs) (hR : ∀ w, Ok h H w → R w) (hn : n.ds = [] := by rfl) : AT P n (postS P fn R) e E h H :=
  ⟨fun a w fa ok => by
    rcases he with rfl | rfl <;> exact ⟨fa.defers.trans hn, ⟨_, run_results fa hr⟩, hR w ok⟩⟩
theorem trD_of {f : FuncId} {args : List Value} {fn : Func} {rest : Code} {id t6 t2 : Nat} {ats : Array TypeId} {ty1 ty2 : TypeId} {ps1 ps2 : String} {af1 af2 : Array Edge} {u u' : FrameMode} {v : Value} {Pre : List Asrt} {Post : Base → List Asrt → Prop}
    (hf : P.funcs[f]? = some fn) (hb : fn.body = some (.seq (.region id #[⟨some t6, .call ⟨.builtin .recover, #[], ats⟩, ty1, ps1, af1, none⟩, ⟨some t2, .assign (.tmp t6), ty2, ps2, af2, none⟩] false) rest)) (hn : args.length ≤ fn.ntmps)
    (hd6 : Nat.blt t6 fn.ntmps = true) (hd2 : Nat.blt t2 fn.ntmps = true)
    (hu : (u = .returning ∧ u' = .returning ∧ v = .nilIface) ∨ ∃ older, u = .panicking ({ v := v, recovered := false } :: older) ∧ u' = .panicking ({ v := v, recovered := true } :: older))
    (hx : ∀ F, WC P fn.ntmps rest (postS P fn fun w' => ∃ h' H', h.le h' ∧ Post h' H' ∧ Ok h' (H' ++ F) w') ((t2, v) :: (t6, v) :: args0 0 args) h (Pre ++ F)) :
    TrD P f args u h Pre (fun u1 h' H' => u1 = u' ∧ Post h' H') := fun F w ok => by
  refine callsD_of_wpS hf hb fun c₀ cs hm => ?_
  apply wpS_seq
  apply wpS_region
  have fa0 := Fr.enter fn.ntmps args hn
  have fa1 := fa0.put (d := t6) v hd6
  have fa2 := fa1.put (d := t2) v hd2
  generalize ({ tmps := args.toArray ++ Array.replicate (fn.ntmps - args.toArray.size) undef, defers := [] } : Act) = a0 at fa0 fa1 fa2 ⊢
  have hr : ∀ (a : Act) (w : World), (execOp a.eval ⟨some t6, .call ⟨.builtin .recover, #[], ats⟩, ty1, ps1, af1, none⟩).run P w = .ok .recover w := fun a w => rfl
  have he : a0.put (some t6) v = a0.put (some t6) v := rfl
  have hrec : ∃ cs', cs' = ({ c₀ with mode := u' } :: cs) ∧ ((recoverD (c₀ :: cs) = some (v, cs')) ∨ (recoverD (c₀ :: cs) = none ∧ cs' = c₀ :: cs ∧ v = .nilIface)) := by
    rcases hu with ⟨rfl, rfl, rfl⟩ | ⟨older, rfl, rfl⟩
    · refine ⟨_, rfl, .inr ⟨by simp [recoverD, hm], ?_, rfl⟩⟩
      cases c₀; simp_all
    · exact ⟨_, rfl, .inl (by simp [recoverD, hm])⟩
  obtain ⟨cs', hcs, hrec⟩ := hrec
  have hrest : rest.wpS P (bodyPostS P fn c₀ cs fun e u1 w' => (∃ v, e = .returned v) ∧ ∃ h' H', h.le h' ∧ (u1 = u' ∧ Post h' H') ∧ Ok h' (H' ++ F) w') ((a0.put (some t6) v).put (some t2) v) cs' w := by
    refine wpS_of_wp (wp_mono ((hx F).run _ w fa2 ok) ?_)
    intro e a w' hq
    cases e with
    | normal =>
      obtain ⟨h1, ⟨v', h2⟩, h', H', hle, hP, ok'⟩ := hq
      exact ⟨h1, u', hcs, v', h2, ⟨v', rfl⟩, h', H', hle, ⟨rfl, hP⟩, ok'⟩
    | ret =>
      obtain ⟨h1, ⟨v', h2⟩, h', H', hle, hP, ok'⟩ := hq
      exact ⟨h1, u', hcs, v', h2, ⟨v', rfl⟩, h', H', hle, ⟨rfl, hP⟩, ok'⟩
    | exit id => exact hq.elim
    | goto l => exact hq.elim
    | panic ch => exact hq.elim
    | outgrown => exact hq.elim
  have hev : (a0.put (some t6) v).eval (.tmp t6) = v := fa1.eval (x := .tmp t6) (by simp [lkO, lk, Nat.beq_refl])
  have step2 : ∀ cs1, (cs1 = cs') → wpOpsS P #[⟨some t6, .call ⟨.builtin .recover, #[], ats⟩, ty1, ps1, af1, none⟩, ⟨some t2, .assign (.tmp t6), ty2, ps2, af2, none⟩] (Exit.thenS (rest.wpS P (bodyPostS P fn c₀ cs fun e u1 w' => (∃ v, e = .returned v) ∧ ∃ h' H', h.le h' ∧ (u1 = u' ∧ Post h' H') ∧ Ok h' (H' ++ F) w')) (bodyPostS P fn c₀ cs fun e u1 w' => (∃ v, e = .returned v) ∧ ∃ h' H', h.le h' ∧ (u1 = u' ∧ Post h' H') ∧ Ok h' (H' ++ F) w')) [1] (a0.put (some t6) v) cs1 w := by
    rintro cs1 rfl
    have h2 : (execOp (a0.put (some t6) v).eval ⟨some t2, .assign (.tmp t6), ty2, ps2, af2, none⟩).run P w = .ok (.value v) w := by
      simp only [execOp, hev]; rfl
    simp only [wpOpsS]
    rw [show (#[(⟨some t6, .call ⟨.builtin .recover, #[], ats⟩, ty1, ps1, af1, none⟩ : Oper), ⟨some t2, .assign (.tmp t6), ty2, ps2, af2, none⟩])[1]? = some ⟨some t2, .assign (.tmp t6), ty2, ps2, af2, none⟩ from rfl]
    simp only [Region.wanted, if_true, h2, Oper.upon]
    exact hrest
  have e0 : List.range (#[(⟨some t6, .call ⟨.builtin .recover, #[], ats⟩, ty1, ps1, af1, none⟩ : Oper), ⟨some t2, .assign (.tmp t6), ty2, ps2, af2, none⟩]).size = [0, 1] := rfl
  rw [e0]
  unfold wpOpsS
  rw [show (#[(⟨some t6, .call ⟨.builtin .recover, #[], ats⟩, ty1, ps1, af1, none⟩ : Oper), ⟨some t2, .assign (.tmp t6), ty2, ps2, af2, none⟩])[0]? = some ⟨some t6, .call ⟨.builtin .recover, #[], ats⟩, ty1, ps1, af1, none⟩ from rfl]
  simp only [Region.wanted, if_true, hr]
  rcases hrec with e | ⟨e, e1, e2⟩
  · rw [e]; exact step2 _ rfl
  · rw [e]; subst e2; exact step2 _ e1.symm
end
/-! ### Code in a sane frame -/
def wpB (P : Program) (c : Code) (Q : Exit → Act → World → Prop) (a : Act) (w : World) : Prop :=
  ∀ (b : Frame) (k : List Item) (cs : List Frame), (∃ fn, P.funcs[b.fn]? = some fn) → ∃ e a' w', Q e a' w' ∧ Arrives P (lone (b.at a (.code c :: k)) cs w) b k cs e a' w'
section
variable {P : Program} {n : NN} {Q : Exit → Act → World → Prop} {E : Env} {h h' h0 : Base} {H K R F : List Asrt} {ops : Array Oper} {rest : List Oper}
variable {op : Op} {t t' ty : TypeId} {ps : String} {af : Array Edge} {d i b : Nat} {v : Value} {x y : Operand} {dst : Option Nat} {g : Option (Nat × Bool)} {ro : Option Nat}
structure WB (P : Program) (n : NN) (c : Code) (Q : Exit → Act → World → Prop) (E : Env) (h : Base) (H : List Asrt) : Prop where
  run : ∀ a w, Fr n E a → Ok h H w → wpB P c Q a w
theorem WB.of {c : Code} (hx : WC P n c Q E h H) : WB P n c Q E h H := ⟨fun a w fa ok b k cs _ => hx.run a w fa ok b k cs⟩
theorem b_seq {x y : Code} (hx : WB P n x (Exit.then (wpB P y Q) Q) E h H) : WB P n (.seq x y) Q E h H := ⟨fun a w fa ok b k cs hb => by
  obtain ⟨e, a₁, w₁, hq, harr⟩ := hx.run a w fa ok b (.code y :: k) cs hb
  cases e with
  | normal =>
    obtain ⟨e₂, a₂, w₂, hq₂, harr₂⟩ := hq b k cs hb
    exact ⟨e₂, a₂, w₂, hq₂, .of_steps (.head step_seq harr) harr₂⟩
  | exit id => exact ⟨_, a₁, w₁, hq, .of_steps (.one step_seq) (.pass (x := .code y) rfl (fun _ _ => .inl (by simp)) harr)⟩
  | goto l => exact ⟨_, a₁, w₁, hq, .of_steps (.one step_seq) (.pass (x := .code y) rfl (fun _ _ => .inl (by simp)) harr)⟩
  | ret => exact ⟨_, a₁, w₁, hq, .of_steps (.one step_seq) (.pass (x := .code y) rfl (fun _ _ => .inl (by simp)) harr)⟩
  | panic ch => exact ⟨_, a₁, w₁, hq, .of_steps (.one step_seq) (.pass (x := .code y) rfl (fun _ _ => .inl (by simp)) harr)⟩
  | outgrown => exact ⟨_, a₁, w₁, hq, .of_steps (.one step_seq) (.pass (x := .code y) rfl (fun _ _ => .inl (by simp)) harr)⟩⟩
theorem a_thenB {y : Code} {X : Exit → Act → World → Prop} (hx : WB P n y Q E h H) : AT P n (Exit.then (wpB P y Q) X) .normal E h H := ⟨hx.run⟩
theorem calls_of_wpB {f : FuncId} {fn : Func} {c : Code} {args : Array Value} {w : World} {R : Ending → World → Prop} (hf : P.funcs[f]? = some fn) (hb : fn.body = some c)
    (h : wpB P c (bodyPostM Fence.wide 0 P fn R) { tmps := args ++ Array.replicate (fn.ntmps - args.size) undef, defers := [] } w) : Calls P f args w R := by
  intro cs
  let b : Frame := { (default : Frame) with fn := f, kind := .normal }
  have henter : Frame.enter P f args .normal = b.at { tmps := args ++ Array.replicate (fn.ntmps - args.size) undef, defers := [] } [.code c] := by
    simp [Frame.enter, Frame.at, hf, hb, b]
  obtain ⟨e, a', w', hq, harr⟩ := h b [] cs ⟨fn, hf⟩
  rw [← henter] at harr
  cases e with
  | normal =>
    obtain ⟨e', w'', fr', hR, hs, hfn, hl⟩ := leaves_stepsInM (F := Fence.wide) (n := 0) a'.defers .returning w' { b.at a' [] with mode := .returning } cs rfl rfl rfl hf rfl trivial (room_wide _) hq
    exact ⟨e', w'', fr', hR, Comes.of_steps (Steps.trans harr (.one step_end)) (comesIn_wide.1 hs), hfn, hl⟩
  | ret =>
    obtain ⟨todo, hs₀⟩ := harr
    obtain ⟨e', w'', fr', hR, hs, hfn, hl⟩ := leaves_stepsInM (F := Fence.wide) (n := 0) a'.defers .returning w' { b.at a' todo with mode := .returning } cs rfl rfl rfl hf rfl trivial (room_wide _) hq
    exact ⟨e', w'', fr', hR, Comes.of_steps hs₀ (comesIn_wide.1 hs), hfn, hl⟩
  | panic chain =>
    obtain ⟨todo, hs₀⟩ := harr
    obtain ⟨e', w'', fr', hR, hs, hfn, hl⟩ := leaves_stepsInM (F := Fence.wide) (n := 0) a'.defers (.panicking chain) w' { b.at a' todo with mode := .panicking chain } cs rfl rfl rfl hf rfl trivial (room_wide _) hq
    exact ⟨e', w'', fr', hR, Comes.of_steps hs₀ (comesIn_wide.1 hs), hfn, hl⟩
  | exit id => exact hq.elim
  | goto l => exact hq.elim
  | outgrown => exact ⟨.outgrown, w', b, hq, harr.resolve_left (by simp [b]), rfl, trivial⟩

/-! ### A round that may let something come up -/
def roundPostX (P : Program) (l : Nat) (R : Ending → World → Prop) : Exit → Act → World → Prop
  | .normal, _, w => ∃ v w', (Instr.endRound l none).run P w = .ok v w' ∧ R (.returned v) w'
  | .ret, _, w => ∃ v w', (Instr.endRound l (some .ret)).run P w = .ok v w' ∧ R (.returned v) w'
  | .exit id, _, w => ∃ v w', (Instr.endRound l (some (.exit id))).run P w = .ok v w' ∧ R (.returned v) w'
  | .goto t, _, w => ∃ v w', (Instr.endRound l (some (.goto t))).run P w = .ok v w' ∧ R (.returned v) w'
  | .panic ch, a, w => a.defers = [] ∧ R (.panicked ch) w
  | .outgrown, _, _ => False
theorem roundIn_X {FF : Fence} {m : Nat} {l : Nat} {f : FuncId} {tmps : Array Value} {assign body : Code} {w : World} {R : Ending → World → Prop} (hF : FF.fn f) (hf : (∃ fn, P.funcs[f]? = some fn) ∨ ∀ ch w, ¬ R (.panicked ch) w)
    (h : assign.wpIn (FF.inRound l) m P (Exit.then (fun a₁ w₁ => ∃ w₂, (Instr.beginRound l).run P w₁ = .ok () w₂ ∧ body.wpIn (FF.inRound l) m P (roundPostX P l R) a₁ w₂) (fun _ _ _ => False)) { tmps := tmps, defers := [] } w) :
    RoundIn FF m P l f tmps assign body w R := by
  refine ⟨hF, fun c cs hr => ?_⟩
  let b : Frame := { (default : Frame) with fn := f, kind := .normal, roundOf := some l }
  have hb0 : Frame.round l f tmps assign body .normal = b.atR { tmps := tmps, defers := [] } [.code assign, .beginRound, .code body] := by
    simp [Frame.round, Frame.atR, b]
  have hr' : (FF.inRound l).room ((c :: cs).length + 1 + m) := hr
  have hF' : (FF.inRound l).fn b.fn := hF
  obtain ⟨e, a₁, w₁, hq, harr⟩ := h b [.beginRound, .code body] (c :: cs) rfl hF' hr'
  rw [← hb0] at harr
  cases e with
  | normal =>
    obtain ⟨w₂, hbr, hbody⟩ := hq
    have s1 : StepsIn (Machine.fenced P (FF.inRound l)) P (lone (b.atR a₁ [.beginRound, .code body]) (c :: cs) w₁) (lone (b.atR a₁ [.code body]) (c :: cs) w₂) :=
      .one (fenced_calm (fr := b.atR a₁ [.beginRound, .code body]) hF' hr' rfl) (stepR_beginRound rfl hbr)
    obtain ⟨e₂, a₂, w₃, hq₂, harr₂⟩ := hbody b [] (c :: cs) rfl hF' hr'
    cases e₂ with
    | normal =>
      obtain ⟨v, w₄, hend, hR⟩ := hq₂
      exact ⟨.returned v, w₄, hR, (StepsIn.trans harr s1).trans (StepsIn.trans harr₂ (.one (fenced_calm (fr := b.atR a₂ []) hF' hr' rfl) (stepR_round_end rfl rfl hend)))⟩
    | ret =>
      obtain ⟨v, w₄, hend, hR⟩ := hq₂
      obtain ⟨k₁, hs⟩ := harr₂.2 rfl
      exact ⟨.returned v, w₄, hR, (StepsIn.trans harr s1).trans (StepsIn.trans hs (.one (fenced_calm (fr := b.atR a₂ (.code .ret :: k₁)) hF' hr' rfl) (stepR_round_ret rfl rfl hend)))⟩
    | exit id =>
      obtain ⟨v, w₄, hend, hR⟩ := hq₂
      obtain ⟨k₁, hk, hs⟩ := harr₂.2 rfl rfl
      exact ⟨.returned v, w₄, hR, (StepsIn.trans harr s1).trans (StepsIn.trans hs (.one (fenced_calm (fr := b.atR a₂ (.code (.exit id) :: k₁)) hF' hr' rfl) (stepR_round_exit rfl rfl hk hend)))⟩
    | goto t =>
      obtain ⟨v, w₄, hend, hR⟩ := hq₂
      obtain ⟨k₁, hk, hs⟩ := harr₂.2 rfl rfl
      exact ⟨.returned v, w₄, hR, (StepsIn.trans harr s1).trans (StepsIn.trans hs (.one (fenced_calm (fr := b.atR a₂ (.code (.goto t) :: k₁)) hF' hr' rfl) (stepR_round_goto rfl rfl hk hend)))⟩
    | panic chain =>
      obtain ⟨hd, hR⟩ := hq₂
      obtain ⟨todo, hs⟩ := harr₂
      rcases hf with ⟨fn, hf⟩ | hf
      · have hl : ({ b.atR a₂ todo with mode := .panicking chain } : Frame).leaving P w₃ (.panicked chain) := ⟨rfl, hd, fn, hf⟩
        exact ⟨.panicked chain, w₃, hR, (StepsIn.trans harr s1).trans (StepsIn.trans hs (.one (fenced_leaving hF' hr' hl) (step_leave_panicked hl)))⟩
      · exact absurd hR (hf _ _)
    | outgrown => exact hq₂.elim
  | exit id => exact hq.elim
  | goto t => exact hq.elim
  | ret => exact hq.elim
  | panic chain => exact hq.elim
  | outgrown => exact hq.elim

/-- The statement, in one frame. -/
theorem rangeFunc_at {gg : Operand} {pp : Array Tmp} {assign body : Code} {bf : Frame} {k : List Item} {cs : List Frame} {a : Act} {w : World} (hro : bf.roundOf = none)
    (h : ∃ (l : Nat) (mk : List Deferred) (w₁ : World) (d : Deferred) (w₁' : World) (f : FuncId) (args : Array Value) (w₂ : World),
      (Instr.enterLoop bf.fn a.tmps pp assign body none).run P w = .ok (l, mk) w₁ ∧ (resolve a.eval (rangeCall gg l) 0).run P w₁ = .ok d w₁' ∧ (invoke d.target d.args).run P w₁' = .ok (.enter f args) w₂ ∧
      Calls P f args w₂ fun e w₃ => (∃ v, e = .returned v ∧ ∃ jump w₄, (Instr.endLoop l).run P w₃ = .ok jump w₄ ∧ match jump with
        | none => Q .normal { a with defers := mk ++ a.defers } w₄
        | some c => c.wp P Q { a with defers := mk ++ a.defers } w₄) ∨ ∃ ch, e = .panicked ch ∧ Q (.panic ch) { a with defers := mk ++ a.defers } w₃) :
    ∃ e a' w', Q e a' w' ∧ Arrives P (lone (bf.at a (.code (.rangeFunc gg pp assign body) :: k)) cs w) bf k cs e a' w' := by
  obtain ⟨l, mk, w₁, d, w₁', f, args, w₂, he, hres, hinv, hcall⟩ := h
  have henter := stepR_rangeFunc (P := P) (b := bf) (a := a) (k := k) (cs := cs) (w := w) (by rw [hro]; exact he) hres hinv
  obtain ⟨e, w₃, fr, hR, hsteps, hfn, hleave⟩ := hcall (bf.atR { a with defers := mk ++ a.defers } (.inRangeFunc l :: k) :: cs)
  have e1 : ∀ a k, bf.atR a k = bf.at a k := fun a k => Frame.atR_of_none hro a k
  rcases hR with ⟨v, rfl, jump, w₄, hend, hj⟩ | ⟨ch, rfl, hR⟩
  · have sback : Steps P (lone (bf.at a (.code (.rangeFunc gg pp assign body) :: k)) cs w) (lone (bf.at { a with defers := mk ++ a.defers } ((jump.map Item.code).toList ++ k)) cs w₄) := by
      rw [← e1, ← e1]
      refine .head henter (Steps.trans hsteps (.head ?_ (.one (stepR_endRangeFunc hend))))
      rw [← finish_atR_inRangeFunc l v]; exact step_leave_returned hleave
    cases jump with
    | none => exact ⟨.normal, _, w₄, hj, sback⟩
    | some c =>
      obtain ⟨e', a'', w₅, hq, harr⟩ := hj bf k cs
      exact ⟨e', a'', w₅, hq, .of_steps sback harr⟩
  · refine ⟨.panic ch, _, w₃, hR, .inRangeFunc l :: k, ?_⟩
    rw [← e1, ← e1]
    refine .head henter (Steps.trans hsteps (.one ?_))
    rw [← Frame.raise_atR]; exact step_leave_panicked hleave

/-! ### What an iterator promises -/
def YieldX (P : Program) (l : Nat) {α : Type} (Enc : Base → α → List Value → Prop) (J Jx : List α → Base → Asrt → Prop) (JP : Value → List α → Base → Asrt → Prop) (xs : List α) : Prop :=
  ∀ pre x h args A R w, pre ++ [x] <+: xs → Enc h x args → J pre h A → Ok h (A :: R) w →
    YieldAt (Wd none) 0 P l args.toArray w fun e w' => ∃ h' A', h.le h' ∧ Ok h' (A' :: R) w' ∧ ((e = .returned (.bool true) ∧ J (pre ++ [x]) h' A') ∨ (e = .returned (.bool false) ∧ Jx (pre ++ [x]) h' A') ∨ ∃ v, e = .panicked (up1 v) ∧ JP v (pre ++ [x]) h' A')
theorem y_callX {α : Type} {Enc : Base → α → List Value → Prop} {J Jx : List α → Base → Asrt → Prop} {JP : Value → List α → Base → Asrt → Prop} {xs pre : List α} {z : α} {A : Asrt} {args : List Operand} {vals : List Value} {ats : Array TypeId} {l : Nat} {l2 : List Oper} (hY : YieldX P l Enc J Jx JP xs)
    (hx : lkO E x = some (.func (.yield l) #[] #[])) (ha : evArgs E args = some vals) (hpre : pre ++ [z] <+: xs) (he : Enc h z vals) (hJ : J pre h A) (hp : H.Perm (A :: R)) (hd : Nat.blt d n = true) (hpl : l2.all plainOp = true) (hl : ∀ a w, ¬ Q .outgrown a w)
    (hX : ∀ v h' A', h.le h' → JP v (pre ++ [z]) h' A' → AT P n Q (.panic (up1 v)) E h' (A' :: R))
    (hk : ∀ (b : Bool) h' A', h.le h' → (b = true → J (pre ++ [z]) h' A') → (b = false → Jx (pre ++ [z]) h' A') → WL P n ops Q l2 ((d, .bool b) :: E) h' (A' :: R)) :
    AT P n (Exit.then (wpListIn (Wd none) 0 P ops Q (⟨some d, .call ⟨.value x, args.toArray, ats⟩, ty, ps, af, none⟩ :: l2)) Q) .normal E h H :=
  ⟨fun a w fa ok => wpListIn_plain rfl fun KK hK => by
    have go : ∀ (b : Bool) h' A' w', h.le h' → Ok h' (A' :: R) w' → (b = true → J (pre ++ [z]) h' A') → (b = false → Jx (pre ++ [z]) h' A') → KK (a.put (some d) (.bool b)) w' := fun b h' A' w' hle ok' h1 h2 => by
      refine hK _ _ ?_
      have h3 := (hk b h' A' hle h1 h2).run _ _ (fa.put (.bool b) hd) ok'
      rw [← then_nil (l := l2) (P := P) (ro := none) (ops := ops) (Q := Q) rfl] at h3
      have := listLift (ro := none) (l2 := []) l2 _ _ hpl hl h3
      simpa using this
    obtain ⟨fn, tmps, assign, body, hy, hR⟩ := hY pre z h vals A R w hpre he hJ (ok.perm hp)
    refine ⟨fun _ _ => trivial, ?_⟩
    have e0 : Oper.semAt (Wd none).round a.eval ⟨some d, .call ⟨.value x, args.toArray, ats⟩, ty, ps, af, none⟩ = execOp a.eval ⟨some d, .call ⟨.value x, args.toArray, ats⟩, ty, ps, af, none⟩ := rfl
    rw [e0, run_callY fa hx ha, hy, Oper.uponIn_round]
    refine ⟨nodepth, RoundIn.mono hR ?_⟩
    rintro e w' ⟨h', A', hle, ok', ⟨rfl, hj⟩ | ⟨rfl, hj⟩ | ⟨v, rfl, hj⟩⟩
    · exact go true h' A' w' hle ok' (fun _ => hj) (fun e => by cases e)
    · exact go false h' A' w' hle ok' (fun e => by cases e) (fun _ => hj)
    · exact (hX v h' A' hle hj).run _ _ fa ok'⟩
def IterX (P : Program) (gf : Nat) (lb : List Value) {α : Type} (Enc : Base → α → List Value → Prop) (h0 : Base) (Pre : List Asrt) (xs : List α) : Prop :=
  ∀ (l : Nat) (J Jx : List α → Base → Asrt → Prop) (JP : Value → List α → Base → Asrt → Prop), (∀ pre h h' A, h.le h' → J pre h A → J pre h' A) → (∀ pre h h' A, h.le h' → Jx pre h A → Jx pre h' A) → (∀ v pre h h' A, h.le h' → JP v pre h A → JP v pre h' A) → YieldX P l Enc J Jx JP xs →
    ∀ F A w h, h0.le h → J [] h A → Ok h (Pre ++ A :: F) w →
      Calls P gf (.func (.yield l) #[] #[] :: lb).toArray w fun e w' => ∃ h' A', h.le h' ∧ Ok h' (Pre ++ A' :: F) w' ∧ (((∃ v, e = .returned v) ∧ (J xs h' A' ∨ ∃ pre, pre <+: xs ∧ Jx pre h' A')) ∨ ∃ v pre, e = .panicked (up1 v) ∧ pre <+: xs ∧ JP v pre h' A')
def postI (P : Program) (fn : Func) (X : World → Prop) (XP : Value → World → Prop) : Exit → Act → World → Prop := bodyPost P fn fun e w' => ((∃ v, e = .returned v) ∧ X w') ∨ ∃ v, e = .panicked (up1 v) ∧ XP v w'
theorem iterX_enter {gf : Nat} {lb : List Value} {fn : Func} {c : Code} {l : Nat} {w : World} {X : World → Prop} {XP : Value → World → Prop} (hf : P.funcs[gf]? = some fn) (hb : fn.body = some c) (hn : (Value.func (.yield l) #[] #[] :: lb).length ≤ fn.ntmps)
    (hx : WC P fn.ntmps c (postI P fn X XP) (args0 0 (.func (.yield l) #[] #[] :: lb)) h H) (ok : Ok h H w) :
    Calls P gf (.func (.yield l) #[] #[] :: lb).toArray w fun e w' => ((∃ v, e = .returned v) ∧ X w') ∨ ∃ v, e = .panicked (up1 v) ∧ XP v w' :=
  calls_of_wp hf hb (hx.run _ w (Fr.enter _ _ hn) ok)
theorem doneI {fn : Func} {e : Exit} {X : World → Prop} {XP : Value → World → Prop} {vs : List Value} (he : e = .ret ∨ e = .normal) (hr : resV E fn.results.toList = some vs) (hX : ∀ w, Ok h H w → X w) (hn : n.ds = [] := by rfl) : AT P n (postI P fn X XP) e E h H :=
  ⟨fun a w fa ok => by
    rcases he with rfl | rfl <;> exact ⟨fa.defers.trans hn, packV vs, run_results fa hr, .inl ⟨⟨_, rfl⟩, hX w ok⟩⟩⟩
theorem upI {fn : Func} {X : World → Prop} {XP : Value → World → Prop} {u : Value} (hX : ∀ w, Ok h H w → XP u w) (hn : n.ds = [] := by rfl) : AT P n (postI P fn X XP) (.panic (up1 u)) E h H :=
  ⟨fun a w fa ok => ⟨fa.defers.trans hn, .inr ⟨u, rfl, hX w ok⟩⟩⟩
theorem postI_grown {fn : Func} {X : World → Prop} {XP : Value → World → Prop} : ∀ a w, ¬ postI P fn X XP .outgrown a w := fun a w hx => by
  rcases hx with ⟨⟨v, e⟩, _⟩ | ⟨v, e, _⟩ <;> cases e

/-! ### The statement -/
def RPX {α : Type} (J : List α → Base → Asrt → Prop) (Jx : Code → List α → Base → Asrt → Prop) (JP : Value → List α → Base → Asrt → Prop) (pre : List α) (h : Base) (R : List Asrt) : Exit → Act → World → Prop
  | .normal, _, w => ∃ h' A', h.le h' ∧ J pre h' A' ∧ Ok h' (A' :: R) w
  | .ret, _, w => ∃ h' A', h.le h' ∧ Jx .ret pre h' A' ∧ Ok h' (A' :: R) w
  | .exit id, _, w => ∃ h' A', h.le h' ∧ Jx (.exit id) pre h' A' ∧ Ok h' (A' :: R) w
  | .goto q, _, w => ∃ h' A', h.le h' ∧ Jx (.goto q) pre h' A' ∧ Ok h' (A' :: R) w
  | .panic ch, a, w => a.defers = [] ∧ ∃ v, ch = up1 v ∧ ∃ h' A', h.le h' ∧ JP v pre h' A' ∧ Ok h' (A' :: R) w
  | .outgrown, _, _ => False
theorem RPX_grown {α : Type} {J : List α → Base → Asrt → Prop} {Jx : Code → List α → Base → Asrt → Prop} {JP : Value → List α → Base → Asrt → Prop} {pre : List α} : ∀ a w, ¬ RPX J Jx JP pre h R .outgrown a w := fun a w hx => hx
theorem a_RX {α : Type} {J : List α → Base → Asrt → Prop} {Jx : Code → List α → Base → Asrt → Prop} {JP : Value → List α → Base → Asrt → Prop} {pre : List α} {A : Asrt} (hle : h0.le h) (hj : J pre h A) (hp : H.Perm (A :: R)) : AT P n (RPX J Jx JP pre h0 R) .normal E h H :=
  ⟨fun a w fa ok => ⟨h, A, hle, hj, ok.perm hp⟩⟩
theorem a_RXret {α : Type} {J : List α → Base → Asrt → Prop} {Jx : Code → List α → Base → Asrt → Prop} {JP : Value → List α → Base → Asrt → Prop} {pre : List α} {A : Asrt} (hle : h0.le h) (hj : Jx .ret pre h A) (hp : H.Perm (A :: R)) : AT P n (RPX J Jx JP pre h0 R) .ret E h H :=
  ⟨fun a w fa ok => ⟨h, A, hle, hj, ok.perm hp⟩⟩
theorem a_RXexit {α : Type} {J : List α → Base → Asrt → Prop} {Jx : Code → List α → Base → Asrt → Prop} {JP : Value → List α → Base → Asrt → Prop} {pre : List α} {A : Asrt} {id : Nat} (hle : h0.le h) (hj : Jx (.exit id) pre h A) (hp : H.Perm (A :: R)) : AT P n (RPX J Jx JP pre h0 R) (.exit id) E h H :=
  ⟨fun a w fa ok => ⟨h, A, hle, hj, ok.perm hp⟩⟩
theorem a_RXup {α : Type} {J : List α → Base → Asrt → Prop} {Jx : Code → List α → Base → Asrt → Prop} {JP : Value → List α → Base → Asrt → Prop} {pre : List α} {A : Asrt} {u : Value} (hle : h0.le h) (hj : JP u pre h A) (hp : H.Perm (A :: R)) (hn : n.ds = [] := by rfl) : AT P n (RPX J Jx JP pre h0 R) (.panic (up1 u)) E h H :=
  ⟨fun a w fa ok => ⟨fa.defers.trans hn, u, rfl, h, A, hle, hj, ok.perm hp⟩⟩

theorem range_core {α : Type} {g : Operand} {pp : Array Tmp} {assign body : Code} {gf : Nat} {lb : List Value} {Enc : Base → α → List Value → Prop} {Pre : List Asrt} {xs : List α} {A0 : Asrt}
    (J : List α → Base → Asrt → Prop) (Jx : Code → List α → Base → Asrt → Prop) (JP : Value → List α → Base → Asrt → Prop) (E1 : α → List Value → Env) (hit : IterX P gf lb Enc h Pre xs) (hg : lkO E g = some (.func (.func gf) #[] lb.toArray)) (hc : Callable P gf)
    (hps : ∀ h x args, Enc h x args → args.length = pp.size) (hpb : (pp.toList.all fun p => Nat.blt p n) = true)
    (hJm : ∀ pre h h' A, h.le h' → J pre h A → J pre h' A) (hJxm : ∀ c pre h h' A, h.le h' → Jx c pre h A → Jx c pre h' A) (hJPm : ∀ v pre h h' A, h.le h' → JP v pre h A → JP v pre h' A) (hp : H.Perm (Pre ++ A0 :: F)) (hJ0 : J [] h A0)
    (hassign : ∀ l x h' args A R, h.le h' → Enc h' x args → WR P ⟨n.n, []⟩ (some l) assign (AP ⟨n.n, []⟩ (E1 x args) h' (A :: R)) (envP pp.toList args E) h' (A :: R))
    (hbody : ∀ l pre x h' args A R, h.le h' → pre ++ [x] <+: xs → Enc h' x args → J pre h' A → WR P ⟨n.n, []⟩ (some l) body (RPX J Jx JP (pre ++ [x]) h' R) (E1 x args) h' (A :: R))
    (hdone : ∀ D h' A', h.le h' → J xs h' A' → AT P ⟨n.n, mark D :: n.ds⟩ Q .normal E h' (objA D (.deferred (some [])) :: (Pre ++ A' :: F)))
    (hstop : ∀ D c pre h' A', h.le h' → pre <+: xs → Jx c pre h' A' → WC P ⟨n.n, mark D :: n.ds⟩ c Q E h' (objA D (.deferred (some [])) :: (Pre ++ A' :: F)))
    (hup : ∀ D v pre h' A', h.le h' → pre <+: xs → JP v pre h' A' → AT P ⟨n.n, mark D :: n.ds⟩ Q (.panic (up1 v)) E h' (objA D (.deferred (some [])) :: (Pre ++ A' :: F)))
    (a : Act) (w : World) (fa : Fr n E a) (ok : Ok h H w) (bf : Frame) (hbf : (∃ fn, P.funcs[bf.fn]? = some fn) ∨ ∀ v pre h A, ¬ JP v pre h A) (hro : bf.roundOf = none) (k : List Item) (cs : List Frame) :
    ∃ e a' w', Q e a' w' ∧ Arrives P (lone (bf.at a (.code (.rangeFunc g pp assign body) :: k)) cs w) bf k cs e a' w' := rangeFunc_at hro (by
    obtain ⟨fn, hfne⟩ : ∃ fn, fn = bf.fn := ⟨_, rfl⟩
    rw [← hfne] at hbf ⊢
    obtain ⟨rec, hrec⟩ : ∃ rec : LoopState → Option Code → Loop, rec = fun st pe => { state := st, pending := pe, fn, tmps := a.tmps, params := pp, assign, body, defers := w.heap.size } := ⟨_, rfl⟩
    have ok1 : Ok h (objA (w.heap.size + 1) (.loop (rec .ready none)) :: objA w.heap.size (.deferred (some [])) :: (Pre ++ A0 :: F)) ((w.alloc (.deferred (some []))).alloc (.loop (rec .ready none))) := by
      have := ((ok.perm hp).allocO (.deferred (some []))).allocO (.loop (rec .ready none))
      rwa [World.size_alloc] at this
    generalize hW1 : (w.alloc (.deferred (some []))).alloc (.loop (rec .ready none)) = W1 at ok1
    generalize hD : w.heap.size = D at ok1
    have hev := fa.eval hg
    refine ⟨D + 1, [mark D], W1, { target := .fn (.func gf) lb.toArray, args := #[.func (.yield (D + 1)) #[] #[]] }, W1, gf, (.func (.yield (D + 1)) #[] #[] :: lb).toArray, W1, ?_, ?_, ?_, ?_⟩
    · rw [← hW1, hrec, ← hD]; exact run_enterLoop_outer _ _ _ _ _
    · simp only [resolve, hev]
      simp [go_sem]
    · have e1 : (#[.func (.yield (D + 1)) #[] #[]] : Array Value) ++ lb.toArray = (.func (.yield (D + 1)) #[] #[] :: lb).toArray := by simp
      simp only [invoke, go_sem]
      rw [← e1]
      exact hc _ _
    · let J1 : List α → Base → Asrt → Prop := fun pre h1 A => ∃ A', h.le h1 ∧ J pre h1 A' ∧ A = all [A', objA (D + 1) (.loop (rec .ready none)), objA D (.deferred (some []))]
      let Jx1 : List α → Base → Asrt → Prop := fun pre h1 A => ∃ A' c, h.le h1 ∧ Jx c pre h1 A' ∧ A = all [A', objA (D + 1) (.loop (rec .done (some c))), objA D (.deferred (some []))]
      let JP1 : Value → List α → Base → Asrt → Prop := fun v pre h1 A => ∃ A', h.le h1 ∧ JP v pre h1 A' ∧ A = all [A', objA (D + 1) (.loop { rec .ready none with state := .busy }), objA D (.deferred (some []))]
      have hY : YieldX P (D + 1) Enc J1 Jx1 JP1 xs := by
        rintro pre x h1 args A R w2 hpre henc ⟨A', hle1, hj, rfl⟩ ok2
        have ok2 : Ok h1 (A' :: objA (D + 1) (.loop (rec .ready none)) :: objA D (.deferred (some [])) :: R) w2 := Ok.all_iff.1 ok2
        have hl : w2.heap[D + 1]? = some (.loop (rec .ready none)) := ok2.sat.own (objA (D + 1) _) (by simp)
        have hy := run_yield (P := P) (args := args.toArray) hl (by rw [hrec]; simpa using hps _ _ _ henc)
        rw [hrec] at hy
        refine ⟨fn, _, assign, body, hy, roundIn_X trivial ?_ ?_⟩
        · rcases hbf with hbf | hbf
          · exact .inl hbf
          · refine .inr fun ch w ⟨h', A', _, _, hx⟩ => ?_
            rcases hx with ⟨e, _⟩ | ⟨e, _⟩ | ⟨v, _, A2, _, hj2, _⟩
            · cases e
            · cases e
            · exact hbf _ _ _ _ hj2
        have fa0 : Fr ⟨n.n, []⟩ E { a with defers := [] } := ⟨fa.size, rfl, fa.get⟩
        have fa1 := fr_params (m := ⟨n.n, []⟩) pp.toList args E _ fa0 hpb
        have e2 : (pp.zip args.toArray).foldl (fun tmps (t, a) => tmps.setIfInBounds t a) a.tmps = (pp.toList.zip args).foldl (fun t (p : Nat × Value) => t.setIfInBounds p.1 p.2) a.tmps := by
          rw [← Array.foldl_toList]
          simp
        have h3 := (hassign (D + 1) x h1 args A' _ hle1 henc).run _ w2 fa1 ok2
        simp only [] at h3 ⊢
        rw [e2]
        refine wpIn_mono h3 ?_
        rintro e a3 w3 hp3
        cases e with
        | normal =>
          obtain ⟨fa3, ok3⟩ := hp3
          have hl3 : w3.heap[D + 1]? = some (.loop (rec .ready none)) := ok3.sat.own (objA (D + 1) _) (by simp)
          refine ⟨_, run_beginRound hl3 (by rw [hrec]), ?_⟩
          have ok4 : Ok h1 (A' :: objA (D + 1) (.loop { rec .ready none with state := .busy }) :: objA D (.deferred (some [])) :: R) (w3.putObj (D + 1) (.loop { rec .ready none with state := .busy })) :=
            ((ok3.perm (List.Perm.swap _ _ _)).putO).perm (List.Perm.swap _ _ _)
          have fin : ∀ (jump : Option Code) (h5 : Base) (A5 : Asrt) (w5 : World), Ok h5 (A5 :: objA (D + 1) (.loop { rec .ready none with state := .busy }) :: objA D (.deferred (some [])) :: R) w5 →
              (Instr.endRound (D + 1) jump).run P w5 = .ok (.bool jump.isNone) (w5.putObj (D + 1) (.loop (rec (if jump.isNone then .ready else .done) jump))) ∧
              Ok h5 (all [A5, objA (D + 1) (.loop (rec (if jump.isNone then .ready else .done) jump)), objA D (.deferred (some []))] :: R) (w5.putObj (D + 1) (.loop (rec (if jump.isNone then .ready else .done) jump))) := fun jump h5 A5 w5 ok5 => by
            have hl5 : w5.heap[D + 1]? = some (.loop { rec .ready none with state := .busy }) := ok5.sat.own (objA (D + 1) _) (by simp)
            have hr := run_endRound (P := P) jump hl5
            have h6 := (((ok5.perm (List.Perm.swap _ _ _)).putO (o' := .loop { ({ rec .ready none with state := .busy } : Loop) with state := if jump.isNone then .ready else .done, pending := jump })).perm (List.Perm.swap _ _ _))
            rw [hrec] at hr h6 ⊢
            exact ⟨hr, Ok.all_iff.2 h6⟩
          refine wpIn_mono ((hbody (D + 1) pre x h1 args A' _ hle1 hpre henc hj).run a3 _ fa3 ok4) ?_
          rintro e a5 w5 hp5
          cases e with
          | normal =>
            obtain ⟨h5, A5, hle5, hj5, ok5⟩ := hp5
            obtain ⟨hr, ok6⟩ := fin none h5 A5 w5 ok5
            exact ⟨_, _, hr, h5, _, hle5, ok6, .inl ⟨rfl, A5, hle1.trans hle5, hj5, rfl⟩⟩
          | ret =>
            obtain ⟨h5, A5, hle5, hj5, ok5⟩ := hp5
            obtain ⟨hr, ok6⟩ := fin (some .ret) h5 A5 w5 ok5
            exact ⟨_, _, hr, h5, _, hle5, ok6, .inr (.inl ⟨rfl, A5, .ret, hle1.trans hle5, hj5, rfl⟩)⟩
          | exit id =>
            obtain ⟨h5, A5, hle5, hj5, ok5⟩ := hp5
            obtain ⟨hr, ok6⟩ := fin (some (.exit id)) h5 A5 w5 ok5
            exact ⟨_, _, hr, h5, _, hle5, ok6, .inr (.inl ⟨rfl, A5, .exit id, hle1.trans hle5, hj5, rfl⟩)⟩
          | goto q =>
            obtain ⟨h5, A5, hle5, hj5, ok5⟩ := hp5
            obtain ⟨hr, ok6⟩ := fin (some (.goto q)) h5 A5 w5 ok5
            exact ⟨_, _, hr, h5, _, hle5, ok6, .inr (.inl ⟨rfl, A5, .goto q, hle1.trans hle5, hj5, rfl⟩)⟩
          | panic ch =>
            obtain ⟨hd, v, rfl, h5, A5, hle5, hj5, ok5⟩ := hp5
            exact ⟨hd, h5, _, hle5, Ok.all_iff.2 ok5, .inr (.inr ⟨v, rfl, A5, hle1.trans hle5, hj5, rfl⟩)⟩
          | outgrown => exact hp5.elim
        | ret => exact hp3.elim
        | exit id => exact hp3.elim
        | goto q => exact hp3.elim
        | panic ch => exact hp3.elim
        | outgrown => exact hp3.elim
      have ok2 : Ok h (Pre ++ all [A0, objA (D + 1) (.loop (rec .ready none)), objA D (.deferred (some []))] :: F) W1 := by
        have h1 : Ok h (all [A0, objA (D + 1) (.loop (rec .ready none)), objA D (.deferred (some []))] :: (Pre ++ F)) W1 := by
          refine Ok.all_iff.2 (ok1.perm ?_)
          show List.Perm _ (A0 :: _ :: _ :: (Pre ++ F))
          exact (((List.perm_middle (l₁ := Pre) (a := A0) (l₂ := F)).cons _).cons _).trans (perm3 A0 _ _ (Pre ++ F)).symm
        exact h1.perm (List.perm_middle (l₁ := Pre)).symm
      refine Calls.mono (hit (D + 1) J1 Jx1 JP1 (fun pre h1 h2 A hl ⟨A', g1, g2, g3⟩ => ⟨A', g1.trans hl, hJm _ _ _ _ hl g2, g3⟩) (fun pre h1 h2 A hl ⟨A', c, g1, g2, g3⟩ => ⟨A', c, g1.trans hl, hJxm _ _ _ _ _ hl g2, g3⟩) (fun v pre h1 h2 A hl ⟨A', g1, g2, g3⟩ => ⟨A', g1.trans hl, hJPm _ _ _ _ _ hl g2, g3⟩) hY F _ W1 h (Base.le.refl _) ⟨A0, Base.le.refl _, hJ0, rfl⟩ ok2) ?_
      have fa9 : Fr ⟨n.n, mark D :: n.ds⟩ E { a with defers := [mark D] ++ a.defers } := ⟨fa.size, by simp [fa.defers], fa.get⟩
      have out : ∀ (o o' : Obj) (h' : Base) (A' : Asrt) (w' : World), Ok h' (Pre ++ all [A', objA (D + 1) o, objA D (.deferred (some []))] :: F) w' → w'.heap[D + 1]? = some o ∧ Ok h' (objA D (.deferred (some [])) :: (Pre ++ A' :: F)) (w'.putObj (D + 1) o') ∧ Ok h' (objA D (.deferred (some [])) :: (Pre ++ A' :: F)) w' := fun o o' h' A' w' ok' => by
        have h1 : Ok h' (A' :: objA (D + 1) o :: objA D (.deferred (some [])) :: (Pre ++ F)) w' := Ok.all_iff.1 (ok'.perm (List.perm_middle (l₁ := Pre)))
        refine ⟨h1.sat.own (objA (D + 1) o) (by simp), ?_, ?_⟩
        · have h2 := ((h1.perm (List.Perm.swap _ _ _)).putO (o' := o')).drop
          exact h2.perm ((List.Perm.swap _ _ _).trans ((List.perm_middle (l₁ := Pre)).symm.cons _))
        · have h2 := (h1.perm (List.Perm.swap _ _ _)).drop
          exact h2.perm ((List.Perm.swap _ _ _).trans ((List.perm_middle (l₁ := Pre)).symm.cons _))
      rintro e w' ⟨h', A', hle, ok', ⟨⟨v, rfl⟩, ⟨A2, g1, g2, rfl⟩ | ⟨pre, hpre, A2, c, g1, g2, rfl⟩⟩ | ⟨v, pre, rfl, hpre, A2, g1, g2, rfl⟩⟩
      · obtain ⟨hl, ok9, _⟩ := out _ (.loop { rec .ready none with state := .exhausted }) h' A2 w' ok'
        refine .inl ⟨v, rfl, none, _, ?_, (hdone D h' A2 g1 g2).run _ _ fa9 ok9⟩
        have := run_endLoop (P := P) hl (by rw [hrec]; simp)
        rw [hrec] at this ⊢
        exact this
      · obtain ⟨hl, ok9, _⟩ := out _ (.loop { rec .done (some c) with state := .exhausted }) h' A2 w' ok'
        refine .inl ⟨v, rfl, some c, _, ?_, (hstop D c pre h' A2 g1 hpre g2).run _ _ fa9 ok9⟩
        have := run_endLoop (P := P) hl (by rw [hrec]; simp)
        rw [hrec] at this ⊢
        exact this
      · obtain ⟨_, _, ok9⟩ := out _ (.deferred none) h' A2 w' ok'
        exact .inr ⟨_, rfl, (hup D v pre h' A2 g1 hpre g2).run _ _ fa9 ok9⟩)
end
/-! ### Ranges and their marks -/
section
variable {P : Program} {n : NN} {Q : Exit → Act → World → Prop} {E : Env} {h h' h0 : Base} {H K R F : List Asrt} {ops : Array Oper} {rest : List Oper}
theorem c_rangeN {α : Type} {g : Operand} {pp : Array Tmp} {assign body : Code} {gf : Nat} {lb : List Value} {Enc : Base → α → List Value → Prop} {Pre : List Asrt} {xs : List α} {A0 : Asrt}
    (J : List α → Base → Asrt → Prop) (Jx : Code → List α → Base → Asrt → Prop) (E1 : α → List Value → Env) (hit : IterX P gf lb Enc h Pre xs) (hg : lkO E g = some (.func (.func gf) #[] lb.toArray)) (hc : Callable P gf)
    (hps : ∀ h x args, Enc h x args → args.length = pp.size) (hpb : (pp.toList.all fun p => Nat.blt p n) = true)
    (hJm : ∀ pre h h' A, h.le h' → J pre h A → J pre h' A) (hJxm : ∀ c pre h h' A, h.le h' → Jx c pre h A → Jx c pre h' A) (hp : H.Perm (Pre ++ A0 :: F)) (hJ0 : J [] h A0)
    (hassign : ∀ l x h' args A R, h.le h' → Enc h' x args → WR P ⟨n.n, []⟩ (some l) assign (AP ⟨n.n, []⟩ (E1 x args) h' (A :: R)) (envP pp.toList args E) h' (A :: R))
    (hbody : ∀ l pre x h' args A R, h.le h' → pre ++ [x] <+: xs → Enc h' x args → J pre h' A → WR P ⟨n.n, []⟩ (some l) body (RPX J Jx (fun _ _ _ _ => False) (pre ++ [x]) h' R) (E1 x args) h' (A :: R))
    (hdone : ∀ D h' A', h.le h' → J xs h' A' → AT P ⟨n.n, mark D :: n.ds⟩ Q .normal E h' (objA D (.deferred (some [])) :: (Pre ++ A' :: F)))
    (hstop : ∀ D c pre h' A', h.le h' → pre <+: xs → Jx c pre h' A' → WC P ⟨n.n, mark D :: n.ds⟩ c Q E h' (objA D (.deferred (some [])) :: (Pre ++ A' :: F))) : WC P n (.rangeFunc g pp assign body) Q E h H :=
  ⟨fun a w fa ok b k cs => range_core J Jx (fun _ _ _ _ => False) E1 hit hg hc hps hpb hJm hJxm (fun _ _ _ _ _ _ hx => hx) hp hJ0 hassign hbody hdone hstop (fun _ _ _ _ _ _ _ hx => hx.elim) a w fa ok { b with roundOf := none } (.inr fun _ _ _ _ hx => hx) rfl k cs⟩
theorem c_rangeX {α : Type} {g : Operand} {pp : Array Tmp} {assign body : Code} {gf : Nat} {lb : List Value} {Enc : Base → α → List Value → Prop} {Pre : List Asrt} {xs : List α} {A0 : Asrt}
    (J : List α → Base → Asrt → Prop) (Jx : Code → List α → Base → Asrt → Prop) (JP : Value → List α → Base → Asrt → Prop) (E1 : α → List Value → Env) (hit : IterX P gf lb Enc h Pre xs) (hg : lkO E g = some (.func (.func gf) #[] lb.toArray)) (hc : Callable P gf)
    (hps : ∀ h x args, Enc h x args → args.length = pp.size) (hpb : (pp.toList.all fun p => Nat.blt p n) = true)
    (hJm : ∀ pre h h' A, h.le h' → J pre h A → J pre h' A) (hJxm : ∀ c pre h h' A, h.le h' → Jx c pre h A → Jx c pre h' A) (hJPm : ∀ v pre h h' A, h.le h' → JP v pre h A → JP v pre h' A) (hp : H.Perm (Pre ++ A0 :: F)) (hJ0 : J [] h A0)
    (hassign : ∀ l x h' args A R, h.le h' → Enc h' x args → WR P ⟨n.n, []⟩ (some l) assign (AP ⟨n.n, []⟩ (E1 x args) h' (A :: R)) (envP pp.toList args E) h' (A :: R))
    (hbody : ∀ l pre x h' args A R, h.le h' → pre ++ [x] <+: xs → Enc h' x args → J pre h' A → WR P ⟨n.n, []⟩ (some l) body (RPX J Jx JP (pre ++ [x]) h' R) (E1 x args) h' (A :: R))
    (hdone : ∀ D h' A', h.le h' → J xs h' A' → AT P ⟨n.n, mark D :: n.ds⟩ Q .normal E h' (objA D (.deferred (some [])) :: (Pre ++ A' :: F)))
    (hstop : ∀ D c pre h' A', h.le h' → pre <+: xs → Jx c pre h' A' → WC P ⟨n.n, mark D :: n.ds⟩ c Q E h' (objA D (.deferred (some [])) :: (Pre ++ A' :: F)))
    (hup : ∀ D v pre h' A', h.le h' → pre <+: xs → JP v pre h' A' → AT P ⟨n.n, mark D :: n.ds⟩ Q (.panic (up1 v)) E h' (objA D (.deferred (some [])) :: (Pre ++ A' :: F))) : WB P n (.rangeFunc g pp assign body) Q E h H :=
  ⟨fun a w fa ok b k cs hb => range_core J Jx JP E1 hit hg hc hps hpb hJm hJxm hJPm hp hJ0 hassign hbody hdone hstop hup a w fa ok { b with roundOf := none } (.inl hb) rfl k cs⟩
theorem b_block {id : Nat} {x : Code} (hx : WB P n x (Exit.inBlock id Q) E h H) : WB P n (.block id x) Q E h H := ⟨fun a w fa ok b k cs hb => by
  have e0 : step P (lone (b.at a (.code (.block id x) :: k)) cs w) = .next (lone (b.at a (.code x :: .inBlock id :: k)) cs w) := step_lone_go (by simp [stepG, stepG.exec, Frame.at])
  have e1 : ∀ a w, step P (lone (b.at a (.inBlock id :: k)) cs w) = .next (lone (b.at a k) cs w) := fun a w => step_lone_go (by simp [stepG, stepG.exec, Frame.at])
  obtain ⟨e, a₁, w₁, hq, harr⟩ := hx.run a w fa ok b (.inBlock id :: k) cs hb
  cases e with
  | normal => exact ⟨.normal, a₁, w₁, hq, .head e0 (Steps.trans harr (.one (e1 _ _)))⟩
  | exit i =>
    by_cases hi : i = id
    · subst hi
      refine ⟨.normal, a₁, w₁, by simpa [Exit.inBlock] using hq, .head e0 (harr k (by simp [exitTo]))⟩
    · refine ⟨.exit i, a₁, w₁, by simpa [Exit.inBlock, hi] using hq, fun k' hk => .head e0 (harr k' ?_)⟩
      rw [← hk]
      simp [exitTo, hi, Ne.symm hi]
  | goto l => exact ⟨_, a₁, w₁, hq, fun k' hk => .head e0 (harr k' (by simpa [gotoIn] using hk))⟩
  | ret => exact ⟨_, a₁, w₁, hq, let ⟨t, hs⟩ := harr; ⟨t, .head e0 hs⟩⟩
  | panic ch => exact ⟨_, a₁, w₁, hq, let ⟨t, hs⟩ := harr; ⟨t, .head e0 hs⟩⟩
  | outgrown => exact ⟨_, a₁, w₁, hq, harr.imp (fun x => x) (Outgrown.of_steps (.one e0))⟩⟩
theorem c_loopN {c : Code} {σ : Type} (NI : σ → NN) (EI : σ → Env) (BI : σ → Base) (HI : σ → List Asrt) (I : σ → Prop) (μ : σ → Nat) (s0 : σ) (hI : I s0) (hN : NI s0 = n) (hE : Sub E (EI s0)) (hB : BI s0 = h) (hH : HI s0 = H)
    (round : ∀ s, I s → ∀ K : Act → World → Prop, (∀ s' a w, I s' → Fr (NI s') (EI s') a → Ok (BI s') (HI s') w → μ s' < μ s → K a w) → WC P (NI s) c (Exit.then K Q) (EI s) (BI s) (HI s)) : WC P n (.loop c) Q E h H :=
  ⟨fun a w fa ok => wp_loop_ghost (I := fun s a w => I s ∧ Fr (NI s) (EI s) a ∧ Ok (BI s) (HI s) w) μ
    (fun s a w hI => (round s hI.1 _ fun s' a' w' i' f' o' hlt => ⟨s', ⟨i', f', o'⟩, hlt⟩).run a w hI.2.1 hI.2.2) s0 a w ⟨hI, by rw [hN]; exact fa.sub hE, by rw [hB, hH]; exact ok⟩⟩
theorem a_roundN {σ : Type} {NI : σ → NN} {EI : σ → Env} {BI : σ → Base} {HI : σ → List Asrt} {I : σ → Prop} {μ : σ → Nat} {s : σ} {K : Act → World → Prop} (hK : ∀ s' a w, I s' → Fr (NI s') (EI s') a → Ok (BI s') (HI s') w → μ s' < μ s → K a w) (s' : σ) (hI : I s') (hN : NI s' = n)
    (hE : Sub E (EI s')) (hB : BI s' = h) (hH : H.Perm (HI s')) (hlt : μ s' < μ s) : AT P n (Exit.then K Q) .normal E h H := ⟨fun a w fa ok => hK s' a w hI (by rw [hN]; exact fa.sub hE) (by rw [hB]; exact ok.perm hH) hlt⟩

def marksA (Ds : List Nat) : List Asrt := Ds.map fun D => objA D (.deferred (some []))
def postMX (P : Program) (fn : Func) (R RX : Value → World → Prop) : Exit → Act → World → Prop := bodyPostM Fence.wide 0 P fn fun e w' => (∃ v, e = .returned v ∧ R v w') ∨ ∃ v, e = .panicked (up1 v) ∧ RX v w'
theorem enterMX {f : FuncId} {args : List Value} {fn : Func} {c : Code} {Pre : List Asrt} {Post PX : Value → Base → List Asrt → Prop} (hf : P.funcs[f]? = some fn) (hb : fn.body = some c) (hn : args.length ≤ fn.ntmps)
    (hx : ∀ F, WB P fn.ntmps c (postMX P fn (fun v w' => ∃ h' H', h.le h' ∧ Post v h' H' ∧ Ok h' (H' ++ F) w') (fun v w' => ∃ h' H', h.le h' ∧ PX v h' H' ∧ Ok h' (H' ++ F) w')) (args0 0 args) h (Pre ++ F)) : TrX P f args h Pre Post PX :=
  fun F w ok => calls_of_wpB hf hb ((hx F).run _ w (Fr.enter _ _ hn) ok)
theorem leaves_marks {fn : Func} {tmps : Array Value} {RE : Ending → World → Prop} {u : FrameMode} (hu : u ≠ .run) : ∀ (Ds : List Nat) (w : World), Ok h (marksA Ds ++ H) w → (∀ w', Ok h H w' → LeavesInM Fence.wide 0 P fn tmps RE [] u w') → LeavesInM Fence.wide 0 P fn tmps RE (Ds.map mark) u w
  | [], w, ok, hx => hx w ok
  | D :: Ds, w, ok, hx => by
    have ok : Ok h (objA D (.deferred (some [])) :: (marksA Ds ++ H)) w := ok
    have hd : w.heap[D]? = some (.deferred (some [])) := ok.sat.own (objA D _) (List.mem_cons_self ..)
    exact ⟨hu, .inl ⟨D, _, rfl, run_takeDeferred hd, leaves_marks hu Ds _ ((ok.putO (o' := .deferred none)).drop) hx⟩⟩
theorem doneMX {fn : Func} {e : Exit} {F H1 H' D : List Asrt} {h0 : Base} {Ds : List Nat} {Post PX : Value → Base → List Asrt → Prop} {vs : List Value} (he : e = .ret ∨ e = .normal) (hn : n.ds = Ds.map mark) (hp : H.Perm (all (marksA Ds) :: H1)) (hr : ResC P E h H1 fn.results.toList vs)
    (hle : h0.le h) (hH : H1 = D ++ (H' ++ F)) (hP : Post (packV vs) h H') : AT P n (postMX P fn (fun v w' => ∃ h' H', h0.le h' ∧ Post v h' H' ∧ Ok h' (H' ++ F) w') (fun v w' => ∃ h' H', h0.le h' ∧ PX v h' H' ∧ Ok h' (H' ++ F) w')) e E h H :=
  ⟨fun a w fa ok => by
    have ok1 := Ok.all_iff.1 (ok.perm hp)
    have key : LeavesInM Fence.wide 0 P fn a.tmps (fun e w' => (∃ v, e = .returned v ∧ ∃ h' H', h0.le h' ∧ Post v h' H' ∧ Ok h' (H' ++ F) w') ∨ ∃ v, e = .panicked (up1 v) ∧ ∃ h' H', h0.le h' ∧ PX v h' H' ∧ Ok h' (H' ++ F) w') a.defers .returning w := by
      rw [fa.defers, hn]
      exact leaves_marks (by simp) Ds w ok1 fun w' ok2 => ⟨packV vs, run_resC fa ok2.sat hr, .inl ⟨_, rfl, h, H', hle, hP, (hH ▸ ok2).drops⟩⟩
    rcases he with rfl | rfl <;> exact key⟩
theorem upMX {fn : Func} {F H1 H' D : List Asrt} {h0 : Base} {Ds : List Nat} {Post PX : Value → Base → List Asrt → Prop} {u : Value} (hn : n.ds = Ds.map mark) (hp : H.Perm (all (marksA Ds) :: H1))
    (hle : h0.le h) (hH : H1 = D ++ (H' ++ F)) (hP : PX u h H') : AT P n (postMX P fn (fun v w' => ∃ h' H', h0.le h' ∧ Post v h' H' ∧ Ok h' (H' ++ F) w') (fun v w' => ∃ h' H', h0.le h' ∧ PX v h' H' ∧ Ok h' (H' ++ F) w')) (.panic (up1 u)) E h H :=
  ⟨fun a w fa ok => by
    have ok1 := Ok.all_iff.1 (ok.perm hp)
    show LeavesInM Fence.wide 0 P fn a.tmps (fun e w' => (∃ v, e = .returned v ∧ ∃ h' H', h0.le h' ∧ Post v h' H' ∧ Ok h' (H' ++ F) w') ∨ ∃ v, e = .panicked (up1 v) ∧ ∃ h' H', h0.le h' ∧ PX v h' H' ∧ Ok h' (H' ++ F) w') a.defers (.panicking (up1 u)) w
    rw [fa.defers, hn]
    exact leaves_marks (by simp) Ds w ok1 fun w' ok2 => .inr ⟨_, rfl, h, H', hle, hP, (hH ▸ ok2).drops⟩⟩
/-- An empty row of marks. -/
theorem WC.marks0 {c : Code} (hx : WC P n c Q E h (all (marksA []) :: H)) : WC P n c Q E h H := ⟨fun a w fa ok => hx.run a w fa (Ok.all_iff.2 ok)⟩
theorem WB.marks0 {c : Code} (hx : WB P n c Q E h (all (marksA []) :: H)) : WB P n c Q E h H := ⟨fun a w fa ok => hx.run a w fa (Ok.all_iff.2 ok)⟩
theorem AT.marks0 {q : Exit} (hx : AT P n Q q E h (all (marksA []) :: H)) : AT P n Q q E h H := ⟨fun a w fa ok => hx.run a w fa (Ok.all_iff.2 ok)⟩
theorem AT.marks1 {q : Exit} {D : Nat} (hx : AT P n Q q E h (all (marksA [D]) :: H)) : AT P n Q q E h (objA D (.deferred (some [])) :: H) := ⟨fun a w fa ok => hx.run a w fa (Ok.all_iff.2 ok)⟩
theorem AT.marksC {q : Exit} {D : Nat} {Ds : List Nat} (hx : AT P n Q q E h (all (marksA (D :: Ds)) :: H)) : AT P n Q q E h (objA D (.deferred (some [])) :: all (marksA Ds) :: H) := ⟨fun a w fa ok => hx.run a w fa (Ok.all_iff.2 (show Ok h (objA D (.deferred (some [])) :: (marksA Ds ++ H)) w from (Ok.all_iff.1 (ok.perm (List.Perm.swap ..))).perm (List.perm_middle (l₁ := marksA Ds))))⟩
end
end Go.K
