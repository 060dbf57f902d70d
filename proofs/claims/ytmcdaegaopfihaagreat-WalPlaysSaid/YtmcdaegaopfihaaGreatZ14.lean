/-
  Texts joined: Cb KP KR KS KT KU. Conditions: each theorem's own.
-/
import Derived.Test.YtmcdaegaopfihaaGreatZ13
import Derived.Test.YtmcdaegaopfihaaGreatZ1
import Derived.Defers
import Derived.Recover
import Derived.RangeFuncLeaves
import Derived.RangeFuncSeq
import Derived.StillTail
import Derived.OrdersIn
import Derived.TacticsIn
import Derived.Test.YtmcdaegaopfihaaGreatZ10
section
namespace Go.Proofs.YtmcdaegaopfihaaGreat.Ca
open Go Go.K Go.Proofs Go.Proofs.YtmcdaegaopfihaaGreat
set_option linter.unusedVariables false
set_option linter.unusedSimpArgs false
set_option maxRecDepth 10000

theorem NewWriter (h : Base) : Tr Tryz.prog 58 [] h [] (fun v h' H' => h = h' ∧ ∃ p, v = wv (some (p, some (none, 0, []))) ∧ H' = [wA (some (p, some (none, 0, [])))]) := by
 refine K.enter Tryz.func58 rfl (Nat.le_of_ble_eq_true rfl) (fun F => ?_)
 (repeat' first | refine X.rq ?_ | refine X.rc ?_ ?_ <;> intro hc <;> try omega)
 refine K.l_box rfl rfl rfl (fun B => ?_)
 (repeat' first | refine X.rq ?_ | refine X.rc ?_ ?_ <;> intro hc <;> try omega)
 refine K.AT.nilBuf 5 1 (K.AT.perm (List.Perm.swap ..) (K.AT.close (wH (some (B, some (none, 0, [])))) ?_))
 refine K.done (by first | exact Or.inl rfl | exact Or.inr rfl) rfl (by first | exact K.Base.le.refl _ | assumption) (H' := [wA (some (B, some (none, 0, [])))]) rfl ⟨rfl, B, rfl, rfl⟩

theorem W_Uint (h : Base) (s : WSt) (x : Nat) (hx : x < 18446744073709551616) (hl : (wb s).length + 16 ≤ big) : Tr Tryz.prog 88 [wv s, .int .u64 x] h [wA s] (Wrote h s (cu x)) := by
 refine K.enter Tryz.func88 rfl (Nat.le_of_ble_eq_true rfl) (fun F => ?_)
 (repeat' first | refine X.rq ?_ | refine X.rc ?_ ?_ <;> intro hc <;> try omega)
 refine K.c_loop (σ := WSt × Nat) (fun s => [(0, wv s.1), (1, .int .u64 s.2)]) (fun _ => h) (fun s => wA s.1 :: F)
  (fun r => r.2 < 18446744073709551616 ∧ ∃ pre, wadd pre s r.1 ∧ pre ++ cu r.2 = cu x) (fun s => s.2) (s, x) ⟨hx, [], wadd_nil s, rfl⟩ (by repeat (first | exact K.Sub.nil _ | refine K.Sub.cons rfl ?_)) rfl rfl ?_
 rintro ⟨s1, y⟩ ⟨hy, pre, hpre, hcu⟩ KL hKL
 dsimp only at hy hpre hcu ⊢
 have hl1 : (wb s1).length ≤ big := by
  have h1 := wadd_len hpre
  have h2 := congrArg List.length hcu
  have h3 := cu_len x
  rw [List.length_append] at h2
  omega
 (repeat' first | refine X.rq ?_ | refine X.rc ?_ ?_ <;> intro hc <;> try omega)
 ·rw [K.or128 y]
  refine K.l_call (Fx.cal rfl) rfl (W_U8 h s1 (y % 128 + 128) (by omega) hl1) (K.pp [0] rfl) rfl ?_
  rintro v h' H' - ⟨rfl, rfl, s2, hs2, rfl⟩
  (repeat' first | refine X.rq ?_ | refine X.rc ?_ ?_ <;> intro hc <;> try omega)
  rw [K.shr7 y]
  refine K.a_round hKL (s2, y / 128) ⟨by omega, pre ++ lebs (y % 128 + 128) 1, wadd_trans hpre hs2, ?_⟩ ?_ rfl rfl (by dsimp only; omega)
  ·rw [← hcu, cu_ge (x := y) (by omega) hy, List.append_assoc]
   simp [lebs, Nat.mod_eq_of_lt (show y % 128 + 128 < 256 by omega)]
  ·rw [← wadd_val hs2]
   exact (by repeat (first | exact K.Sub.nil _ | refine K.Sub.cons rfl ?_))
 ·refine K.l_call (Fx.cal rfl) rfl (W_U8 h s1 y (by omega) hl1) (K.pp [0] rfl) rfl ?_
  rintro v h' H' - ⟨rfl, rfl, s2, hs2, rfl⟩
  (repeat' first | refine X.rq ?_ | refine X.rc ?_ ?_ <;> intro hc <;> try omega)
  refine K.done (by first | exact Or.inl rfl | exact Or.inr rfl) rfl (by first | exact K.Base.le.refl _ | assumption) (H' := [wA s2]) rfl ⟨rfl, rfl, s2, ?_, rfl⟩
  have := wadd_trans hpre hs2
  rw [← hcu, cu_lt (x := y) (by omega)]
  simpa [lebs, Nat.mod_eq_of_lt (show y < 256 by omega)] using this

theorem W_Raw (h : Base) (s : WSt) (a : Option Nat) (cap : Nat) (b : List UInt8) (hl : (wb s).length + b.length ≤ big) :
  Tr Tryz.prog 60 [wv s, bufV a b.length cap] h [wA s, bufA 5 1 a b.length cap (b.map u8)] (fun v h' H' => v = unit ∧ h = h' ∧ ∃ s', wadd b s s' ∧ H' = [wA s', bufA 5 1 a b.length cap (b.map u8)]) := by
 unfold big at hl
 match s with
 | none =>
  refine K.enter Tryz.func60 rfl (Nat.le_of_ble_eq_true rfl) (fun F => ?_)
  simp only [wv]
  (repeat' first | refine X.rq ?_ | refine X.rc ?_ ?_ <;> intro hc <;> try omega)
  refine K.done (by first | exact Or.inl rfl | exact Or.inr rfl) rfl (by first | exact K.Base.le.refl _ | assumption) (H' := [wA none, _]) rfl ⟨rfl, rfl, none, trivial, rfl⟩
 | some (p, none) =>
  refine K.enter Tryz.func60 rfl (Nat.le_of_ble_eq_true rfl) (fun F => ?_)
  refine K.WC.open ?_
  simp only [wH, wv, List.cons_append, List.nil_append]
  (repeat' first | refine X.rq ?_ | refine X.rc ?_ ?_ <;> intro hc <;> try omega)
  refine K.AT.close (wH (some (p, none))) ?_
  refine K.done (by first | exact Or.inl rfl | exact Or.inr rfl) rfl (by first | exact K.Base.le.refl _ | assumption) (H' := [wA (some (p, none)), _]) rfl ⟨rfl, rfl, some (p, none), rfl, rfl⟩
 | some (p, some (a0, cap0, l)) =>
  simp only [wb] at hl
  refine K.enter Tryz.func60 rfl (Nat.le_of_ble_eq_true rfl) (fun F => ?_)
  refine K.WC.open ?_
  simp only [wH, wv, List.cons_append, List.nil_append]
  (repeat' first | refine X.rq ?_ | refine X.rc ?_ ?_ <;> intro hc <;> try omega)
  refine K.l_append_at 1 rfl (Fx.und rfl) (Fx.und rfl) rfl (Fx.sz rfl) (Fx.zr rfl) rfl (Fx.byt rfl) rfl rfl (K.src_buf 1 rfl (by simp [K.u8_one]) (by simp)) (by omega) (by omega) rfl (fun a' cap' => ?_)
  simp only [Go.K.nmz]
  (repeat' first | refine X.rq ?_ | refine X.rc ?_ ?_ <;> intro hc <;> try omega)
  refine X.sto ?_
  (repeat' first | refine X.rq ?_ | refine X.rc ?_ ?_ <;> intro hc <;> try omega)
  rw [← List.map_append, ← List.length_append]
  refine K.AT.close (wH (some (p, some (a', cap', l ++ b)))) ?_
  refine K.done (by first | exact Or.inl rfl | exact Or.inr rfl) rfl (by first | exact K.Base.le.refl _ | assumption) (H' := [wA (some (p, some (a', cap', l ++ b))), _]) rfl ⟨rfl, rfl, some (p, some (a', cap', l ++ b)), ⟨rfl, rfl⟩, rfl⟩

theorem W_Text (h : Base) (s : WSt) (t : ByteArray) (hl : (wb s).length + t.size + 16 ≤ big) : Tr Tryz.prog 89 [wv s, .string t] h [wA s] (Wrote h s (cu t.size ++ t.data.toList)) := by
 have hb : t.size ≤ big := by omega
 unfold big at hb
 refine K.enter Tryz.func89 rfl (Nat.le_of_ble_eq_true rfl) (fun F => ?_)
 (repeat' first | refine X.rq ?_ | refine X.rc ?_ ?_ <;> intro hc <;> try omega)
 refine K.l_call (Fx.cal rfl) rfl (W_Uint h s t.size (by omega) (by omega)) (K.pp [0] rfl) rfl ?_
 rintro v h' H' - ⟨rfl, rfl, s', hs, rfl⟩
 (repeat' first | refine X.rq ?_ | refine X.rc ?_ ?_ <;> intro hc <;> try omega)
 refine K.l_toBytes (Fx.und rfl) (Fx.und rfl) (Fx.und rfl) rfl (by unfold maxLen; omega) rfl (fun B cap => ?_)
 have h3 := wadd_len hs
 have h4 := cu_len t.size
 have h5 : t.data.toList.length = t.size := by simp
 refine K.l_call (vals := [wv s, bufV (some B) t.size cap]) (Fx.cal rfl) rfl (by
  have := W_Raw h s' (some B) cap t.data.toList (by omega)
  rw [h5, wadd_val hs] at this
  exact this) (K.pp [1, 0] rfl) rfl ?_
 rintro v h' H' - ⟨rfl, rfl, s2, hs2, rfl⟩
 (repeat' first | refine X.rq ?_ | refine X.rc ?_ ?_ <;> intro hc <;> try omega)
 refine K.AT.perm (List.Perm.swap ..) (K.AT.drop ?_)
 refine K.done (by first | exact Or.inl rfl | exact Or.inr rfl) rfl (by first | exact K.Base.le.refl _ | assumption) (H' := [wA s2]) rfl ⟨rfl, rfl, s2, wadd_trans hs hs2, rfl⟩

theorem W_Bytes (h : Base) (s : WSt) (hl : (wb s).length ≤ big) : Tr Tryz.prog 62 [wv s] h [wA s] (fun v h' H' => h = h' ∧ ∃ a cap, v = bufV a (wb s).length cap ∧ H' = [bufA 5 1 a (wb s).length cap ((wb s).map u8), wA s]) := by
 unfold big at hl
 match s with
 | none =>
  refine K.enter Tryz.func62 rfl (Nat.le_of_ble_eq_true rfl) (fun F => ?_)
  simp only [wv]
  (repeat' first | refine X.rq ?_ | refine X.rc ?_ ?_ <;> intro hc <;> try omega)
  refine K.AT.nilBuf 5 1 ?_
  refine K.done (by first | exact Or.inl rfl | exact Or.inr rfl) rfl (by first | exact K.Base.le.refl _ | assumption) (H' := [_, wA none]) rfl ⟨rfl, none, 0, rfl, rfl⟩
 | some (p, none) =>
  refine K.enter Tryz.func62 rfl (Nat.le_of_ble_eq_true rfl) (fun F => ?_)
  refine K.WC.open ?_
  simp only [wH, wv, List.cons_append, List.nil_append]
  (repeat' first | refine X.rq ?_ | refine X.rc ?_ ?_ <;> intro hc <;> try omega)
  refine K.WL.nilBuf 5 1 ?_
  refine K.l_append_at 0 rfl (Fx.und rfl) (Fx.und rfl) rfl (Fx.sz rfl) (Fx.zr rfl) rfl (Fx.byt rfl) rfl rfl K.src_nil (by omega) (by omega) rfl (fun a' cap' => ?_)
  simp only [Go.K.nmz]
  (repeat' first | refine X.rq ?_ | refine X.rc ?_ ?_ <;> intro hc <;> try omega)
  refine K.AT.perm (List.Perm.swap ..) (K.AT.close (wH (some (p, none))) (K.AT.perm (List.Perm.swap ..) ?_))
  refine K.done (by first | exact Or.inl rfl | exact Or.inr rfl) rfl (by first | exact K.Base.le.refl _ | assumption) (H' := [_, wA (some (p, none))]) rfl ⟨rfl, a', cap', rfl, rfl⟩
 | some (p, some (a0, cap0, l)) =>
  simp only [wb] at hl
  refine K.enter Tryz.func62 rfl (Nat.le_of_ble_eq_true rfl) (fun F => ?_)
  refine K.WC.open ?_
  simp only [wH, wv, List.cons_append, List.nil_append]
  (repeat' first | refine X.rq ?_ | refine X.rc ?_ ?_ <;> intro hc <;> try omega)
  refine K.WL.nilBuf 5 1 ?_
  refine K.l_append_at 0 rfl (Fx.und rfl) (Fx.und rfl) rfl (Fx.sz rfl) (Fx.zr rfl) rfl (Fx.byt rfl) rfl rfl (K.src_buf 1 rfl (by simp [K.u8_one]) (by simp)) (by omega) (by omega) rfl (fun a' cap' => ?_)
  simp only [Go.K.nmz]
  (repeat' first | refine X.rq ?_ | refine X.rc ?_ ?_ <;> intro hc <;> try omega)
  rw [Nat.zero_add]
  refine K.AT.perm (K.perm3 ..) (K.AT.close (wH (some (p, some (a0, cap0, l)))) (K.AT.perm (List.Perm.swap ..) ?_))
  refine K.done (by first | exact Or.inl rfl | exact Or.inr rfl) rfl (by first | exact K.Base.le.refl _ | assumption) (H' := [_, wA (some (p, some (a0, cap0, l)))]) rfl ⟨rfl, a', cap', rfl, rfl⟩
end Go.Proofs.YtmcdaegaopfihaaGreat.Ca
end

section
namespace Go.K
open Go
set_option linter.unusedVariables false
set_option linter.unusedSimpArgs false

abbrev up1 (v : Value) : List PanicEntry := [{ v := v, recovered := false }]
def TrX (P : Program) (f : FuncId) (args : List Value) (h : Base) (Pre : List Asrt) (Post PX : Value → Base → List Asrt → Prop) : Prop :=
 ∀ F w, Ok h (Pre ++ F) w → Calls P f args.toArray w fun e w' => (∃ v, e = .returned v ∧ ∃ h' H', h.le h' ∧ Post v h' H' ∧ Ok h' (H' ++ F) w') ∨ ∃ v, e = .panicked (up1 v) ∧ ∃ h' H', h.le h' ∧ PX v h' H' ∧ Ok h' (H' ++ F) w'
def postX (P : Program) (fn : Func) (R RX : Value → World → Prop) : Exit → Act → World → Prop := bodyPost P fn fun e w' => (∃ v, e = .returned v ∧ R v w') ∨ ∃ v, e = .panicked (up1 v) ∧ RX v w'
section
variable {P : Program} {n : NN} {Q : Exit → Act → World → Prop} {E : Env} {h : Base} {H : List Asrt} {ops : Array Oper} {rest : List Oper}
variable {d : Nat} {ty : TypeId} {ps : String} {af : Array Edge}
end
end Go.K
end

section
namespace Go.K
open Go
set_option linter.unusedVariables false
set_option linter.unusedSimpArgs false

section
variable {P : Program} {n : NN} {Q : Exit → Act → World → Prop} {E : Env} {h h' h0 : Base} {H K R F : List Asrt} {ops : Array Oper} {rest : List Oper}
variable {op : Op} {t t' ty : TypeId} {ps : String} {af : Array Edge} {d i b : Nat} {v : Value} {x y : Operand} {dst : Option Nat} {g : Option (Nat × Bool)} {σ : Sch} {ro : Option Nat}

def Wd (ro : Option Nat) : Fence := { Fence.wide with round := ro }
def plainOp (o : Oper) : Bool := match o.op with
 | .defer _ => false
 | _ => true
/-! ### Code in a round's frame -/
structure WR (P : Program) (n : NN) (ro : Option Nat) (c : Code) (Q : Exit → Act → World → Prop) (E : Env) (h : Base) (H : List Asrt) : Prop where
 run : ∀ a w, Fr n E a → Ok h H w → c.wpIn (Wd ro) 0 P Q a w
/-! ### Calls of yield -/
def YieldK (P : Program) (l : Nat) {α : Type} (Enc : Base → α → List Value → Prop) (J Jx : List α → Base → Asrt → Prop) (xs : List α) : Prop :=
 ∀ pre x h args A R w, pre ++ [x] <+: xs → Enc h x args → J pre h A → Ok h (A :: R) w →
  YieldAt (Wd none) 0 P l args.toArray w fun e w' => ∃ h' A', h.le h' ∧ Ok h' (A' :: R) w' ∧ ((e = .returned (.bool true) ∧ J (pre ++ [x]) h' A') ∨ (e = .returned (.bool false) ∧ Jx (pre ++ [x]) h' A'))

/-! ### A region that draws its order, with a call of yield behind all else -/
def backB (ops : Array Oper) (k : Nat) : Bool := (List.range k).all fun i => match ops[i]? with
 | some o => o.guard.isNone && plainOp o && o.after.all fun e => Nat.blt e.on i
 | none => false
def tailB (ops : Array Oper) (k : Nat) : Bool :=
 Nat.blt k ops.size && Region.sinkB .any ops k && Region.chainB .any ops k && backB ops k && Region.seqB .any ops (ops.size - k) k ((List.replicate k true ++ List.replicate (ops.size - k) false).toArray)

/-! ### What an iterator promises; the statement -/
def IterK (P : Program) (gf : Nat) (lb : List Value) {α : Type} (Enc : Base → α → List Value → Prop) (h0 : Base) (Pre : List Asrt) (xs : List α) : Prop :=
 ∀ (l : Nat) (J Jx : List α → Base → Asrt → Prop), (∀ pre h h' A, h.le h' → J pre h A → J pre h' A) → (∀ pre h h' A, h.le h' → Jx pre h A → Jx pre h' A) → YieldK P l Enc J Jx xs →
  ∀ F A w h, h0.le h → J [] h A → Ok h (Pre ++ A :: F) w →
   CallsIn (Wd none) 0 P gf (.func (.yield l) #[] #[] :: lb).toArray w fun e w' => (∃ v, e = .returned v) ∧ ∃ h' A', h.le h' ∧ Ok h' (Pre ++ A' :: F) w' ∧ (J xs h' A' ∨ ∃ pre, pre <+: xs ∧ Jx pre h' A')

def envP : List Nat → List Value → Env → Env
 | p :: ps, v :: vs, E => envP ps vs ((p, v) :: E)
 | _, _, E => E
abbrev mark (D : Nat) : Deferred := { target := .collected D, args := #[] }
def RP {α : Type} (J : List α → Base → Asrt → Prop) (Jx : Code → List α → Base → Asrt → Prop) (pre : List α) (h : Base) (R : List Asrt) : Exit → Act → World → Prop
 | .normal, _, w => ∃ h' A', h.le h' ∧ J pre h' A' ∧ Ok h' (A' :: R) w
 | .ret, _, w => ∃ h' A', h.le h' ∧ Jx .ret pre h' A' ∧ Ok h' (A' :: R) w
 | .exit id, _, w => ∃ h' A', h.le h' ∧ Jx (.exit id) pre h' A' ∧ Ok h' (A' :: R) w
 | .goto q, _, w => ∃ h' A', h.le h' ∧ Jx (.goto q) pre h' A' ∧ Ok h' (A' :: R) w
 | .panic _, _, _ => False
 | .outgrown, _, _ => False
def AP (n : NN) (E : Env) (h : Base) (H : List Asrt) : Exit → Act → World → Prop := Exit.then (fun a w => Fr n E a ∧ Ok h H w) (fun _ _ _ => False)

/-! ### Functions that leave with a mark -/
def postM (P : Program) (fn : Func) (R : Value → World → Prop) : Exit → Act → World → Prop := bodyPostM Fence.wide 0 P fn fun e w' => ∃ v, e = .returned v ∧ R v w'
end
end Go.K
end

section
namespace Go.K
open Go
set_option linter.unusedVariables false
set_option linter.unusedSimpArgs false
set_option linter.unusedSectionVars false

section
variable {P : Program} {n : NN} {Q : Exit → Act → World → Prop} {E : Env} {h h' h0 : Base} {H K R F : List Asrt} {ops : Array Oper} {rest : List Oper}
variable {op : Op} {t t' ty : TypeId} {ps : String} {af : Array Edge} {d i b : Nat} {v : Value} {x y : Operand} {dst : Option Nat} {g : Option (Nat × Bool)} {ro : Option Nat}

theorem run_callB {f : FuncId} {args : List Operand} {vals fst caps : List Value} {ats : Array TypeId} {a : Act} {w : World} (hc : Callable P f) (fa : Fr n E a) (hx : lkO E x = some (.func (.func f) fst.toArray caps.toArray)) (ha : evArgs E args = some vals) :
  (execOp a.eval ⟨dst, .call ⟨.value x, args.toArray, ats⟩, ty, ps, af, g⟩).run P w = .ok (.enter f (fst ++ vals ++ caps).toArray) w := by
 have h1 := evArgs_eval fa args vals ha
 have h2 : args.toArray.map a.eval = vals.toArray := by rw [List.map_toArray, h1]
 simp only [execOp, resolve, fa.eval hx, Deferred.ofValue, h2, Sem.run_bind, Sem.run_pure, Result.andThen_ok, invoke]
 simp only [List.append_toArray]
 exact hc _ _
theorem l_callB {f : FuncId} {args : List Operand} {vals fst caps : List Value} {ats : Array TypeId} {Pre F : List Asrt} {Post : Value → Base → List Asrt → Prop} (hc : Callable P f) (hx : lkO E x = some (.func (.func f) fst.toArray caps.toArray)) (ha : evArgs E args = some vals) (ht : Tr P f (fst ++ vals ++ caps) h Pre Post)
  (hp : H.Perm (Pre ++ F)) (hd : Nat.blt d n = true) (hk : ∀ v h' H', h.le h' → Post v h' H' → WL P n ops Q rest ((d, v) :: E) h' (H' ++ F)) :
  WL P n ops Q (⟨some d, .call ⟨.value x, args.toArray, ats⟩, ty, ps, af, none⟩ :: rest) E h H :=
 ⟨fun a w fa ok => wpList_plain rfl fun K hK => by
  unfold Oper.wp
  rw [run_callB hc fa hx ha, Oper.upon_enter]
  refine Calls.mono (ht F w (ok.perm hp)) ?_
  rintro e w' ⟨v, rfl, h', H', hle, hP, ok'⟩
  exact hK _ _ ((hk v h' H' hle hP).run _ _ (fa.put v hd) ok')⟩
/-! ### What is put off; what catches -/
def postD (P : Program) (fn : Func) (R : Value → World → Prop) : Exit → Act → World → Prop := bodyPostD P fn fun e w' => ∃ v, e = .returned v ∧ R v w'
def TrD (P : Program) (f : FuncId) (args : List Value) (u : FrameMode) (h : Base) (Pre : List Asrt) (Post : FrameMode → Base → List Asrt → Prop) : Prop :=
 ∀ F w, Ok h (Pre ++ F) w → CallsD P f args.toArray u w fun e u' w' => (∃ v, e = .returned v) ∧ ∃ h' H', h.le h' ∧ Post u' h' H' ∧ Ok h' (H' ++ F) w'
def modeOf : Exit → FrameMode
 | .panic ch => .panicking ch
 | _ => .returning
def postS (P : Program) (fn : Func) (R : World → Prop) : Exit → Act → World → Prop
 | .normal, a, w | .ret, a, w => a.defers = [] ∧ (∃ v, (results fn a.tmps).run P w = .ok v w) ∧ R w
 | _, _, _ => False
end
/-! ### Code in a sane frame -/
def wpB (P : Program) (c : Code) (Q : Exit → Act → World → Prop) (a : Act) (w : World) : Prop :=
 ∀ (b : Frame) (k : List Item) (cs : List Frame), (∃ fn, P.funcs[b.fn]? = some fn) → ∃ e a' w', Q e a' w' ∧ Arrives P (lone (b.at a (.code c :: k)) cs w) b k cs e a' w'
section
variable {P : Program} {n : NN} {Q : Exit → Act → World → Prop} {E : Env} {h h' h0 : Base} {H K R F : List Asrt} {ops : Array Oper} {rest : List Oper}
variable {op : Op} {t t' ty : TypeId} {ps : String} {af : Array Edge} {d i b : Nat} {v : Value} {x y : Operand} {dst : Option Nat} {g : Option (Nat × Bool)} {ro : Option Nat}
structure WB (P : Program) (n : NN) (c : Code) (Q : Exit → Act → World → Prop) (E : Env) (h : Base) (H : List Asrt) : Prop where
 run : ∀ a w, Fr n E a → Ok h H w → wpB P c Q a w
/-! ### A round that may let something come up -/
def roundPostX (P : Program) (l : Nat) (R : Ending → World → Prop) : Exit → Act → World → Prop
 | .normal, _, w => ∃ v w', (Instr.endRound l none).run P w = .ok v w' ∧ R (.returned v) w'
 | .ret, _, w => ∃ v w', (Instr.endRound l (some .ret)).run P w = .ok v w' ∧ R (.returned v) w'
 | .exit id, _, w => ∃ v w', (Instr.endRound l (some (.exit id))).run P w = .ok v w' ∧ R (.returned v) w'
 | .goto t, _, w => ∃ v w', (Instr.endRound l (some (.goto t))).run P w = .ok v w' ∧ R (.returned v) w'
 | .panic ch, a, w => a.defers = [] ∧ R (.panicked ch) w
 | .outgrown, _, _ => False
/-! ### What an iterator promises -/
def YieldX (P : Program) (l : Nat) {α : Type} (Enc : Base → α → List Value → Prop) (J Jx : List α → Base → Asrt → Prop) (JP : Value → List α → Base → Asrt → Prop) (xs : List α) : Prop :=
 ∀ pre x h args A R w, pre ++ [x] <+: xs → Enc h x args → J pre h A → Ok h (A :: R) w →
  YieldAt (Wd none) 0 P l args.toArray w fun e w' => ∃ h' A', h.le h' ∧ Ok h' (A' :: R) w' ∧ ((e = .returned (.bool true) ∧ J (pre ++ [x]) h' A') ∨ (e = .returned (.bool false) ∧ Jx (pre ++ [x]) h' A') ∨ ∃ v, e = .panicked (up1 v) ∧ JP v (pre ++ [x]) h' A')
def IterX (P : Program) (gf : Nat) (lb : List Value) {α : Type} (Enc : Base → α → List Value → Prop) (h0 : Base) (Pre : List Asrt) (xs : List α) : Prop :=
 ∀ (l : Nat) (J Jx : List α → Base → Asrt → Prop) (JP : Value → List α → Base → Asrt → Prop), (∀ pre h h' A, h.le h' → J pre h A → J pre h' A) → (∀ pre h h' A, h.le h' → Jx pre h A → Jx pre h' A) → (∀ v pre h h' A, h.le h' → JP v pre h A → JP v pre h' A) → YieldX P l Enc J Jx JP xs →
  ∀ F A w h, h0.le h → J [] h A → Ok h (Pre ++ A :: F) w →
   Calls P gf (.func (.yield l) #[] #[] :: lb).toArray w fun e w' => ∃ h' A', h.le h' ∧ Ok h' (Pre ++ A' :: F) w' ∧ (((∃ v, e = .returned v) ∧ (J xs h' A' ∨ ∃ pre, pre <+: xs ∧ Jx pre h' A')) ∨ ∃ v pre, e = .panicked (up1 v) ∧ pre <+: xs ∧ JP v pre h' A')
def postI (P : Program) (fn : Func) (X : World → Prop) (XP : Value → World → Prop) : Exit → Act → World → Prop := bodyPost P fn fun e w' => ((∃ v, e = .returned v) ∧ X w') ∨ ∃ v, e = .panicked (up1 v) ∧ XP v w'
/-! ### The statement -/
def RPX {α : Type} (J : List α → Base → Asrt → Prop) (Jx : Code → List α → Base → Asrt → Prop) (JP : Value → List α → Base → Asrt → Prop) (pre : List α) (h : Base) (R : List Asrt) : Exit → Act → World → Prop
 | .normal, _, w => ∃ h' A', h.le h' ∧ J pre h' A' ∧ Ok h' (A' :: R) w
 | .ret, _, w => ∃ h' A', h.le h' ∧ Jx .ret pre h' A' ∧ Ok h' (A' :: R) w
 | .exit id, _, w => ∃ h' A', h.le h' ∧ Jx (.exit id) pre h' A' ∧ Ok h' (A' :: R) w
 | .goto q, _, w => ∃ h' A', h.le h' ∧ Jx (.goto q) pre h' A' ∧ Ok h' (A' :: R) w
 | .panic ch, a, w => a.defers = [] ∧ ∃ v, ch = up1 v ∧ ∃ h' A', h.le h' ∧ JP v pre h' A' ∧ Ok h' (A' :: R) w
 | .outgrown, _, _ => False
end
/-! ### Ranges and their marks -/
section
variable {P : Program} {n : NN} {Q : Exit → Act → World → Prop} {E : Env} {h h' h0 : Base} {H K R F : List Asrt} {ops : Array Oper} {rest : List Oper}
def marksA (Ds : List Nat) : List Asrt := Ds.map fun D => objA D (.deferred (some []))
def postMX (P : Program) (fn : Func) (R RX : Value → World → Prop) : Exit → Act → World → Prop := bodyPostM Fence.wide 0 P fn fun e w' => (∃ v, e = .returned v ∧ R v w') ∨ ∃ v, e = .panicked (up1 v) ∧ RX v w'
end
end Go.K
end

section
namespace Go.K
open Go
set_option linter.unusedVariables false
set_option linter.unusedSimpArgs false
set_option linter.unusedSectionVars false
section
variable {P : Program} {n : NN} {Q : Exit → Act → World → Prop} {E : Env} {h h' h0 : Base} {H K R F : List Asrt} {ops : Array Oper} {rest : List Oper}
variable {op : Op} {t t' ty : TypeId} {ps : String} {af : Array Edge} {d i b : Nat} {v : Value} {x y : Operand} {dst : Option Nat} {g : Option (Nat × Bool)} {dd : TypeDesc}
def isFn : TypeDesc → Bool | .func _ _ _ => true | _ => false
def isIfc : TypeDesc → Bool | .interface _ => true | _ => false
theorem p_makeFuncB {f : FuncId} {fst caps : List Operand} {vs us : List Value} (hf : evArgs E fst = some vs) (ha : evArgs E caps = some us) : Pu P n E h K ⟨dst, .makeFunc (.func f) fst.toArray caps.toArray, ty, ps, af, g⟩ (.func (.func f) vs.toArray us.toArray) :=
 ⟨fun s w fa _ => by
  have h1 := evArgs_eval fa caps us ha
  have h2 := evArgs_eval fa fst vs hf
  simp [execOp, Instr.makeFunc, h1, h2]⟩

/-! ### Nothing comes up -/
def QN (Q : Exit → Act → World → Prop) : Exit → Act → World → Prop
 | .panic _, _, _ => False
 | e, a, w => Q e a w
end
end Go.K
end

section
namespace Go.K
open Go
set_option linter.unusedVariables false
set_option linter.unusedSimpArgs false
set_option linter.unusedSectionVars false
section
variable {P : Program} {n : NN} {Q : Exit → Act → World → Prop} {E : Env} {h h' h0 : Base} {H K R F : List Asrt} {ops : Array Oper} {rest : List Oper}
variable {op : Op} {t t2 ty : TypeId} {ps : String} {af : Array Edge} {d : Nat} {v : Value} {x y : Operand} {dst : Option Nat}
theorem WL.capB {L : List Oper} {T s b m cap : Nat} {cs : List Value} (j : Nat) (hj : H[j]? = some (bufA T s (some b) m cap cs)) (hk : m ≤ cap → WL P n ops Q L E h H) : WL P n ops Q L E h H := ⟨fun a w fa ok => by
 have := ok.sat.own _ (List.mem_of_getElem? hj)
 obtain ⟨sp, fz, g1, g2, g3, g4, g5, g6⟩ := this
 exact (hk g4).run a w fa ok⟩
end
end Go.K
end
