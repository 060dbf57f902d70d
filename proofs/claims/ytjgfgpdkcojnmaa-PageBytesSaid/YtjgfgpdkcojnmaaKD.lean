/-
  KD: functions without a body, which compute alone; slices read whole. Generic over the program. Conditions: none.
-/
import Derived.Test.YtjgfgpdkcojnmaaKC
import Derived.Laws.Externs
import Derived.Lib.Bytealg
namespace Go.K
set_option linter.unusedVariables false
set_option linter.unusedSimpArgs false

section
variable {P : Program} {n : Nat} {Q : Exit → Act → World → Prop} {E : Env} {h h' h0 : Base} {H K R : List Asrt} {ops : Array Oper} {rest : List Oper}
variable {op : Op} {t t' ty : TypeId} {ps : String} {af : Array Edge} {d i : Nat} {v : Value} {x y : Operand} {dst : Option Nat} {g : Option (Nat × Bool)}

theorem p_ext {f : FuncId} {args : List Operand} {vals : List Value} {ats : Array TypeId} (hr : ∀ w, (callFunc f vals.toArray).run P w = .ok (.value v) w) (ha : evArgs E args = some vals) :
    Pu P n E h K ⟨dst, .call ⟨.value (.func f), args.toArray, ats⟩, ty, ps, af, g⟩ v :=
  ⟨fun a w fa _ => by
    have h1 := evArgs_eval fa args vals ha
    have h2 : args.toArray.map a.eval = vals.toArray := by rw [List.map_toArray, h1]
    simp only [execOp, resolve, Act.eval, Deferred.ofValue, h2, Sem.run_bind, Sem.run_pure, Result.andThen_ok, invoke]
    simp only [Array.empty_append, Array.append_empty]
    exact hr w⟩
theorem p_makeFunc {f : FuncId} {caps : List Operand} {vals : List Value} (ha : evArgs E caps = some vals) : Pu P n E h K ⟨dst, .makeFunc (.func f) #[] caps.toArray, ty, ps, af, g⟩ (.func (.func f) #[] vals.toArray) :=
  ⟨fun a w fa _ => by
    have h1 := evArgs_eval fa caps vals ha
    have h2 : caps.toArray.map a.eval = vals.toArray := by rw [List.map_toArray, h1]
    simp [execOp, Instr.makeFunc, h2]⟩
/-- An element of an array's value, of one cell. -/
theorem p_indexV {e : TypeId} {la : Nat} {k : IntKind} {m : Int} {cs : List Value} (hu : P.underlying t = some (.array la e)) (hs : szOf P e = some 1) (hg : aggOf P e = some false) (hx : lkO E x = some (.agg cs.toArray)) (hy : lkO E y = some (.int k m)) (h0 : 0 ≤ m) (h1 : m < la) (hc : cs[m.toNat]? = some v) :
    Pu P n E h K ⟨dst, .index t x y, ty, ps, af, g⟩ v :=
  ⟨fun a w fa _ => by
    have hp : (part e cs.toArray m.toNat).run P w = .ok v w := run_part w hg hc
    simp [execOp, fa.eval hx, fa.eval hy, Instr.index, asIntOf, run_underlying hu, h0, h1, run_sizeOf hs, hp]⟩
theorem ext_cmp {f : FuncId} {fn : Func} (hf : P.funcs[f]? = some fn) (hname : (fn.name == "runtime.NumGoroutine") = false) (hb : fn.body.isNone = true) (hn : Extern.findNext fn = none) (he : Extern.find fn = some Extern.BytealgCompare.compare) (a b : ByteArray) (w : World) :
    (callFunc f [.string a, .string b].toArray).run P w = .ok (.value (.int .i64 (Lib.compareBytes a.data.toList b.data.toList))) w := by
  rw [run_callFunc_extern hf hname hb hn he]
  show ((Extern.BytealgCompare.compare #[.string a, .string b]).run P w).andThen _ = _
  rw [Lib.run_compareString]
  rfl
theorem cmp_cases : ∀ (a b : List UInt8), Lib.compareBytes a b = -1 ∨ Lib.compareBytes a b = 0 ∨ Lib.compareBytes a b = 1
  | [], [] => .inr (.inl rfl)
  | [], _ :: _ => .inl rfl
  | _ :: _, [] => .inr (.inr rfl)
  | a :: as, b :: bs => by
    rw [Lib.compareBytes]
    split
    · exact .inl rfl
    · split
      · exact .inr (.inr rfl)
      · exact cmp_cases as bs
/-- The comparison behind a beginning that is the same. -/
theorem cmp_drop {a b : List UInt8} {j : Nat} (h : ∀ i, i < j → ∃ c, a[i]? = some c ∧ b[i]? = some c) : Lib.compareBytes a b = Lib.compareBytes (a.drop j) (b.drop j) := by
  induction j with
  | zero => rfl
  | succ j ih =>
    rw [ih fun i hi => h i (by omega)]
    obtain ⟨c, h1, h2⟩ := h j (by omega)
    obtain ⟨l1, e1⟩ := List.getElem?_eq_some_iff.1 h1
    obtain ⟨l2, e2⟩ := List.getElem?_eq_some_iff.1 h2
    rw [List.drop_eq_getElem_cons l1, List.drop_eq_getElem_cons l2, e1, e2, Lib.compareBytes, if_neg (UInt8.lt_irrefl c), if_neg (UInt8.lt_irrefl c)]
theorem cmp_head {a b : List UInt8} {j : Nat} {c d : UInt8} (h : ∀ i, i < j → ∃ c, a[i]? = some c ∧ b[i]? = some c) (ha : a[j]? = some c) (hb : b[j]? = some d) : (c.toNat < d.toNat → Lib.compareBytes a b = -1) ∧ (d.toNat < c.toNat → Lib.compareBytes a b = 1) := by
  obtain ⟨l1, e1⟩ := List.getElem?_eq_some_iff.1 ha
  obtain ⟨l2, e2⟩ := List.getElem?_eq_some_iff.1 hb
  rw [cmp_drop h, List.drop_eq_getElem_cons l1, List.drop_eq_getElem_cons l2, e1, e2, Lib.compareBytes]
  refine ⟨fun hl => ?_, fun hl => ?_⟩
  · rw [if_pos (UInt8.lt_iff_toNat_lt.2 hl)]
  · rw [if_neg (fun hx => by have := UInt8.lt_iff_toNat_lt.1 hx; omega), if_pos (UInt8.lt_iff_toNat_lt.2 hl)]
theorem cmp_end {a b : List UInt8} (h : ∀ i, i < min a.length b.length → ∃ c, a[i]? = some c ∧ b[i]? = some c) : Lib.compareBytes a b = if a.length < b.length then -1 else if b.length < a.length then 1 else 0 := by
  rw [cmp_drop h]
  rcases Nat.lt_trichotomy a.length b.length with hl | hl | hl
  · rw [if_pos hl, Nat.min_eq_left (by omega), List.drop_length]
    have : (b.drop a.length) ≠ [] := fun e => by have := congrArg List.length e; simp at this; omega
    cases hb : b.drop a.length with
    | nil => exact absurd hb this
    | cons => rfl
  · rw [if_neg (by omega), if_neg (by omega), hl, Nat.min_self, List.drop_length, ← hl, List.drop_length]; rfl
  · rw [if_neg (by omega), if_pos hl, Nat.min_eq_right (by omega), List.drop_length]
    have : (a.drop b.length) ≠ [] := fun e => by have := congrArg List.length e; simp at this; omega
    cases hb : a.drop b.length with
    | nil => exact absurd hb this
    | cons => rfl
end
end Go.K
