/-
  KC: stores of whole elements into an owned row. Generic over the program. Conditions: none.
-/
import Derived.Test.YtjgfgpdkcojnmaaKB
namespace Go.K
set_option linter.unusedVariables false
set_option linter.unusedSimpArgs false
set_option maxRecDepth 10000

section
variable {P : Program} {n : Nat} {Q : Exit → Act → World → Prop} {E : Env} {h h' h0 : Base} {H K R : List Asrt} {ops : Array Oper} {rest : List Oper}
variable {op : Op} {t t' ty : TypeId} {ps : String} {af : Array Edge} {d i : Nat} {v : Value} {x y : Operand} {dst : Option Nat} {g : Option (Nat × Bool)}

theorem Ok.storesF {b : Nat} {T : TypeId} {fz : Nat × Nat} : ∀ (us pre cs post : List Value) (w : World), us.length = cs.length → (∀ u ∈ us, oneCell u = true) → Free fz (pre.length + us.length) → Ok h (blkF b T (pre ++ cs ++ post) fz :: H) w →
    ∃ w', (storeCells ⟨b, 0, none⟩ us pre.length).run P w = .ok () w' ∧ Ok h (blkF b T (pre ++ us ++ post) fz :: H) w'
  | [], pre, cs, post, w, hl, _, _, ok => by
    obtain rfl : cs = [] := List.eq_nil_of_length_eq_zero hl.symm
    exact ⟨w, by simp [storeCells], ok⟩
  | u :: us, pre, cs, post, w, hl, h1, hf, ok => by
    match cs, hl with
    | c :: cs, hl =>
      have hw : w.heap[b]? = some (.cells (pre ++ c :: cs ++ post).toArray T fz) := ok.own_head
      have e1 := run_store1 (P := P) (o := pre.length) hw (by simp) (hf _ (by simp)) u (h1 u (List.mem_cons_self ..))
      have ok1 := ok.store (o := pre.length) u
      rw [show (pre ++ c :: cs ++ post).set pre.length u = (pre ++ [u]) ++ cs ++ post from by simp] at ok1
      obtain ⟨w', e2, ok2⟩ := Ok.storesF us (pre ++ [u]) cs post _ (by simpa using hl) (fun v hv => h1 v (List.mem_cons_of_mem _ hv)) (by simpa [Nat.add_assoc, Nat.add_comm 1] using hf) ok1
      refine ⟨w', ?_, by simpa using ok2⟩
      rw [storeCells]
      simp only [Sem.run_bind]
      rw [show ((⟨b, 0, none⟩ : Addr).add pre.length) = ⟨b, pre.length, none⟩ from by rw [add_none, Nat.zero_add], e1]
      simp only [Result.andThen_ok]
      rw [show (pre ++ [u]).length = pre.length + 1 from by simp] at e2
      exact e2
theorem storeCells_at (b o : Nat) : ∀ (us : List Value) (k : Nat), storeCells ⟨b, o, none⟩ us k = storeCells ⟨b, 0, none⟩ us (o + k)
  | [], _ => by simp [storeCells]
  | u :: us, k => by
    rw [storeCells, storeCells, storeCells_at b o us (k + 1)]
    simp [add_none, Nat.add_assoc]
theorem l_storeN {b o : Nat} {T : TypeId} {fz : Nat × Nat} {pre cs post us : List Value} (hs : szOf P t = some us.length) (hx : lkO E x = some (.pointer (some ⟨b, o, none⟩))) (hy : lkO E y = some (.agg us.toArray)) (hv : ones us = true)
    (hl : us.length = cs.length) (ho : pre.length = o) (hf : Free fz (o + us.length)) (hk : WL P n ops Q rest E h (blkF b T (pre ++ us ++ post) fz :: H)) :
    WL P n ops Q (⟨none, .store t x y, ty, ps, af, none⟩ :: rest) E h (blkF b T (pre ++ cs ++ post) fz :: H) :=
  ⟨fun a w fa ok => wpList_plain rfl fun K hK => by
    subst ho
    unfold Oper.wp
    obtain ⟨w', e, ok'⟩ := Ok.storesF (P := P) us pre cs post w hl (by simpa [ones] using hv) hf ok
    have : (execOp a.eval ⟨none, .store t x y, ty, ps, af, none⟩).run P w = .ok .skip w' := by
      simp only [execOp, fa.eval hx, fa.eval hy, Instr.storeAt, Instr.sureAddr, storeVar, Sem.run_bind, Sem.run_pure, Result.andThen_ok, run_sizeOf hs, Value.cells, List.size_toArray, ne_eq, not_true_eq_false, if_false]
      have e' : (storeCells ⟨b, pre.length, none⟩ us).run P w = .ok () w' := by rw [storeCells_at, Nat.add_zero]; exact e
      simp [e']
    rw [this, Oper.upon_skip]
    exact hK _ _ (hk.run _ _ fa ok')⟩
theorem flatten_len {s : Nat} : ∀ (es : List (List Value)), (∀ e ∈ es, e.length = s) → es.flatten.length = es.length * s
  | [], _ => by simp
  | e :: es, h => by
    rw [List.flatten_cons, List.length_append, h e (List.mem_cons_self ..), flatten_len es fun x hx => h x (List.mem_cons_of_mem _ hx), List.length_cons, Nat.add_mul]
    omega
theorem flat_parts {s : Nat} : ∀ (es : List (List Value)) (i : Nat) (hi : i < es.length), (∀ e ∈ es, e.length = s) → es.flatten = (es.take i).flatten ++ es[i] ++ (es.drop (i + 1)).flatten ∧ (es.take i).flatten.length = i * s := fun es i hi hz => by
  constructor
  · have e := List.take_append_drop i es
    rw [List.drop_eq_getElem_cons hi] at e
    have e2 := congrArg List.flatten e
    rw [List.flatten_append, List.flatten_cons, ← List.append_assoc] at e2
    exact e2.symm
  · rw [flatten_len (es.take i) fun e he => hz e (List.mem_of_mem_take he), List.length_take, Nat.min_eq_left (by omega)]
/-- A whole element is stored into an owned row, which is open. -/
theorem l_storeRow {b s i : Nat} {T : TypeId} {fz : Nat × Nat} {es : List (List Value)} {sp us : List Value} (hs : szOf P t = some us.length) (hx : lkO E x = some (.pointer (some ⟨b, i * s, none⟩))) (hy : lkO E y = some (.agg us.toArray)) (hv : ones us = true)
    (hz : ∀ e ∈ es, e.length = s) (hu : us.length = s) (hi : i < es.length) (hf : Free fz (es.length * s)) (hk : WL P n ops Q rest E h (blkF b T ((es.set i us).flatten ++ sp) fz :: H)) :
    WL P n ops Q (⟨none, .store t x y, ty, ps, af, none⟩ :: rest) E h (blkF b T (es.flatten ++ sp) fz :: H) := by
  obtain ⟨p1, p2⟩ := flat_parts es i hi hz
  have hz' : ∀ e ∈ es.set i us, e.length = s := fun e he => by
    rcases List.mem_or_eq_of_mem_set he with h' | h'
    · exact hz e h'
    · rw [h', hu]
  obtain ⟨q1, q2⟩ := flat_parts (es.set i us) i (by simpa using hi) hz'
  rw [List.take_set_of_le (Nat.le_refl _), List.drop_set_of_lt (by omega), List.getElem_set_self] at q1
  rw [q1, List.append_assoc] at hk
  rw [p1, List.append_assoc]
  refine l_storeN hs hx hy hv (by rw [hu, hz _ (List.getElem_mem hi)]) p2 (fun o ho => hf o ?_) hk
  have h1 : (i + 1) * s ≤ es.length * s := Nat.mul_le_mul_right _ hi
  rw [Nat.add_mul, Nat.one_mul] at h1
  rw [hu] at ho
  omega
theorem WL.drop {l : List Oper} {A : Asrt} (hx : WL P n ops Q l E h H) : WL P n ops Q l E h (A :: H) := ⟨fun a w fa ok => hx.run a w fa ok.drop⟩
end
end Go.K
