/-
  KB: struct equality, stores of structs, calls through function values, results in cells, arrays, rows of structs. Generic over the program. Conditions: none.
-/
import Derived.Test.YtjgfgpdkcojnmaaK8
import Derived.Laws.StructEq
import Derived.Laws.MakeOwn
namespace Go.K
set_option linter.unusedVariables false
set_option linter.unusedSimpArgs false
set_option maxRecDepth 10000

/-! ### Flat structs compared -/
def leafV : TypeDesc → Value → Value → Option Bool
  | .int _, .int k x, .int k' y => if k = k' then some (decide (x = y)) else none
  | .bool, .bool x, .bool y => some (decide (x = y))
  | .string, .string x, .string y => some (decide (x = y))
  | _, _, _ => none
def leafs : List TypeDesc → List Value → List Value → Option Bool
  | [], [], [] => some true
  | d :: ds, a :: r, b :: s => match leafV d a b, leafs ds r s with
    | some p, some q => some (p && q)
    | _, _ => none
  | _, _, _ => none
/-- The leaf types of a flat struct's fields. -/
def flatF (P : Program) : Nat → List Field → Option (List TypeDesc)
  | _, [] => some []
  | i, f :: fs => match P.underlying f.type, flatF P (i + 1) fs with
    | some d, some ds => if f.name ≠ "_" ∧ f.offset = i ∧ aggOf P f.type = some false then some (d :: ds) else none
    | _, _ => none
def flatD (P : Program) (t : TypeId) : Option (List TypeDesc) := match P.underlying t with
  | some (.struct fs) => if P.stoodInHeld t = false ∧ P.eqGuardType P.depth t = false then flatF P 0 fs.toList else none
  | _ => none

section
variable {P : Program} {n : Nat} {Q : Exit → Act → World → Prop} {E : Env} {h h' h0 : Base} {H K R : List Asrt} {ops : Array Oper} {rest : List Oper}
variable {op : Op} {t t' ty : TypeId} {ps : String} {af : Array Edge} {d i : Nat} {v : Value} {x y : Operand} {dst : Option Nat} {g : Option (Nat × Bool)} {σ : Sch}

theorem run_leaf (w : World) (m : Nat) {dd : TypeDesc} {a b : Value} {r : Bool} (hu : P.underlying t = some dd) (hl : leafV dd a b = some r) : (Op.equalIn (m + 1) t a b).run P w = .ok r w := by
  unfold leafV at hl
  split at hl
  · rename_i k0 k x k' y
    split at hl
    · rename_i hk
      subst hk
      cases hl
      have e : (x == y) = decide (x = y) := beqd x y
      simp [Op.equalIn, run_underlying hu, e]
    · cases hl
  · rename_i x y
    cases hl
    have e : (x == y) = decide (x = y) := beqd x y
    simp [Op.equalIn, run_underlying hu, e]
  · rename_i x y
    cases hl
    have e : (x == y) = decide (x = y) := by
      rw [beq_toListBytes, Bool.eq_iff_iff, decide_eq_true_iff, beq_iff_eq, ByteArray.toList_eq, ByteArray.toList_eq]
      cases x; cases y
      simp
    simp [Op.equalIn, run_underlying hu, e]
  · cases hl
theorem run_part (w : World) {cs : List Value} {o : Nat} {u : Value} (hg : aggOf P t = some false) (hc : cs[o]? = some u) : (part t cs.toArray o).run P w = .ok u w := by
  simp [part, run_isAgg hg, hc]
theorem run_flat (w : World) (m : Nat) : ∀ (fs : List Field) (i : Nat) (ds : List TypeDesc) (px xs py ys : List Value) (r : Bool), flatF P i fs = some ds → px.length = i → py.length = i → leafs ds xs ys = some r →
    (Op.eqFields (m + 1) (px ++ xs).toArray (py ++ ys).toArray fs).run P w = .ok r w
  | [], i, ds, px, xs, py, ys, r, hf, h1, h2, hl => by
    cases hf
    match xs, ys, hl with
    | [], [], hl => cases hl; simp [Op.eqFields]
  | f :: fs, i, ds, px, xs, py, ys, r, hf, h1, h2, hl => by
    rw [flatF] at hf
    cases hu : P.underlying f.type with
    | none => simp [hu] at hf
    | some dd =>
      cases hr : flatF P (i + 1) fs with
      | none => simp [hu, hr] at hf
      | some ds' =>
        simp only [hu, hr] at hf
        split at hf
        · rename_i hc
          cases hf
          obtain ⟨c1, c2, c3⟩ := hc
          match xs, ys, hl with
          | a :: xs, b :: ys, hl =>
            rw [leafs] at hl
            cases hv : leafV dd a b with
            | none => simp [hv] at hl
            | some p =>
              cases hw : leafs ds' xs ys with
              | none => simp [hv, hw] at hl
              | some q =>
                simp only [hv, hw, Option.some.injEq] at hl
                subst hl
                have ea : (px ++ a :: xs)[f.offset]? = some a := by rw [c2, List.getElem?_append_right (by omega), h1]; simp
                have eb : (py ++ b :: ys)[f.offset]? = some b := by rw [c2, List.getElem?_append_right (by omega), h2]; simp
                have ih := run_flat w m fs (i + 1) ds' (px ++ [a]) xs (py ++ [b]) ys q hr (by simp [h1]) (by simp [h2]) hw
                rw [List.append_assoc, List.append_assoc, List.singleton_append, List.singleton_append] at ih
                rw [Op.eqFields, if_pos c1]
                simp only [Sem.run_bind, run_part w c3 ea, run_part w c3 eb, Result.andThen_ok, run_leaf w m hu hv]
                cases p
                · simp
                · simp [ih]
        · cases hf
theorem run_equal_flat (w : World) {ds : List TypeDesc} {xs ys : List Value} {r : Bool} (hf : flatD P t = some ds) (hl : leafs ds xs ys = some r) : (Op.equalIn 10000 t (.agg xs.toArray) (.agg ys.toArray)).run P w = .ok r w := by
  unfold flatD at hf
  split at hf
  · rename_i fs hu
    split at hf
    · rename_i hc
      have e : P.fieldsOf t = fs := by simp [Program.fieldsOf, hu]
      rw [run_equalIn_struct w 9999 t _ _ (by rw [e]; exact hu) hc.1, e]
      exact run_flat w 9998 fs.toList 0 ds [] xs [] ys r hf rfl rfl hl
    · cases hf
  · cases hf
theorem flatD_guard {ds : List TypeDesc} (hf : flatD P t = some ds) : P.eqGuardType P.depth t = false := by
  unfold flatD at hf
  split at hf
  · split at hf
    · rename_i hc; exact hc.2
    · cases hf
  · cases hf
theorem p_eqA {ds : List TypeDesc} {xs ys : List Value} {r : Bool} (hf : flatD P t = some ds) (hx : lkO E x = some (.agg xs.toArray)) (hy : lkO E y = some (.agg ys.toArray)) (hl : leafs ds xs ys = some r) : Pu P n E h K ⟨dst, .binOp .eql t x y t', ty, ps, af, g⟩ (.bool r) :=
  ⟨fun s w fa _ => by
    simp only [execOp, fa.eval hx, fa.eval hy, Sem.run_bind, run_eqGuard_agg w .eql t x y _ _ (flatD_guard hf), Result.andThen_ok, run_eql_struct, run_equal_flat w hf hl, Sem.run_pure]⟩
theorem p_neA {ds : List TypeDesc} {xs ys : List Value} {r : Bool} (hf : flatD P t = some ds) (hx : lkO E x = some (.agg xs.toArray)) (hy : lkO E y = some (.agg ys.toArray)) (hl : leafs ds xs ys = some r) : Pu P n E h K ⟨dst, .binOp .neq t x y t', ty, ps, af, g⟩ (.bool (!r)) :=
  ⟨fun s w fa _ => by
    simp only [execOp, fa.eval hx, fa.eval hy, Sem.run_bind, run_eqGuard_agg w .neq t x y _ _ (flatD_guard hf), Result.andThen_ok, run_neq_struct, run_equal_flat w hf hl, Sem.run_pure]⟩

theorem p_loadW {b : Nat} {T : TypeId} {cs : List Value} {fz : Nat × Nat} (i : Nat) (hx : lkO E x = some (.pointer (some ⟨b, 0, none⟩))) (hi : K[i]? = some (blkF b T cs fz)) (hg : aggOf P t = some true) (hz : szOf P t = some cs.length) : Pu P n E h K ⟨dst, .load t x, ty, ps, af, g⟩ (.agg cs.toArray) :=
  p_loadM hg hx (cels_own (pre := []) (cs := cs) (post := []) i (by rw [List.nil_append, List.append_nil]; exact hi) rfl) hz rfl
/-! ### Stores of whole variables -/
theorem Ok.stores {b : Nat} {T : TypeId} : ∀ (us : List Value) (pre cs : List Value) (w : World), us.length = cs.length → (∀ u ∈ us, oneCell u = true) → Ok h (blk b T (pre ++ cs) :: H) w →
    ∃ w', (storeCells ⟨b, 0, none⟩ us pre.length).run P w = .ok () w' ∧ Ok h (blk b T (pre ++ us) :: H) w'
  | [], pre, cs, w, hl, _, ok => by
    obtain rfl : cs = [] := List.eq_nil_of_length_eq_zero hl.symm
    exact ⟨w, by simp [storeCells], ok⟩
  | u :: us, pre, cs, w, hl, h1, ok => by
    match cs, hl with
    | c :: cs, hl =>
      have hw : w.heap[b]? = some (.cells (pre ++ c :: cs).toArray T (0, 0)) := ok.own_head
      have e1 := run_store1 (P := P) (o := pre.length) hw (by simp) (by simp) u (h1 u (List.mem_cons_self ..))
      have ok1 := ok.store (o := pre.length) u
      rw [show (pre ++ c :: cs).set pre.length u = (pre ++ [u]) ++ cs from by simp] at ok1
      obtain ⟨w', e2, ok2⟩ := Ok.stores us (pre ++ [u]) cs _ (by simpa using hl) (fun v hv => h1 v (List.mem_cons_of_mem _ hv)) ok1
      refine ⟨w', ?_, by rw [List.append_assoc] at ok2; exact ok2⟩
      rw [storeCells]
      simp only [Sem.run_bind]
      rw [show ((⟨b, 0, none⟩ : Addr).add pre.length) = ⟨b, pre.length, none⟩ from by rw [add_none, Nat.zero_add], e1]
      simp only [Result.andThen_ok]
      rw [show (pre ++ [u]).length = pre.length + 1 from by simp] at e2
      exact e2
def ones (l : List Value) : Bool := l.all oneCell
theorem l_storeW {b : Nat} {T : TypeId} {cs us : List Value} (hs : szOf P t = some us.length) (hx : lkO E x = some (.pointer (some ⟨b, 0, none⟩))) (hy : lkO E y = some (.agg us.toArray)) (hv : ones us = true)
    (hl : us.length = cs.length) (hk : WL P n ops Q rest E h (blk b T us :: H)) :
    WL P n ops Q (⟨none, .store t x y, ty, ps, af, none⟩ :: rest) E h (blk b T cs :: H) :=
  ⟨fun a w fa ok => wpList_plain rfl fun K hK => by
    unfold Oper.wp
    obtain ⟨w', e, ok'⟩ := Ok.stores (P := P) us [] cs w hl (by simpa [ones] using hv) ok
    have : (execOp a.eval ⟨none, .store t x y, ty, ps, af, none⟩).run P w = .ok .skip w' := by
      simp only [execOp, fa.eval hx, fa.eval hy, Instr.storeAt, Instr.sureAddr, storeVar, Sem.run_bind, Sem.run_pure, Result.andThen_ok, run_sizeOf hs, Value.cells, List.size_toArray, ne_eq, not_true_eq_false, if_false]
      have e' : (storeCells ⟨b, 0, none⟩ us).run P w = .ok () w' := e
      simp [e']
    rw [this, Oper.upon_skip]
    exact hK _ _ (hk.run _ _ fa ok')⟩
theorem l_storeW_at {b : Nat} {T : TypeId} {cs us : List Value} (i : Nat) {H' : List Asrt} (hi : H[i]? = some (blk b T cs)) (hs : szOf P t = some us.length) (hx : lkO E x = some (.pointer (some ⟨b, 0, none⟩))) (hy : lkO E y = some (.agg us.toArray)) (hv : ones us = true)
    (hl : us.length = cs.length) (hH : H.set i (blk b T us) = H') (hk : WL P n ops Q rest E h H') :
    WL P n ops Q (⟨none, .store t x y, ty, ps, af, none⟩ :: rest) E h H := by
  have e1 := at_perm hi
  have e2 : (blk b T us :: H.eraseIdx i).Perm H' := by
    have hlt : i < H.length := by
      rcases Nat.lt_or_ge i H.length with h' | h'
      · exact h'
      · rw [List.getElem?_eq_none h'] at hi; cases hi
    have := at_perm (l := H.set i (blk b T us)) (i := i) (A := blk b T us) (by rw [List.getElem?_set_self hlt])
    rw [List.eraseIdx_set_eq] at this
    rw [← hH]; exact this.symm
  exact WL.perm e1 (l_storeW hs hx hy hv hl (WL.perm e2 hk))

/-! ### Calls through function values -/
theorem run_callF {f : FuncId} {args : List Operand} {vals caps : List Value} {ats : Array TypeId} {a : Act} {w : World} (hc : Callable P f) (fa : Fr n E a) (hx : lkO E x = some (.func (.func f) #[] caps.toArray)) (ha : evArgs E args = some vals) :
    (execOp a.eval ⟨dst, .call ⟨.value x, args.toArray, ats⟩, ty, ps, af, g⟩).run P w = .ok (.enter f (vals ++ caps).toArray) w := by
  have h1 := evArgs_eval fa args vals ha
  have h2 : args.toArray.map a.eval = vals.toArray := by rw [List.map_toArray, h1]
  simp only [execOp, resolve, fa.eval hx, Deferred.ofValue, h2, Sem.run_bind, Sem.run_pure, Result.andThen_ok, invoke]
  simp only [Array.empty_append, List.append_toArray]
  exact hc _ _
theorem l_callF {f : FuncId} {args : List Operand} {vals caps : List Value} {ats : Array TypeId} {Pre F : List Asrt} {Post : Value → Base → List Asrt → Prop} (hc : Callable P f) (hx : lkO E x = some (.func (.func f) #[] caps.toArray)) (ha : evArgs E args = some vals) (ht : Tr P f (vals ++ caps) h Pre Post)
    (hp : H.Perm (Pre ++ F)) (hd : Nat.blt d n = true) (hk : ∀ v h' H', h.le h' → Post v h' H' → WL P n ops Q rest ((d, v) :: E) h' (H' ++ F)) :
    WL P n ops Q (⟨some d, .call ⟨.value x, args.toArray, ats⟩, ty, ps, af, none⟩ :: rest) E h H :=
  ⟨fun a w fa ok => wpList_plain rfl fun K hK => by
    unfold Oper.wp
    rw [run_callF hc fa hx ha, Oper.upon_enter]
    refine Calls.mono (ht F w (ok.perm hp)) ?_
    rintro e w' ⟨v, rfl, h', H', hle, hP, ok'⟩
    exact hK _ _ ((hk v h' H' hle hP).run _ _ (fa.put v hd) ok')⟩
theorem l_callF0 {f : FuncId} {args : List Operand} {vals caps : List Value} {ats : Array TypeId} {Pre F : List Asrt} {Post : Value → Base → List Asrt → Prop} (hc : Callable P f) (hx : lkO E x = some (.func (.func f) #[] caps.toArray)) (ha : evArgs E args = some vals) (ht : Tr P f (vals ++ caps) h Pre Post)
    (hp : H.Perm (Pre ++ F)) (hk : ∀ v h' H', h.le h' → Post v h' H' → WL P n ops Q rest E h' (H' ++ F)) :
    WL P n ops Q (⟨none, .call ⟨.value x, args.toArray, ats⟩, ty, ps, af, none⟩ :: rest) E h H :=
  ⟨fun a w fa ok => wpList_plain rfl fun K hK => by
    unfold Oper.wp
    rw [run_callF hc fa hx ha, Oper.upon_enter]
    refine Calls.mono (ht F w (ok.perm hp)) ?_
    rintro e w' ⟨v, rfl, h', H', hle, hP, ok'⟩
    exact hK _ _ ((hk v h' H' hle hP).run _ _ fa ok')⟩

/-! ### Results in cells -/
/-- The values of the results: what is in slots; what is in variables, of the owned blocks. -/
inductive ResC (P : Program) (E : Env) (h : Base) (H : List Asrt) : List ResultVar → List Value → Prop
  | nil : ResC P E h H [] []
  | tmp {t : Nat} {v : Value} {r : List ResultVar} {vs : List Value} (hl : lk E t = some v) (hr : ResC P E h H r vs) : ResC P E h H (.tmp t :: r) (v :: vs)
  | cell {t b : Nat} {ty : TypeId} {us : List Value} {r : List ResultVar} {vs : List Value} (hl : lk E t = some (.pointer (some ⟨b, 0, none⟩))) (hg : aggOf P ty = some true) (hs : szOf P ty = some us.length) (hc : Cels h H b 0 us) (hr : ResC P E h H r vs) : ResC P E h H (.cell t ty :: r) (.agg us.toArray :: vs)
theorem mapM_resC {a : Act} {w : World} (fa : Fr n E a) (hw : Sat h H w) (f : ResultVar → Sem Value) (hf : ∀ t, f (.tmp t) = pure (a.tmps.getD t undef)) (hf2 : ∀ t ty, f (.cell t ty) = (do loadVar ty (← asAddr (a.tmps.getD t undef)))) : ∀ (rs : List ResultVar) (vs : List Value), ResC P E h H rs vs →
    (rs.mapM f).run P w = .ok vs w
  | _, _, .nil => by simp
  | _, _, .tmp (t := t) (v := v) hl hr => by
    have := mapM_resC fa hw f hf hf2 _ _ hr
    have hg : a.tmps.getD t undef = v := by simp [Array.getD_eq_getD_getElem?, fa.get t v hl]
    simp only [List.mapM_cons, Sem.run_bind, hf, hg, Sem.run_pure, Result.andThen_ok, this]
  | _, _, .cell (t := t) (b := b) (ty := ty) (us := us) hl hg hs hc hr => by
    have := mapM_resC fa hw f hf hf2 _ _ hr
    have hgt : a.tmps.getD t undef = .pointer (some ⟨b, 0, none⟩) := by simp [Array.getD_eq_getD_getElem?, fa.get t _ hl]
    have hld : (loadCells ⟨b, 0, none⟩ us.length).run P w = .ok us.toArray w := run_loadCells_list w _ _ fun j u hj => by
      rw [add_none]; exact (hc.get j u hj).run w hw
    simp only [List.mapM_cons, Sem.run_bind, hf2, hgt, asAddr, Sem.run_pure, Result.andThen_ok, loadVar, run_isAgg hg, run_sizeOf hs, if_true, hld, this]
theorem run_resC {fn : Func} {a : Act} {w : World} {vs : List Value} (fa : Fr n E a) (hw : Sat h H w) (hr : ResC P E h H fn.results.toList vs) : (results fn a.tmps).run P w = .ok (packV vs) w := by
  unfold results
  rw [Array.mapM_eq_mapM_toList]
  simp only [Sem.run_bind, Sem.run_map]
  rw [mapM_resC (P := P) (w := w) fa hw _ (by intro t; rfl) (by intro t ty; rfl) _ vs hr]
  simp only [Result.andThen_ok, Sem.run_pure]
  match vs with
  | [] => rfl
  | [v] => rfl
  | v :: u :: r => rfl
/-- The end of a function whose results are in cells. -/
theorem doneC {fn : Func} {e : Exit} {F H' D : List Asrt} {h0 : Base} {Post : Value → Base → List Asrt → Prop} {vs : List Value} (he : e = .ret ∨ e = .normal) (hr : ResC P E h H fn.results.toList vs)
    (hle : h0.le h) (hH : H = D ++ (H' ++ F)) (hP : Post (packV vs) h H') : AT P n (post P fn fun v w' => ∃ h' H', h0.le h' ∧ Post v h' H' ∧ Ok h' (H' ++ F) w') e E h H :=
  ⟨fun a w fa ok => by
    have hk : ∃ h' H'', h0.le h' ∧ Post (packV vs) h' H'' ∧ Ok h' (H'' ++ F) w := ⟨h, H', hle, hP, (hH ▸ ok).drops⟩
    rcases he with rfl | rfl <;> exact ⟨fa.defers, packV vs, run_resC fa ok.sat hr, _, rfl, hk⟩⟩

/-! ### Arrays, texts, rows of structs -/
theorem p_indexA {e : TypeId} {s b o la o' : Nat} {k : IntKind} {m : Int} (hu : P.underlying t = some (.array la e)) (hs : szOf P e = some s) (hx : lkO E x = some (.pointer (some ⟨b, o, none⟩))) (hy : lkO E y = some (.int k m))
    (h0 : 0 ≤ m) (h1 : m < la) (ho : o + m.toNat * s = o') : Pu P n E h K ⟨dst, .indexAddr t x y, ty, ps, af, g⟩ (.pointer (some ⟨b, o', none⟩)) :=
  ⟨fun a w fa _ => by simp [execOp, fa.eval hx, fa.eval hy, Instr.indexAt, Instr.sureAddr, asIntOf, run_underlying hu, h0, h1, run_sizeOf hs, add_none, ho]⟩
theorem p_sliceT {s : ByteArray} {lo hi : Option Operand} {k1 k2 : IntKind} {l u : Nat} (hu : P.underlying t = some .string) (hx : lkO E x = some (.string s))
    (hlo : match lo with | none => l = 0 | some z => ∃ i : Int, lkO E z = some (.int k1 i) ∧ i = l) (hhi : match hi with | none => u = s.size | some z => ∃ i : Int, lkO E z = some (.int k2 i) ∧ i = u)
    (h1 : l ≤ u) (h2 : u ≤ s.size) : Pu P n E h K ⟨dst, .slice t x lo hi none, ty, ps, af, g⟩ (.string (s.extract l u)) :=
  ⟨fun a w fa _ => by
    have hb : ∀ (y : Nat) (z : Nat) (k : IntKind) (c : BoundsCode), z ≤ y → (Instr.sliceBound (.int k z) y c).run P w = .ok z w := fun y z k c hz => by
      simp [Instr.sliceBound, asIntOf, hz]
    have key : (Instr.sliceBounds false s.size s.size (lo.map a.eval) (hi.map a.eval) none).run P w = .ok (l, u, s.size) w := by
      cases lo with
      | none =>
        dsimp only at hlo; subst hlo
        cases hi with
        | none => dsimp only at hhi; subst hhi; simp [Instr.sliceBounds]
        | some zh =>
          obtain ⟨i, hi1, hi2⟩ := hhi
          subst hi2
          simp [Instr.sliceBounds, fa.eval hi1, hb _ _ _ _ h2]
      | some zl =>
        obtain ⟨j, hj1, hj2⟩ := hlo
        subst hj2
        cases hi with
        | none => dsimp only at hhi; subst hhi; simp [Instr.sliceBounds, fa.eval hj1, hb _ _ _ _ h1]
        | some zh =>
          obtain ⟨i, hi1, hi2⟩ := hhi
          subst hi2
          simp [Instr.sliceBounds, fa.eval hi1, fa.eval hj1, hb _ _ _ _ h2, hb _ _ _ _ h1]
    simp only [execOp, fa.eval hx, Instr.sliceAt, Option.map_none, Sem.run_bind, run_underlying hu, Result.andThen_ok, Instr.slice, key, Sem.run_pure, Option.isSome_none, Bool.false_eq_true, if_false]⟩
theorem p_buildA {e : TypeId} {m s : Nat} {z : Value} {parts : List (Nat × Operand)} {vs : List (Nat × Value)} {cs : List Value} (hu : P.underlying t = some (.array m e)) (hs : szOf P e = some s) (hz : zrOf P t = some z) (hzs : z.cells.size = m * s)
    (hv : partsOf E parts = some vs) (hm : Nat.beq vs.length m = true) (hf0 : seqOk s vs 0 = true) (hcs : cellsL vs = cs) : Pu P n E h K ⟨dst, .build t parts.toArray, ty, ps, af, g⟩ (.agg cs.toArray) :=
  ⟨fun a w fa _ => by
    have h2 := partsOf_eval fa parts vs hv
    have h4 : (parts.toArray.map fun x => (x.1, a.eval x.2)).toList = vs := by simpa using h2
    have hf : Instr.fill (fun i => some (i * s, s)) z.cells vs = some cs.toArray := by
      have := fill_seq s vs 0 [] z.cells.toList hf0 (by simp) (by rw [Array.length_toList, hzs, Nat.eq_of_beq_eq_true hm])
      rw [List.nil_append, List.nil_append, Array.toArray_toList] at this
      rw [this, hcs]
    simp only [execOp, Instr.build, Sem.run_bind, run_zero hz, run_underlying hu, Result.andThen_ok, run_sizeOf hs, h4, hf, Sem.run_pure]⟩
/-- A beginning of a row, whatever its length is now. -/
theorem p_sliceU {e : TypeId} {sz : Nat} {ao : Option Addr} {la ca q : Nat} {hi : Operand} {k2 : IntKind} {i : Int} (hu : P.underlying t = some (.slice e)) (hs : szOf P e = some sz) (hx : lkO E x = some (.slice ao la ca))
    (hhi : lkO E hi = some (.int k2 i)) (hiq : i = q) (hq : q ≤ ca) : Pu P n E h K ⟨dst, .slice t x none (some hi) none, ty, ps, af, g⟩ (.slice ao q ca) := by
  subst hiq
  refine ⟨fun a w fa _ => ?_⟩
  have key : (Instr.sliceBounds true la ca none (some (a.eval hi)) none).run P w = .ok (0, q, ca) w := by
    simp [Instr.sliceBounds, fa.eval hhi, Instr.sliceBound, asIntOf, hq]
  simp only [execOp, fa.eval hx, Instr.sliceAt, Option.map_none, Option.map_some, Sem.run_bind, run_underlying hu, Result.andThen_ok, Instr.slice, key, run_sizeOf hs, Sem.run_pure, Nat.sub_zero]
  cases ao with
  | none => simp
  | some a0 => simp [Addr.add]
theorem SL.take {sz : Nat} {es : List (List Value)} {ao : Option Addr} {la ca q : Nat} (hb : SL h sz (.slice ao la ca) es) (hq : q ≤ es.length) : SL h sz (.slice ao q ca) (es.take q) := by
  rcases hb with ⟨ao', c, e1, rfl⟩ | ⟨b, o, c, e1, hc, hcs⟩
  · simp at hq
    subst hq
    exact .inl ⟨_, _, rfl, by simp⟩
  · cases e1
    refine .inr ⟨b, o, ca, ?_, by rw [List.length_take]; omega, fun j hj => ?_⟩
    · rw [List.length_take, Nat.min_eq_left hq]
    · rw [List.length_take] at hj
      have := hcs j (by omega)
      rw [List.getElem_take]
      exact this
theorem SL.cap {sz : Nat} {ao : Option Addr} {ca m : Nat} {es : List (List Value)} (hb : SL h sz (.slice ao m ca) es) (hn : 0 < es.length) : es.length ≤ ca := by
  rcases hb with ⟨_, _, e, rfl⟩ | ⟨b, o, c, e, hc, _⟩
  · simp at hn
  · cases e; exact hc
/-- A value that reads as these rows of sz cells, in the base or in what is owned. -/
def SLK (h : Base) (K : List Asrt) (sz : Nat) (v : Value) (es : List (List Value)) : Prop :=
  (∃ ao c, v = .slice ao 0 c ∧ es = []) ∨ ∃ b o c, v = .slice (some ⟨b, o, none⟩) es.length c ∧ es.length ≤ c ∧ ∀ j (hj : j < es.length), es[j].length = sz ∧ Cels h K b (o + j * sz) es[j]
theorem SL.k {sz : Nat} {es : List (List Value)} (hb : SL h sz v es) : SLK h K sz v es := hb.imp id fun ⟨b, o, c, e, hc, hcs⟩ => ⟨b, o, c, e, hc, fun j hj => ⟨(hcs j hj).1, Cels.up (hcs j hj).2⟩⟩
theorem SLK.sub {sz : Nat} {es : List (List Value)} {K' : List Asrt} (hb : SLK h K sz v es) (hs : ∀ A ∈ K, A ∈ K') : SLK h K' sz v es := hb.imp id fun ⟨b, o, c, e, hc, hcs⟩ => ⟨b, o, c, e, hc, fun j hj => ⟨(hcs j hj).1, Cels.sub (hcs j hj).2 hs⟩⟩
theorem SLK.le {sz : Nat} {es : List (List Value)} (hb : SLK h K sz v es) (hle : h.le h') : SLK h' K sz v es := hb.imp id fun ⟨b, o, c, e, hc, hcs⟩ => ⟨b, o, c, e, hc, fun j hj => ⟨(hcs j hj).1, Cels.le hle (hcs j hj).2⟩⟩
theorem SLK.len {sz : Nat} {es : List (List Value)} (hb : SLK h K sz v es) : ∃ ao c, v = .slice ao es.length c := by
  rcases hb with ⟨ao, c, rfl, rfl⟩ | ⟨b, o, c, rfl, _⟩
  · exact ⟨_, _, rfl⟩
  · exact ⟨_, _, rfl⟩
theorem p_indexK {e : TypeId} {sz : Nat} {es : List (List Value)} {k : IntKind} {m : Int} {cs : List Value} {K2 : List Asrt} (hb : SLK h K sz v es) (hu : P.underlying t = some (.slice e)) (hs : szOf P e = some sz) (hx : lkO E x = some v) (hy : lkO E y = some (.int k m))
    (h0 : 0 ≤ m) (hc : es[m.toNat]? = some cs) : ∃ v', Pu P n E h K2 ⟨dst, .indexAddr t x y, ty, ps, af, g⟩ v' ∧ ∃ b o, v' = .pointer (some ⟨b, o, none⟩) ∧ Cels h K b o cs := by
  obtain ⟨hlt, he⟩ := List.getElem?_eq_some_iff.1 hc
  rcases hb with ⟨_, _, rfl, rfl⟩ | ⟨b, o, ca, rfl, _, hcs⟩
  · simp at hlt
  · have := (hcs m.toNat hlt).2
    rw [he] at this
    exact ⟨_, p_indexAddr hu hs hx hy h0 (by omega) rfl, b, _, rfl, this⟩
theorem suf_left (K F : List Asrt) : Suf K (K ++ F) := ⟨fun A hA => List.mem_append_left _ hA⟩
theorem TrV.perm {f : FuncId} {args : List Value} {A B C D : List Asrt} (h1 : B.Perm A) (h2 : C.Perm D) (ht : TrV P f args h A v C) : TrV P f args h B v D := fun F w ok =>
  Calls.mono (ht F w (ok.perm (h1.append_right F))) fun e w' ⟨u, he, h', H', hle, ⟨e1, e2, e3⟩, ok'⟩ => ⟨u, he, h', D, hle, ⟨e1, e2, rfl⟩, by subst e3; exact ok'.perm (h2.append_right F)⟩
/-- An owned row of structs is read where it lies. -/
theorem TrV.row {f : FuncId} {args : List Value} {T sz : Nat} {a : Option Nat} {cap : Nat} {es : List (List Value)} {R' : List Asrt} (hz : ∀ e ∈ es, e.length = sz)
    (ht : ∀ K, SLK h K sz (bufV a es.length cap) es → TrV P f args h (K ++ R') v (K ++ R')) : TrV P f args h (bufA T sz a es.length cap es.flatten :: R') v (bufA T sz a es.length cap es.flatten :: R') := fun F w ok => by
  have hown : (bufA T sz a es.length cap es.flatten).holds w := ok.own_head
  cases a with
  | none =>
    obtain ⟨e1, e2, e3⟩ := hown
    have he : es = [] := List.eq_nil_of_length_eq_zero e1
    subst he; subst e2
    have h0 := ht [] (.inl ⟨_, _, rfl, rfl⟩)
    exact Calls.mono (h0 (bufA T sz none 0 0 [] :: F) w (ok.perm (by
      rw [List.nil_append]
      exact List.perm_middle.symm))) fun e w' ⟨u, he, h', H', hle, ⟨q1, q2, q3⟩, ok'⟩ => ⟨u, he, h', _, hle, ⟨q1, q2, rfl⟩, by
        subst q3
        exact ok'.perm List.perm_middle⟩
  | some b =>
    obtain ⟨sp, fz, g1, g2, g3, g4, g5, g6⟩ := hown
    have ok2 : Ok h (blkF b T (es.flatten ++ sp) fz :: (R' ++ F)) w := by
      refine ⟨ok.os, ok.tape, ok.output, ⟨ok.sat.imm, fun A hA => ?_⟩, ok.nd, ok.dj⟩
      rcases List.mem_cons.1 hA with rfl | hA'
      · exact g1
      · exact ok.sat.own A (List.mem_cons_of_mem _ hA')
    have key : ∀ (fs : List (List Value)), (∀ e ∈ fs, e.length = sz) → ∀ j (hj : j < fs.length) (i : Nat) (u : Value), fs[j][i]? = some u → fs.flatten[j * sz + i]? = some u := by
      intro fs
      induction fs with
      | nil => intro _ j hj; simp at hj
      | cons f fs ih =>
        intro hz' j hj i u hu
        have hf := hz' f (List.mem_cons_self ..)
        rw [List.flatten_cons]
        cases j with
        | zero =>
          simp only [List.getElem_cons_zero] at hu
          rw [Nat.zero_mul, Nat.zero_add, List.getElem?_append_left (List.getElem?_eq_some_iff.1 hu).1]; exact hu
        | succ j =>
          simp only [List.getElem_cons_succ] at hu
          have := ih (fun e he => hz' e (List.mem_cons_of_mem _ he)) j (by simpa using hj) i u hu
          rw [List.getElem?_append_right (by rw [hf, Nat.add_mul]; omega), hf, show (j + 1) * sz + i - sz = j * sz + i from by rw [Nat.add_mul]; omega]
          exact this
    have hsl : SLK h [blkF b T (es.flatten ++ sp) fz] sz (bufV (some b) es.length cap) es := by
      refine .inr ⟨b, 0, cap, rfl, g4, fun j hj => ⟨hz _ (List.getElem_mem hj), cels_of fun i u hu => ?_⟩⟩
      rw [Nat.zero_add]
      refine cel_own 0 rfl ?_
      have := key es hz j hj i u hu
      rw [List.getElem?_append_left (List.getElem?_eq_some_iff.1 this).1]; exact this
    exact Calls.mono (ht _ hsl F w ok2) fun e w' ⟨u, he, h', H', hle, ⟨q1, q2, q3⟩, ok'⟩ => ⟨u, he, h', _, hle, ⟨q1, q2, rfl⟩, by
      subst q3
      exact Ok.shut (R := R' ++ F) ok' g2 g3 g4 g5 g6⟩
theorem SL.src {sz : Nat} {es : List (List Value)} (hb : SL h sz v es) (h1 : ∀ e ∈ es, ones e = true) : Src P h K sz v es.length es.flatten := by
  rcases hb with ⟨ao, c, rfl, rfl⟩ | ⟨b, o, c, rfl, hc, hcs⟩
  · exact src_empty
  · have key : ∀ (fs : List (List Value)) (o : Nat), (∀ j (hj : j < fs.length), fs[j].length = sz ∧ Cels h [] b (o + j * sz) fs[j]) → fs.flatten.length = fs.length * sz ∧ Cels h [] b o fs.flatten := by
      intro fs
      induction fs with
      | nil => intro o _; exact ⟨by simp, trivial⟩
      | cons f fs ih =>
        intro o hh
        have h0 := hh 0 (by simp)
        simp only [List.getElem_cons_zero, Nat.zero_mul, Nat.add_zero] at h0
        obtain ⟨i1, i2⟩ := ih (o + sz) fun j hj => by
          have := hh (j + 1) (by simpa using hj)
          simp only [List.getElem_cons_succ] at this
          rwa [show o + (j + 1) * sz = o + sz + j * sz from by rw [Nat.add_mul]; omega] at this
        refine ⟨by rw [List.flatten_cons, List.length_append, i1, h0.1, List.length_cons, Nat.add_mul]; omega, ?_⟩
        rw [List.flatten_cons]
        exact Cels.append.2 ⟨h0.2, by rw [h0.1]; exact i2⟩
    obtain ⟨k1, k2⟩ := key es o hcs
    exact src_cells k2.up k1 fun u hu => by
      obtain ⟨f, hf, huf⟩ := List.mem_flatten.1 hu
      have := h1 f hf
      simp only [ones, List.all_eq_true] at this
      exact this u huf
/-- An owned row of structs becomes part of the base. -/
theorem Ok.freezeRow {T sz : Nat} {a : Option Nat} {cap : Nat} {es : List (List Value)} {w : World} (hz : ∀ e ∈ es, e.length = sz) (ok : Ok h (bufA T sz a es.length cap es.flatten :: H) w) : ∃ h', h.le h' ∧ SL h' sz (bufV a es.length cap) es ∧ es.length ≤ cap ∧ Ok h' H w := by
  have hown := ok.own_head
  cases a with
  | none =>
    obtain ⟨e1, e2, e3⟩ := hown
    have : es = [] := List.eq_nil_of_length_eq_zero e1
    subst this; subst e2
    exact ⟨h, Base.le.refl h, .inl ⟨_, _, rfl, rfl⟩, Nat.le_refl _, ok.drop⟩
  | some b =>
    obtain ⟨sp, fz, g1, g2, g3, g4, g5, g6⟩ := hown
    have ok2 : Ok h (blkF b T (es.flatten ++ sp) fz :: H) w := by
      refine ⟨ok.os, ok.tape, ok.output, ⟨ok.sat.imm, fun A hA => ?_⟩, ok.nd, ok.dj⟩
      rcases List.mem_cons.1 hA with rfl | hA'
      · exact g1
      · exact ok.sat.own A (List.mem_cons_of_mem _ hA')
    obtain ⟨f1, f2, f3⟩ := ok2.freeze
    refine ⟨_, f1, .inr ⟨b, 0, cap, rfl, g4, fun j hj => ⟨hz _ (List.getElem_mem hj), ?_⟩⟩, g4, f3⟩
    have key : ∀ (fs : List (List Value)), (∀ e ∈ fs, e.length = sz) → ∀ j (hj : j < fs.length) (i : Nat) (u : Value), fs[j][i]? = some u → fs.flatten[j * sz + i]? = some u := by
      intro fs
      induction fs with
      | nil => intro _ j hj; simp at hj
      | cons f fs ih =>
        intro hz' j hj i u hu
        have hf := hz' f (List.mem_cons_self ..)
        rw [List.flatten_cons]
        cases j with
        | zero =>
          simp only [List.getElem_cons_zero] at hu
          rw [Nat.zero_mul, Nat.zero_add, List.getElem?_append_left (List.getElem?_eq_some_iff.1 hu).1]; exact hu
        | succ j =>
          simp only [List.getElem_cons_succ] at hu
          have := ih (fun e he => hz' e (List.mem_cons_of_mem _ he)) j (by simpa using hj) i u hu
          rw [List.getElem?_append_right (by rw [hf, Nat.add_mul]; omega), hf, show (j + 1) * sz + i - sz = j * sz + i from by rw [Nat.add_mul]; omega]
          exact this
    refine cels_of fun i u hu => ?_
    rw [Nat.zero_add]
    refine cel_mem f2 ?_
    have := key es hz j hj i u hu
    rw [List.getElem?_append_left (List.getElem?_eq_some_iff.1 this).1]; exact this
theorem AT.freezeRow {q : Exit} {T sz : Nat} {a : Option Nat} {cap : Nat} {es : List (List Value)} (hz : ∀ e ∈ es, e.length = sz) (hk : ∀ h', h.le h' → SL h' sz (bufV a es.length cap) es → es.length ≤ cap → AT P n Q q E h' H) : AT P n Q q E h (bufA T sz a es.length cap es.flatten :: H) :=
  ⟨fun a w fa ok => by obtain ⟨h', h1, h2, h3, h4⟩ := ok.freezeRow hz; exact (hk h' h1 h2 h3).run _ w fa h4⟩
theorem WL.freezeRow {L : List Oper} {T sz : Nat} {a : Option Nat} {cap : Nat} {es : List (List Value)} (hz : ∀ e ∈ es, e.length = sz) (hk : ∀ h', h.le h' → SL h' sz (bufV a es.length cap) es → es.length ≤ cap → WL P n ops Q L E h' H) : WL P n ops Q L E h (bufA T sz a es.length cap es.flatten :: H) :=
  ⟨fun a w fa ok => by obtain ⟨h', h1, h2, h3, h4⟩ := ok.freezeRow hz; exact (hk h' h1 h2 h3).run _ w fa h4⟩
theorem WC.freezeRow {c : Code} {T sz : Nat} {a : Option Nat} {cap : Nat} {es : List (List Value)} (hz : ∀ e ∈ es, e.length = sz) (hk : ∀ h', h.le h' → SL h' sz (bufV a es.length cap) es → es.length ≤ cap → WC P n c Q E h' H) : WC P n c Q E h (bufA T sz a es.length cap es.flatten :: H) :=
  ⟨fun a w fa ok => by obtain ⟨h', h1, h2, h3, h4⟩ := ok.freezeRow hz; exact (hk h' h1 h2 h3).run _ w fa h4⟩
/-- A row that is made: nothing in it yet, or noughts. -/
theorem l_makeSlice {e : TypeId} {s bs m c : Nat} {kl kc : IntKind} {z : Value} (hu : P.underlying t = some (.slice e)) (hs : szOf P e = some s) (hz : zrOf P e = some z) (hzs : z.cells.size = s) (hb : byOf P e = some bs) (hx : lkO E x = some (.int kl m)) (hy : lkO E y = some (.int kc c))
    (hmc : m ≤ c) (hby : bs * c ≤ 281474976710656) (hmax : c ≤ maxLen) (hd : Nat.blt d n = true)
    (hk : ∀ B, WL P n ops Q rest ((d, bufV (some B) m c) :: E) h (bufA e s (some B) m c ((madeCells z.cells (c * s)).toList.take (m * s)) :: H)) :
    WL P n ops Q (⟨some d, .makeSlice t x y, ty, ps, af, none⟩ :: rest) E h H :=
  ⟨fun a w fa ok => wpList_plain rfl fun K hK => by
    unfold Oper.wp
    unfold szOf at hs
    unfold zrOf at hz
    unfold byOf at hb
    cases hi : P.info? e with
    | none => simp [hi] at hs
    | some inf =>
      simp [hi] at hs hz hb
      have hby' : (bs : Int) * (c : Int) ≤ 281474976710656 := by
        have h : ((bs * c : Nat) : Int) ≤ 281474976710656 := by omega
        rwa [Int.natCast_mul] at h
      have hr := run_make (P := P) w t e inf z hu hi hz kl kc m c (by omega) (by omega) (by rw [hb]; exact hby') (by unfold maxLen at hmax; omega)
      rw [Int.toNat_natCast, Int.toNat_natCast, hs] at hr
      have : (execOp a.eval ⟨some d, .makeSlice t x y, ty, ps, af, none⟩).run P w = .ok (.value (.slice (some ⟨w.heap.size, 0, none⟩) m c)) (w.alloc (.cells (madeCells z.cells (c * s)) e)) := by
        simp [execOp, fa.eval hx, fa.eval hy, hr]
      rw [this, Oper.upon_value]
      refine hK _ _ ((hk w.heap.size).run _ _ (fa.put _ hd) ?_)
      have okn := ok.alloc (madeCells z.cells (c * s)).toList e (0, 0)
      rw [Array.toArray_toList, ← List.take_append_drop (m * s) (madeCells z.cells (c * s)).toList] at okn
      have hl : (madeCells z.cells (c * s)).toList.length = c * s := by rw [Array.length_toList, size_madeCells]
      exact okn.shut (m := m) (s := s) (cap := c) (by rw [List.length_take, hl, Nat.min_eq_left (Nat.mul_le_mul_right _ hmc)]) (by rw [List.take_append_drop, hl]) hmc hmax (Free.zero _)⟩
end
end Go.K
