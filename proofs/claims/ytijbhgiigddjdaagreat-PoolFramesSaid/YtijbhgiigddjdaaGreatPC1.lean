/-
 KY: the texts KB KC KD KE KF KG KH KI KJ KL in one. Conditions: each theorem's own.
-/
import Derived.Test.YtijbhgiigddjdaaGreatPC0
import Derived.Laws.StructEq
import Derived.Laws.MakeOwn
import Derived.Laws.Externs
import Derived.Lib.Bytealg
import Derived.Lib.Overlaps
import Derived.Laws.Entries
import Derived.Lib.SlBytesConst
import Derived.SizedLaws
set_option linter.unusedVariables false
set_option linter.unusedSimpArgs false
set_option maxRecDepth 10000
set_option maxHeartbeats 16000000
/-! KB: struct equality, stores of structs, calls through function values, results in cells, arrays, rows of structs. Generic over the program. Conditions: none. -/
namespace Go.K

/-! ### Flat structs compared -/
def leafV : TypeDesc → Value → Value → Option Bool
 | .int _, .int k x, .int k' y => if k = k' then some (decide (x = y)) else none
 | .bool, .bool x, .bool y => some (decide (x = y))
 | .string, .string x, .string y => some (decide (x = y))
 | _, _, _ => none
def leafs : List TypeDesc → List Value → List Value → Option Bool
 | [], [], [] => some true
 | d :: ds, a :: r, b :: s => match leafV d a b, leafs ds r s with
  | some p, some q => some (p && q)
  | _, _ => none
 | _, _, _ => none
def flatF (P : Program) : Nat → List Field → Option (List TypeDesc)
 | _, [] => some []
 | i, f :: fs => match P.underlying f.type, flatF P (i + 1) fs with
  | some d, some ds => if f.name ≠ "_" ∧ f.offset = i ∧ aggOf P f.type = some false then some (d :: ds) else none
  | _, _ => none
def flatD (P : Program) (t : TypeId) : Option (List TypeDesc) := match P.underlying t with
 | some (.struct fs) => if P.stoodInHeld t = false ∧ P.eqGuardType P.depth t = false then flatF P 0 fs.toList else none
 | _ => none

section
variable {P : Program} {n : NN} {Q : Exit → Act → World → Prop} {E : Env} {h h' h0 : Base} {H K R : List Asrt} {ops : Array Oper} {rest : List Oper}
variable {op : Op} {t t' ty : TypeId} {ps : String} {af : Array Edge} {d i : Nat} {v : Value} {x y : Operand} {dst : Option Nat} {g : Option (Nat × Bool)} {σ : Sch}

theorem run_leaf (w : World) (m : Nat) {dd : TypeDesc} {a b : Value} {r : Bool} (hu : P.underlying t = some dd) (hl : leafV dd a b = some r) : (Op.equalIn (m + 1) t a b).run P w = .ok r w := by
 unfold leafV at hl
 split at hl
 ·rename_i k0 k x k' y
  split at hl
  ·rename_i hk
   subst hk
   cases hl
   have e : (x == y) = decide (x = y) := beqd x y
   simp [Op.equalIn, run_underlying hu, e]
  ·cases hl
 ·rename_i x y
  cases hl
  have e : (x == y) = decide (x = y) := beqd x y
  simp [Op.equalIn, run_underlying hu, e]
 ·rename_i x y
  cases hl
  have e : (x == y) = decide (x = y) := by
   rw [beq_toListBytes, Bool.eq_iff_iff, decide_eq_true_iff, beq_iff_eq, ByteArray.toList_eq, ByteArray.toList_eq]
   cases x; cases y
   simp
  simp [Op.equalIn, run_underlying hu, e]
 ·cases hl
theorem run_part (w : World) {cs : List Value} {o : Nat} {u : Value} (hg : aggOf P t = some false) (hc : cs[o]? = some u) : (part t cs.toArray o).run P w = .ok u w := by
 simp [part, run_isAgg hg, hc]
theorem run_flat (w : World) (m : Nat) : ∀ (fs : List Field) (i : Nat) (ds : List TypeDesc) (px xs py ys : List Value) (r : Bool), flatF P i fs = some ds → px.length = i → py.length = i → leafs ds xs ys = some r →
  (Op.eqFields (m + 1) (px ++ xs).toArray (py ++ ys).toArray fs).run P w = .ok r w
 | [], i, ds, px, xs, py, ys, r, hf, h1, h2, hl => by
  cases hf
  match xs, ys, hl with
  | [], [], hl => cases hl; simp [Op.eqFields]
 | f :: fs, i, ds, px, xs, py, ys, r, hf, h1, h2, hl => by
  rw [flatF] at hf
  cases hu : P.underlying f.type with
  | none => simp [hu] at hf
  | some dd =>
   cases hr : flatF P (i + 1) fs with
   | none => simp [hu, hr] at hf
   | some ds' =>
    simp only [hu, hr] at hf
    split at hf
    ·rename_i hc
     cases hf
     obtain ⟨c1, c2, c3⟩ := hc
     match xs, ys, hl with
     | a :: xs, b :: ys, hl =>
      rw [leafs] at hl
      cases hv : leafV dd a b with
      | none => simp [hv] at hl
      | some p =>
       cases hw : leafs ds' xs ys with
       | none => simp [hv, hw] at hl
       | some q =>
        simp only [hv, hw, Option.some.injEq] at hl
        subst hl
        have ea : (px ++ a :: xs)[f.offset]? = some a := by rw [c2, List.getElem?_append_right (by omega), h1]; simp
        have eb : (py ++ b :: ys)[f.offset]? = some b := by rw [c2, List.getElem?_append_right (by omega), h2]; simp
        have ih := run_flat w m fs (i + 1) ds' (px ++ [a]) xs (py ++ [b]) ys q hr (by simp [h1]) (by simp [h2]) hw
        rw [List.append_assoc, List.append_assoc, List.singleton_append, List.singleton_append] at ih
        rw [Op.eqFields, if_pos c1]
        simp only [Sem.run_bind, run_part w c3 ea, run_part w c3 eb, Result.andThen_ok, run_leaf w m hu hv]
        cases p
        ·simp
        ·simp [ih]
    ·cases hf
theorem run_equal_flat (w : World) {ds : List TypeDesc} {xs ys : List Value} {r : Bool} (hf : flatD P t = some ds) (hl : leafs ds xs ys = some r) : (Op.equalIn 10000 t (.agg xs.toArray) (.agg ys.toArray)).run P w = .ok r w := by
 unfold flatD at hf
 split at hf
 ·rename_i fs hu
  split at hf
  ·rename_i hc
   have e : P.fieldsOf t = fs := by simp [Program.fieldsOf, hu]
   rw [run_equalIn_struct w 9999 t _ _ (by rw [e]; exact hu) hc.1, e]
   exact run_flat w 9998 fs.toList 0 ds [] xs [] ys r hf rfl rfl hl
  ·cases hf
 ·cases hf
theorem flatD_guard {ds : List TypeDesc} (hf : flatD P t = some ds) : P.eqGuardType P.depth t = false := by
 unfold flatD at hf
 split at hf
 ·split at hf
  ·rename_i hc; exact hc.2
  ·cases hf
 ·cases hf
theorem p_eqA {ds : List TypeDesc} {xs ys : List Value} {r : Bool} (hf : flatD P t = some ds) (hx : lkO E x = some (.agg xs.toArray)) (hy : lkO E y = some (.agg ys.toArray)) (hl : leafs ds xs ys = some r) : Pu P n E h K ⟨dst, .binOp .eql t x y t', ty, ps, af, g⟩ (.bool r) :=
 ⟨fun s w fa _ => by
  simp only [execOp, fa.eval hx, fa.eval hy, Sem.run_bind, run_eqGuard_agg w .eql t x y _ _ (flatD_guard hf), Result.andThen_ok, run_eql_struct, run_equal_flat w hf hl, Sem.run_pure]⟩
theorem p_loadW {b : Nat} {T : TypeId} {cs : List Value} {fz : Nat × Nat} (i : Nat) (hx : lkO E x = some (.pointer (some ⟨b, 0, none⟩))) (hi : K[i]? = some (blkF b T cs fz)) (hg : aggOf P t = some true) (hz : szOf P t = some cs.length) : Pu P n E h K ⟨dst, .load t x, ty, ps, af, g⟩ (.agg cs.toArray) :=
 p_loadM hg hx (cels_own (pre := []) (cs := cs) (post := []) i (by rw [List.nil_append, List.append_nil]; exact hi) rfl) hz rfl
/-! ### Stores of whole variables -/
theorem Ok.stores {b : Nat} {T : TypeId} : ∀ (us : List Value) (pre cs : List Value) (w : World), us.length = cs.length → (∀ u ∈ us, oneCell u = true) → Ok h (blk b T (pre ++ cs) :: H) w →
  ∃ w', (storeCells ⟨b, 0, none⟩ us pre.length).run P w = .ok () w' ∧ Ok h (blk b T (pre ++ us) :: H) w'
 | [], pre, cs, w, hl, _, ok => by
  obtain rfl : cs = [] := List.eq_nil_of_length_eq_zero hl.symm
  exact ⟨w, by simp [storeCells], ok⟩
 | u :: us, pre, cs, w, hl, h1, ok => by
  match cs, hl with
  | c :: cs, hl =>
   have hw : w.heap[b]? = some (.cells (pre ++ c :: cs).toArray T (0, 0)) := ok.own_head
   have e1 := run_store1 (P := P) (o := pre.length) hw (by simp) (by simp) u (h1 u (List.mem_cons_self ..))
   have ok1 := ok.store (o := pre.length) u
   rw [show (pre ++ c :: cs).set pre.length u = (pre ++ [u]) ++ cs from by simp] at ok1
   obtain ⟨w', e2, ok2⟩ := Ok.stores us (pre ++ [u]) cs _ (by simpa using hl) (fun v hv => h1 v (List.mem_cons_of_mem _ hv)) ok1
   refine ⟨w', ?_, by rw [List.append_assoc] at ok2; exact ok2⟩
   rw [storeCells]
   simp only [Sem.run_bind]
   rw [show ((⟨b, 0, none⟩ : Addr).add pre.length) = ⟨b, pre.length, none⟩ from by rw [add_none, Nat.zero_add], e1]
   simp only [Result.andThen_ok]
   rw [show (pre ++ [u]).length = pre.length + 1 from by simp] at e2
   exact e2
def ones (l : List Value) : Bool := l.all oneCell
theorem l_storeW {b : Nat} {T : TypeId} {cs us : List Value} (hs : szOf P t = some us.length) (hx : lkO E x = some (.pointer (some ⟨b, 0, none⟩))) (hy : lkO E y = some (.agg us.toArray)) (hv : ones us = true)
  (hl : us.length = cs.length) (hk : WL P n ops Q rest E h (blk b T us :: H)) :
  WL P n ops Q (⟨none, .store t x y, ty, ps, af, none⟩ :: rest) E h (blk b T cs :: H) :=
 ⟨fun a w fa ok => wpList_plain rfl fun K hK => by
  unfold Oper.wp
  obtain ⟨w', e, ok'⟩ := Ok.stores (P := P) us [] cs w hl (by simpa [ones] using hv) ok
  have : (execOp a.eval ⟨none, .store t x y, ty, ps, af, none⟩).run P w = .ok .skip w' := by
   simp only [execOp, fa.eval hx, fa.eval hy, Instr.storeAt, Instr.sureAddr, storeVar, Sem.run_bind, Sem.run_pure, Result.andThen_ok, run_sizeOf hs, Value.cells, List.size_toArray, ne_eq, not_true_eq_false, if_false]
   have e' : (storeCells ⟨b, 0, none⟩ us).run P w = .ok () w' := e
   simp [e']
  rw [this, Oper.upon_skip]
  exact hK _ _ (hk.run _ _ fa ok')⟩
theorem l_storeW_at {b : Nat} {T : TypeId} {cs us : List Value} (i : Nat) {H' : List Asrt} (hi : H[i]? = some (blk b T cs)) (hs : szOf P t = some us.length) (hx : lkO E x = some (.pointer (some ⟨b, 0, none⟩))) (hy : lkO E y = some (.agg us.toArray)) (hv : ones us = true)
  (hl : us.length = cs.length) (hH : H.set i (blk b T us) = H') (hk : WL P n ops Q rest E h H') :
  WL P n ops Q (⟨none, .store t x y, ty, ps, af, none⟩ :: rest) E h H := by
 have e1 := at_perm hi
 have e2 : (blk b T us :: H.eraseIdx i).Perm H' := by
  have hlt : i < H.length := by
   rcases Nat.lt_or_ge i H.length with h' | h'
   ·exact h'
   ·rw [List.getElem?_eq_none h'] at hi; cases hi
  have := at_perm (l := H.set i (blk b T us)) (i := i) (A := blk b T us) (by rw [List.getElem?_set_self hlt])
  rw [List.eraseIdx_set_eq] at this
  rw [← hH]; exact this.symm
 exact WL.perm e1 (l_storeW hs hx hy hv hl (WL.perm e2 hk))

/-! ### Calls through function values -/
theorem run_callF {f : FuncId} {args : List Operand} {vals caps : List Value} {ats : Array TypeId} {a : Act} {w : World} (hc : Callable P f) (fa : Fr n E a) (hx : lkO E x = some (.func (.func f) #[] caps.toArray)) (ha : evArgs E args = some vals) :
  (execOp a.eval ⟨dst, .call ⟨.value x, args.toArray, ats⟩, ty, ps, af, g⟩).run P w = .ok (.enter f (vals ++ caps).toArray) w := by
 have h1 := evArgs_eval fa args vals ha
 have h2 : args.toArray.map a.eval = vals.toArray := by rw [List.map_toArray, h1]
 simp only [execOp, resolve, fa.eval hx, Deferred.ofValue, h2, Sem.run_bind, Sem.run_pure, Result.andThen_ok, invoke]
 simp only [Array.empty_append, List.append_toArray]
 exact hc _ _
theorem l_callF {f : FuncId} {args : List Operand} {vals caps : List Value} {ats : Array TypeId} {Pre F : List Asrt} {Post : Value → Base → List Asrt → Prop} (hc : Callable P f) (hx : lkO E x = some (.func (.func f) #[] caps.toArray)) (ha : evArgs E args = some vals) (ht : Tr P f (vals ++ caps) h Pre Post)
  (hp : H.Perm (Pre ++ F)) (hd : Nat.blt d n = true) (hk : ∀ v h' H', h.le h' → Post v h' H' → WL P n ops Q rest ((d, v) :: E) h' (H' ++ F)) :
  WL P n ops Q (⟨some d, .call ⟨.value x, args.toArray, ats⟩, ty, ps, af, none⟩ :: rest) E h H :=
 ⟨fun a w fa ok => wpList_plain rfl fun K hK => by
  unfold Oper.wp
  rw [run_callF hc fa hx ha, Oper.upon_enter]
  refine Calls.mono (ht F w (ok.perm hp)) ?_
  rintro e w' ⟨v, rfl, h', H', hle, hP, ok'⟩
  exact hK _ _ ((hk v h' H' hle hP).run _ _ (fa.put v hd) ok')⟩
/-! ### Results in cells -/
inductive ResC (P : Program) (E : Env) (h : Base) (H : List Asrt) : List ResultVar → List Value → Prop
 | nil : ResC P E h H [] []
 | tmp {t : Nat} {v : Value} {r : List ResultVar} {vs : List Value} (hl : lk E t = some v) (hr : ResC P E h H r vs) : ResC P E h H (.tmp t :: r) (v :: vs)
 | cell {t b : Nat} {ty : TypeId} {us : List Value} {r : List ResultVar} {vs : List Value} (hl : lk E t = some (.pointer (some ⟨b, 0, none⟩))) (hg : aggOf P ty = some true) (hs : szOf P ty = some us.length) (hc : Cels h H b 0 us) (hr : ResC P E h H r vs) : ResC P E h H (.cell t ty :: r) (.agg us.toArray :: vs)
 | cell1 {t b : Nat} {ty : TypeId} {u : Value} {r : List ResultVar} {vs : List Value} (hl : lk E t = some (.pointer (some ⟨b, 0, none⟩))) (hg : aggOf P ty = some false) (hc : Cel h H b 0 u) (hr : ResC P E h H r vs) : ResC P E h H (.cell t ty :: r) (u :: vs)
theorem mapM_resC {a : Act} {w : World} (fa : Fr n E a) (hw : Sat h H w) (f : ResultVar → Sem Value) (hf : ∀ t, f (.tmp t) = pure (a.tmps.getD t undef)) (hf2 : ∀ t ty, f (.cell t ty) = (do loadVar ty (← asAddr (a.tmps.getD t undef)))) : ∀ (rs : List ResultVar) (vs : List Value), ResC P E h H rs vs →
  (rs.mapM f).run P w = .ok vs w
 | _, _, .nil => by simp
 | _, _, .tmp (t := t) (v := v) hl hr => by
  have := mapM_resC fa hw f hf hf2 _ _ hr
  have hg : a.tmps.getD t undef = v := by simp [Array.getD_eq_getD_getElem?, fa.get t v hl]
  simp only [List.mapM_cons, Sem.run_bind, hf, hg, Sem.run_pure, Result.andThen_ok, this]
 | _, _, .cell (t := t) (b := b) (ty := ty) (us := us) hl hg hs hc hr => by
  have := mapM_resC fa hw f hf hf2 _ _ hr
  have hgt : a.tmps.getD t undef = .pointer (some ⟨b, 0, none⟩) := by simp [Array.getD_eq_getD_getElem?, fa.get t _ hl]
  have hld : (loadCells ⟨b, 0, none⟩ us.length).run P w = .ok us.toArray w := run_loadCells_list w _ _ fun j u hj => by
   rw [add_none]; exact (hc.get j u hj).run w hw
  simp only [List.mapM_cons, Sem.run_bind, hf2, hgt, asAddr, Sem.run_pure, Result.andThen_ok, loadVar, run_isAgg hg, run_sizeOf hs, if_true, hld, this]
 | _, _, .cell1 (t := t) (b := b) (ty := ty) (u := u) hl hg hc hr => by
  have hld : (load ⟨b, 0, none⟩).run P w = .ok u w := by simp [hc.run w hw]
  have := mapM_resC fa hw f hf hf2 _ _ hr
  have hgt : a.tmps.getD t undef = .pointer (some ⟨b, 0, none⟩) := by simp [Array.getD_eq_getD_getElem?, fa.get t _ hl]
  simp only [List.mapM_cons, Sem.run_bind, hf2, hgt, asAddr, Sem.run_pure, Result.andThen_ok, loadVar, run_isAgg hg, Bool.false_eq_true, if_false, hld, this]
theorem run_resC {fn : Func} {a : Act} {w : World} {vs : List Value} (fa : Fr n E a) (hw : Sat h H w) (hr : ResC P E h H fn.results.toList vs) : (results fn a.tmps).run P w = .ok (packV vs) w := by
 unfold results
 rw [Array.mapM_eq_mapM_toList]
 simp only [Sem.run_bind, Sem.run_map]
 rw [mapM_resC (P := P) (w := w) fa hw _ (by intro t; rfl) (by intro t ty; rfl) _ vs hr]
 simp only [Result.andThen_ok, Sem.run_pure]
 match vs with
 | [] => rfl
 | [v] => rfl
 | v :: u :: r => rfl
theorem doneC {fn : Func} {e : Exit} {F H' D : List Asrt} {h0 : Base} {Post : Value → Base → List Asrt → Prop} {vs : List Value} (he : e = .ret ∨ e = .normal) (hr : ResC P E h H fn.results.toList vs)
  (hle : h0.le h) (hH : H = D ++ (H' ++ F)) (hP : Post (packV vs) h H') (hn : n.ds = [] := by rfl) : AT P n (post P fn fun v w' => ∃ h' H', h0.le h' ∧ Post v h' H' ∧ Ok h' (H' ++ F) w') e E h H :=
 ⟨fun a w fa ok => by
  have hk : ∃ h' H'', h0.le h' ∧ Post (packV vs) h' H'' ∧ Ok h' (H'' ++ F) w := ⟨h, H', hle, hP, (hH ▸ ok).drops⟩
  rcases he with rfl | rfl <;> exact ⟨fa.defers.trans hn, packV vs, run_resC fa ok.sat hr, _, rfl, hk⟩⟩
theorem dc {fn : Func} {e : Exit} {F H' D : List Asrt} {h0 : Base} {Post : Value → Base → List Asrt → Prop} {vs : List Value} (hr : ResC P E h H fn.results.toList vs)
  (hle : h0.le h) (hH : H = D ++ (H' ++ F)) (hP : Post (packV vs) h H') (he : e = .ret ∨ e = .normal := by first | exact Or.inl rfl | exact Or.inr rfl) (hn : n.ds = [] := by rfl) : AT P n (post P fn fun v w' => ∃ h' H', h0.le h' ∧ Post v h' H' ∧ Ok h' (H' ++ F) w') e E h H := doneC he hr hle hH hP hn

/-! ### Arrays, texts, rows of structs -/
theorem p_indexA {e : TypeId} {s b o la o' : Nat} {k : IntKind} {m : Int} (hu : P.underlying t = some (.array la e)) (hs : szOf P e = some s) (hx : lkO E x = some (.pointer (some ⟨b, o, none⟩))) (hy : lkO E y = some (.int k m))
  (h0 : 0 ≤ m) (h1 : m < la) (ho : o + m.toNat * s = o') : Pu P n E h K ⟨dst, .indexAddr t x y, ty, ps, af, g⟩ (.pointer (some ⟨b, o', none⟩)) :=
 ⟨fun a w fa _ => by simp [execOp, fa.eval hx, fa.eval hy, Instr.indexAt, Instr.sureAddr, asIntOf, run_underlying hu, h0, h1, run_sizeOf hs, add_none, ho]⟩
theorem suf_left (K F : List Asrt) : Suf K (K ++ F) := ⟨fun A hA => List.mem_append_left _ hA⟩
theorem Ok.freezeRow {T sz : Nat} {a : Option Nat} {cap : Nat} {es : List (List Value)} {w : World} (hz : ∀ e ∈ es, e.length = sz) (ok : Ok h (bufA T sz a es.length cap es.flatten :: H) w) : ∃ h', h.le h' ∧ SL h' sz (bufV a es.length cap) es ∧ es.length ≤ cap ∧ Ok h' H w := by
 have hown := ok.own_head
 cases a with
 | none =>
  obtain ⟨e1, e2, e3⟩ := hown
  have : es = [] := List.eq_nil_of_length_eq_zero e1
  subst this; subst e2
  exact ⟨h, Base.le.refl h, .inl ⟨_, _, rfl, rfl⟩, Nat.le_refl _, ok.drop⟩
 | some b =>
  obtain ⟨sp, fz, g1, g2, g3, g4, g5, g6⟩ := hown
  have ok2 : Ok h (blkF b T (es.flatten ++ sp) fz :: H) w := by
   refine ⟨ok.os, ok.tape, ok.output, ⟨ok.sat.imm, fun A hA => ?_⟩, ok.nd, ok.dj⟩
   rcases List.mem_cons.1 hA with rfl | hA'
   ·exact g1
   ·exact ok.sat.own A (List.mem_cons_of_mem _ hA')
  obtain ⟨f1, f2, f3⟩ := ok2.freeze
  refine ⟨_, f1, .inr ⟨b, 0, cap, rfl, g4, fun j hj => ⟨hz _ (List.getElem_mem hj), ?_⟩⟩, g4, f3⟩
  have key : ∀ (fs : List (List Value)), (∀ e ∈ fs, e.length = sz) → ∀ j (hj : j < fs.length) (i : Nat) (u : Value), fs[j][i]? = some u → fs.flatten[j * sz + i]? = some u := by
   intro fs
   induction fs with
   | nil => intro _ j hj; simp at hj
   | cons f fs ih =>
    intro hz' j hj i u hu
    have hf := hz' f (List.mem_cons_self ..)
    rw [List.flatten_cons]
    cases j with
    | zero =>
     simp only [List.getElem_cons_zero] at hu
     rw [Nat.zero_mul, Nat.zero_add, List.getElem?_append_left (List.getElem?_eq_some_iff.1 hu).1]; exact hu
    | succ j =>
     simp only [List.getElem_cons_succ] at hu
     have := ih (fun e he => hz' e (List.mem_cons_of_mem _ he)) j (by simpa using hj) i u hu
     rw [List.getElem?_append_right (by rw [hf, Nat.add_mul]; omega), hf, show (j + 1) * sz + i - sz = j * sz + i from by rw [Nat.add_mul]; omega]
     exact this
  refine cels_of fun i u hu => ?_
  rw [Nat.zero_add]
  refine cel_mem f2 ?_
  have := key es hz j hj i u hu
  rw [List.getElem?_append_left (List.getElem?_eq_some_iff.1 this).1]; exact this
theorem WL.freezeRow {L : List Oper} {T sz : Nat} {a : Option Nat} {cap : Nat} {es : List (List Value)} (hz : ∀ e ∈ es, e.length = sz) (hk : ∀ h', h.le h' → SL h' sz (bufV a es.length cap) es → es.length ≤ cap → WL P n ops Q L E h' H) : WL P n ops Q L E h (bufA T sz a es.length cap es.flatten :: H) :=
 ⟨fun a w fa ok => by obtain ⟨h', h1, h2, h3, h4⟩ := ok.freezeRow hz; exact (hk h' h1 h2 h3).run _ w fa h4⟩
theorem l_makeSlice {e : TypeId} {s bs m c : Nat} {kl kc : IntKind} {z : Value} (hu : P.underlying t = some (.slice e)) (hs : szOf P e = some s) (hz : zrOf P e = some z) (hzs : z.cells.size = s) (hb : byOf P e = some bs) (hx : lkO E x = some (.int kl m)) (hy : lkO E y = some (.int kc c))
  (hmc : m ≤ c) (hby : bs * c ≤ 281474976710656) (hmax : c ≤ maxLen) (hd : Nat.blt d n = true)
  (hk : ∀ B, WL P n ops Q rest ((d, bufV (some B) m c) :: E) h (bufA e s (some B) m c ((madeCells z.cells (c * s)).toList.take (m * s)) :: H)) :
  WL P n ops Q (⟨some d, .makeSlice t x y, ty, ps, af, none⟩ :: rest) E h H :=
 ⟨fun a w fa ok => wpList_plain rfl fun K hK => by
  unfold Oper.wp
  unfold szOf at hs
  unfold zrOf at hz
  unfold byOf at hb
  cases hi : P.info? e with
  | none => simp [hi] at hs
  | some inf =>
   simp [hi] at hs hz hb
   have hby' : (bs : Int) * (c : Int) ≤ 281474976710656 := by
    have h : ((bs * c : Nat) : Int) ≤ 281474976710656 := by omega
    rwa [Int.natCast_mul] at h
   have hr := run_make (P := P) w t e inf z hu hi hz kl kc m c (by omega) (by omega) (by rw [hb]; exact hby') (by unfold maxLen at hmax; omega)
   rw [Int.toNat_natCast, Int.toNat_natCast, hs] at hr
   have : (execOp a.eval ⟨some d, .makeSlice t x y, ty, ps, af, none⟩).run P w = .ok (.value (.slice (some ⟨w.heap.size, 0, none⟩) m c)) (w.alloc (.cells (madeCells z.cells (c * s)) e)) := by
    simp [execOp, fa.eval hx, fa.eval hy, hr]
   rw [this, Oper.upon_value]
   refine hK _ _ ((hk w.heap.size).run _ _ (fa.put _ hd) ?_)
   have okn := ok.alloc (madeCells z.cells (c * s)).toList e (0, 0)
   rw [Array.toArray_toList, ← List.take_append_drop (m * s) (madeCells z.cells (c * s)).toList] at okn
   have hl : (madeCells z.cells (c * s)).toList.length = c * s := by rw [Array.length_toList, size_madeCells]
   exact okn.shut (m := m) (s := s) (cap := c) (by rw [List.length_take, hl, Nat.min_eq_left (Nat.mul_le_mul_right _ hmc)]) (by rw [List.take_append_drop, hl]) hmc hmax (Free.zero _)⟩
end
end Go.K

/-! KC: stores of whole elements into an owned row. Generic over the program. Conditions: none. -/
namespace Go.K

section
variable {P : Program} {n : NN} {Q : Exit → Act → World → Prop} {E : Env} {h h' h0 : Base} {H K R : List Asrt} {ops : Array Oper} {rest : List Oper}
variable {op : Op} {t t' ty : TypeId} {ps : String} {af : Array Edge} {d i : Nat} {v : Value} {x y : Operand} {dst : Option Nat} {g : Option (Nat × Bool)}

theorem Ok.storesF {b : Nat} {T : TypeId} {fz : Nat × Nat} : ∀ (us pre cs post : List Value) (w : World), us.length = cs.length → (∀ u ∈ us, oneCell u = true) → Free fz (pre.length + us.length) → Ok h (blkF b T (pre ++ cs ++ post) fz :: H) w →
  ∃ w', (storeCells ⟨b, 0, none⟩ us pre.length).run P w = .ok () w' ∧ Ok h (blkF b T (pre ++ us ++ post) fz :: H) w'
 | [], pre, cs, post, w, hl, _, _, ok => by
  obtain rfl : cs = [] := List.eq_nil_of_length_eq_zero hl.symm
  exact ⟨w, by simp [storeCells], ok⟩
 | u :: us, pre, cs, post, w, hl, h1, hf, ok => by
  match cs, hl with
  | c :: cs, hl =>
   have hw : w.heap[b]? = some (.cells (pre ++ c :: cs ++ post).toArray T fz) := ok.own_head
   have e1 := run_store1 (P := P) (o := pre.length) hw (by simp) (hf _ (by simp)) u (h1 u (List.mem_cons_self ..))
   have ok1 := ok.store (o := pre.length) u
   rw [show (pre ++ c :: cs ++ post).set pre.length u = (pre ++ [u]) ++ cs ++ post from by simp] at ok1
   obtain ⟨w', e2, ok2⟩ := Ok.storesF us (pre ++ [u]) cs post _ (by simpa using hl) (fun v hv => h1 v (List.mem_cons_of_mem _ hv)) (by simpa [Nat.add_assoc, Nat.add_comm 1] using hf) ok1
   refine ⟨w', ?_, by simpa using ok2⟩
   rw [storeCells]
   simp only [Sem.run_bind]
   rw [show ((⟨b, 0, none⟩ : Addr).add pre.length) = ⟨b, pre.length, none⟩ from by rw [add_none, Nat.zero_add], e1]
   simp only [Result.andThen_ok]
   rw [show (pre ++ [u]).length = pre.length + 1 from by simp] at e2
   exact e2
theorem storeCells_at (b o : Nat) : ∀ (us : List Value) (k : Nat), storeCells ⟨b, o, none⟩ us k = storeCells ⟨b, 0, none⟩ us (o + k)
 | [], _ => by simp [storeCells]
 | u :: us, k => by
  rw [storeCells, storeCells, storeCells_at b o us (k + 1)]
  simp [add_none, Nat.add_assoc]
theorem l_storeN {b o : Nat} {T : TypeId} {fz : Nat × Nat} {pre cs post us : List Value} (hs : szOf P t = some us.length) (hx : lkO E x = some (.pointer (some ⟨b, o, none⟩))) (hy : lkO E y = some (.agg us.toArray)) (hv : ones us = true)
  (hl : us.length = cs.length) (ho : pre.length = o) (hf : Free fz (o + us.length)) (hk : WL P n ops Q rest E h (blkF b T (pre ++ us ++ post) fz :: H)) :
  WL P n ops Q (⟨none, .store t x y, ty, ps, af, none⟩ :: rest) E h (blkF b T (pre ++ cs ++ post) fz :: H) :=
 ⟨fun a w fa ok => wpList_plain rfl fun K hK => by
  subst ho
  unfold Oper.wp
  obtain ⟨w', e, ok'⟩ := Ok.storesF (P := P) us pre cs post w hl (by simpa [ones] using hv) hf ok
  have : (execOp a.eval ⟨none, .store t x y, ty, ps, af, none⟩).run P w = .ok .skip w' := by
   simp only [execOp, fa.eval hx, fa.eval hy, Instr.storeAt, Instr.sureAddr, storeVar, Sem.run_bind, Sem.run_pure, Result.andThen_ok, run_sizeOf hs, Value.cells, List.size_toArray, ne_eq, not_true_eq_false, if_false]
   have e' : (storeCells ⟨b, pre.length, none⟩ us).run P w = .ok () w' := by rw [storeCells_at, Nat.add_zero]; exact e
   simp [e']
  rw [this, Oper.upon_skip]
  exact hK _ _ (hk.run _ _ fa ok')⟩
theorem flatten_len {s : Nat} : ∀ (es : List (List Value)), (∀ e ∈ es, e.length = s) → es.flatten.length = es.length * s
 | [], _ => by simp
 | e :: es, h => by
  rw [List.flatten_cons, List.length_append, h e (List.mem_cons_self ..), flatten_len es fun x hx => h x (List.mem_cons_of_mem _ hx), List.length_cons, Nat.add_mul]
  omega
theorem flat_parts {s : Nat} : ∀ (es : List (List Value)) (i : Nat) (hi : i < es.length), (∀ e ∈ es, e.length = s) → es.flatten = (es.take i).flatten ++ es[i] ++ (es.drop (i + 1)).flatten ∧ (es.take i).flatten.length = i * s := fun es i hi hz => by
 constructor
 ·have e := List.take_append_drop i es
  rw [List.drop_eq_getElem_cons hi] at e
  have e2 := congrArg List.flatten e
  rw [List.flatten_append, List.flatten_cons, ← List.append_assoc] at e2
  exact e2.symm
 ·rw [flatten_len (es.take i) fun e he => hz e (List.mem_of_mem_take he), List.length_take, Nat.min_eq_left (by omega)]
theorem WL.drop {l : List Oper} {A : Asrt} (hx : WL P n ops Q l E h H) : WL P n ops Q l E h (A :: H) := ⟨fun a w fa ok => hx.run a w fa ok.drop⟩
end
end Go.K

/-! KD: functions without a body, which compute alone; slices read whole. Generic over the program. Conditions: none. -/
namespace Go.K

section
variable {P : Program} {n : NN} {Q : Exit → Act → World → Prop} {E : Env} {h h' h0 : Base} {H K R : List Asrt} {ops : Array Oper} {rest : List Oper}
variable {op : Op} {t t' ty : TypeId} {ps : String} {af : Array Edge} {d i : Nat} {v : Value} {x y : Operand} {dst : Option Nat} {g : Option (Nat × Bool)}

theorem p_makeFunc {f : FuncId} {caps : List Operand} {vals : List Value} (ha : evArgs E caps = some vals) : Pu P n E h K ⟨dst, .makeFunc (.func f) #[] caps.toArray, ty, ps, af, g⟩ (.func (.func f) #[] vals.toArray) :=
 ⟨fun a w fa _ => by
  have h1 := evArgs_eval fa caps vals ha
  have h2 : caps.toArray.map a.eval = vals.toArray := by rw [List.map_toArray, h1]
  simp [execOp, Instr.makeFunc, h2]⟩
end
end Go.K

/-! KE: what is owned, lent to a function that only reads; copies and appends within an owned row; a row cleared. Generic over the program. Conditions: none. -/
namespace Go.K

def Says (h : Base) (A : List Asrt) : Prop := (∃ w, Sat h [] w) ∧ ∀ w, Sat h [] w → ∀ a ∈ A, a.holds w
theorem Ok.sat0 {h : Base} {H : List Asrt} {w : World} (ok : Ok h H w) : Sat h [] w := ok.sat.sub fun _ hA => by cases hA
theorem idsOf_append (A B : List Asrt) : idsOf (A ++ B) = idsOf A ++ idsOf B := by simp [idsOf]
theorem Ok.freezeA {h : Base} {A F : List Asrt} {w : World} (ok : Ok h (A ++ F) w) : ∃ h', h.le h' ∧ Says h' A ∧ Ok h' F w ∧ ∀ F' w', Ok h' F' w' → Ok h (A ++ F') w' := by
 have hnd := ok.nd
 rw [idsOf_append, List.nodup_append] at hnd
 have hdj : ∀ b ∈ idsOf A, h.mem b = none := fun b hb => ok.dj b (by rw [idsOf_append]; exact List.mem_append_left _ hb)
 have hdjF : ∀ b ∈ idsOf F, h.mem b = none := fun b hb => ok.dj b (by rw [idsOf_append]; exact List.mem_append_right _ hb)
 have hlive : ∀ b ∈ idsOf A, b < w.heap.size := fun b hb => ok.live b (by rw [idsOf_append]; exact List.mem_append_left _ hb)
 let h' : Base := ⟨h.os, h.tape, h.output, fun b => if b ∈ idsOf A then w.heap[b]? else h.mem b⟩
 have hin : ∀ b, b ∈ idsOf A → h'.mem b = w.heap[b]? := fun b hb => if_pos hb
 have hout : ∀ b, b ∉ idsOf A → h'.mem b = h.mem b := fun b hb => if_neg hb
 have hle : h.le h' := ⟨rfl, rfl, rfl, fun b o hb => by
  by_cases hm : b ∈ idsOf A
  ·rw [hdj b hm] at hb; cases hb
  ·rw [hout b hm]; exact hb⟩
 have okF : Ok h' F w := by
  refine ⟨ok.os, ok.tape, ok.output, ⟨fun b o hb => ?_, fun B hB => ok.sat.own B (List.mem_append_right _ hB)⟩, hnd.2.1, fun b hb => ?_⟩
  ·by_cases hm : b ∈ idsOf A
   ·rw [hin b hm] at hb; exact hb
   ·rw [hout b hm] at hb; exact ok.sat.imm b o hb
  ·have hm : b ∉ idsOf A := fun hm => hnd.2.2 b hm b hb rfl
   rw [hout b hm]; exact hdjF b hb
 have hsame : ∀ w', Sat h' [] w' → ∀ b ∈ idsOf A, w'.heap[b]? = w.heap[b]? := fun w' hs b hb => by
  have h1 := Array.getElem?_eq_getElem (hlive b hb)
  rw [h1]
  exact hs.imm b _ (by rw [hin b hb, h1])
 have hsays : ∀ w', Sat h' [] w' → ∀ a ∈ A, a.holds w' := fun w' hs a ha =>
  a.loc w w' (fun b hb => hsame w' hs b (List.mem_flatMap.2 ⟨a, ha, hb⟩)) (ok.sat.own a (List.mem_append_left _ ha))
 refine ⟨h', hle, ⟨⟨w, okF.sat0⟩, hsays⟩, okF, fun F' w' ok' => ?_⟩
 refine ⟨ok'.os, ok'.tape, ok'.output, ⟨fun b o hb => ok'.sat.imm b o (hle.mem b o hb), fun B hB => ?_⟩, ?_, fun b hb => ?_⟩
 ·rcases List.mem_append.1 hB with hB | hB
  ·exact hsays w' ok'.sat0 B hB
  ·exact ok'.sat.own B hB
 ·rw [idsOf_append, List.nodup_append]
  refine ⟨hnd.1, ok'.nd, fun a ha b hb e => ?_⟩
  subst e
  have h1 := ok'.dj a hb
  rw [hin a ha, Array.getElem?_eq_getElem (hlive a ha)] at h1
  cases h1
 ·rw [idsOf_append] at hb
  rcases List.mem_append.1 hb with hb | hb
  ·exact hdj b hb
  ·have h1 := ok'.dj b hb
   cases hm : h.mem b with
   | none => rfl
   | some o => rw [hle.mem b o hm] at h1; cases h1

section
variable {P : Program} {n : NN} {Q : Exit → Act → World → Prop} {E : Env} {h h' h0 : Base} {H K R F : List Asrt} {ops : Array Oper} {rest : List Oper}
variable {op : Op} {t t' ty : TypeId} {ps : String} {af : Array Edge} {d i : Nat} {v : Value} {x y : Operand} {dst : Option Nat} {g : Option (Nat × Bool)}

theorem TrV.borrow {f : FuncId} {args : List Value} {A : List Asrt} (ht : ∀ h', h.le h' → Says h' A → TrV P f args h' R v R) : TrV P f args h (A ++ R) v (A ++ R) := fun F w ok => by
 rw [List.append_assoc] at ok
 obtain ⟨h', hle, hs, ok', thaw⟩ := ok.freezeA
 refine Calls.mono (ht h' hle hs F w ok') fun e w' ⟨u, he, h1, H1, hle1, ⟨q1, q2, q3⟩, ok1⟩ => ⟨u, he, h, _, .refl _, ⟨q1, rfl, rfl⟩, ?_⟩
 subst q2 q3
 rw [List.append_assoc]
 exact thaw _ _ ok1
theorem Tr.borrow {f : FuncId} {args : List Value} {A : List Asrt} {Q : Value → List Asrt → Prop} (ht : ∀ h', h.le h' → Says h' A → Tr P f args h' R (fun u h1 H1 => h1 = h' ∧ Q u H1)) :
  Tr P f args h (A ++ R) (fun u h1 H1 => h1 = h ∧ ∃ H2, H1 = A ++ H2 ∧ Q u H2) := fun F w ok => by
 rw [List.append_assoc] at ok
 obtain ⟨h', hle, hs, ok', thaw⟩ := ok.freezeA
 refine Calls.mono (ht h' hle hs F w ok') fun e w' ⟨u, he, h1, H1, hle1, ⟨q1, q2⟩, ok1⟩ => ⟨u, he, h, _, .refl _, ⟨rfl, H1, rfl, q2⟩, ?_⟩
 subst q1
 rw [List.append_assoc]
 exact thaw _ _ ok1
theorem says_mem {A : List Asrt} {B : Asrt} (hs : Says h A) (hB : B ∈ A) : Says h [B] := ⟨hs.1, fun w hw a ha => by
 rw [List.mem_singleton] at ha; subst ha; exact hs.2 w hw a hB⟩
theorem says_all {Hs : List Asrt} (hs : Says h [all Hs]) : Says h Hs := ⟨hs.1, fun w hw a ha => hs.2 w hw _ (List.mem_singleton.2 rfl) a ha⟩
theorem says_cels {T s : Nat} {b : Nat} {m cap : Nat} {cs : List Value} (hs : Says h [bufA T s (some b) m cap cs]) : Cels h [] b 0 cs := cels_of fun j u hj => ⟨fun w hw => by
 obtain ⟨sp, fz, e, _⟩ := hs.2 w hw _ (List.mem_singleton.2 rfl)
 have hlt := (List.getElem?_eq_some_iff.1 hj).1
 have hc : (cs ++ sp)[j]? = some u := by rw [List.getElem?_append_left hlt]; exact hj
 rw [Nat.zero_add]
 exact (cel_own (K := [blkF b T (cs ++ sp) fz]) (h := h) 0 rfl hc).run w ⟨hw.imm, fun A hA => by
  rw [List.mem_singleton] at hA; subst hA; exact e⟩⟩
theorem says_bv {T : Nat} {a : Option Nat} {cap : Nat} {l : List UInt8} (hs : Says h [bufA T 1 a l.length cap (l.map u8)]) : BV h (bufV a l.length cap) l := by
 obtain ⟨w, hw⟩ := hs.1
 have := hs.2 w hw _ (List.mem_singleton.2 rfl)
 cases a with
 | none =>
  have hl : l = [] := List.eq_nil_of_length_eq_zero this.1
  subst hl
  exact .inl ⟨_, _, rfl, rfl⟩
 | some b =>
  obtain ⟨sp, fz, _, _, _, g4, _⟩ := this
  exact .inr ⟨b, 0, cap, rfl, g4, says_cels hs⟩
theorem says_sl {T sz : Nat} {a : Option Nat} {cap : Nat} {es : List (List Value)} (hz : ∀ e ∈ es, e.length = sz) (hs : Says h [bufA T sz a es.length cap es.flatten]) : SL h sz (bufV a es.length cap) es := by
 obtain ⟨w, hw⟩ := hs.1
 have := hs.2 w hw _ (List.mem_singleton.2 rfl)
 cases a with
 | none =>
  have hl : es = [] := List.eq_nil_of_length_eq_zero this.1
  subst hl
  exact .inl ⟨_, _, rfl, rfl⟩
 | some b =>
  obtain ⟨sp, fz, _, _, _, g4, _⟩ := this
  have hc := says_cels hs
  refine .inr ⟨b, 0, cap, rfl, g4, fun j hj => ⟨hz _ (List.getElem_mem hj), ?_⟩⟩
  obtain ⟨p1, p2⟩ := flat_parts es j hj hz
  rw [p1, Cels.append, Cels.append] at hc
  have := hc.1.2
  rw [p2] at this
  exact this

theorem p_compl {k : IntKind} {a c : Int} (hx : lkO E x = some (.int k a)) (hc : bits .xor k (if k.signed then -1 else k.max) a = c) : Pu P n E h K ⟨dst, .unOp .xor t x, ty, ps, af, g⟩ (.int k c) :=
 ⟨fun s w fa _ => by simp [execOp, fa.eval hx, Op.unary, Op.intBits, ← hc, bits]⟩
theorem d_skipUS {σ : Sch} {j s : Nat} {want : Bool} {u : Value} (ho : ops[i]? = some ⟨some d, op, t, ps, af, some (j, want)⟩) (hj : dstOf ops j = some s) (hl : lk E s = some u) (hu : isB u = false) (hd : Nat.blt d n = true) (hk : WS P n ops Q h0 K σ ((d, undef) :: E) h H) : WS P n ops Q h0 K (.st i σ) E h H :=
 ⟨fun a w fa ok => ⟨_, undef, ho, .inr ⟨by simp [Region.wanted, yielded_undef fa hj hl hu], rfl⟩, hk.run _ _ (fa.put undef hd) ok⟩⟩
/-! ### Copies and appends within an owned row -/
theorem l_copy {t2 : TypeId} {e s b o dl dc m k sc : Nat} {T : TypeId} {fz : Nat × Nat} {ao : Option Addr} {xs pre cs post : List Value} (hu : P.underlying t = some (.slice e)) (hs : szOf P e = some s) (hx : lkO E x = some (.slice (some ⟨b, o, none⟩) dl dc)) (hy : lkO E y = some (.slice ao m sc))
  (hk0 : Nat.min m dl = k) (hsrc : Src P h (blkF b T (pre ++ cs ++ post) fz :: H) s (.slice ao k sc) k xs) (hl : xs.length = cs.length) (ho : pre.length = o) (hf : Free fz (o + xs.length)) (hd : Nat.blt d n = true)
  (hk : WL P n ops Q rest ((d, .int .i64 k) :: E) h (blkF b T (pre ++ xs ++ post) fz :: H)) :
  WL P n ops Q (⟨some d, .call ⟨.builtin .copy, #[x, y], #[t, t2]⟩, ty, ps, af, none⟩ :: rest) E h (blkF b T (pre ++ cs ++ post) fz :: H) :=
 ⟨fun ac w fa ok => wpList_plain rfl fun KK hK => by
  subst ho
  obtain ⟨w', e1, ok'⟩ := Ok.storesF (P := P) xs pre cs post w hl hsrc.one hf ok
  have e2 : (storeCells ⟨b, pre.length, none⟩ xs).run P w = .ok () w' := by rw [storeCells_at, Nat.add_zero]; exact e1
  have e3 := hsrc.get w ok.sat
  have e4 : (Builtin.firstCells s k (.slice ao m sc)).run P w = .ok xs.toArray w := by
   cases ao <;> exact e3
  unfold Oper.wp
  have : (execOp ac.eval ⟨some d, .call ⟨.builtin .copy, #[x, y], #[t, t2]⟩, ty, ps, af, none⟩).run P w = .ok (.value (.int .i64 k)) w' := by
   rw [show (#[x, y] : Array Operand) = [x, y].toArray from rfl, run_builtin (vals := [.slice (some ⟨b, pre.length, none⟩) dl dc, .slice ao m sc]) fa (by simp [evArgs, hx, hy])]
   simp [builtin, Builtin.copy_, run_underlying hu, Builtin.lenOf, run_sizeOf hs, hk0, e4, e2]
   rfl
  rw [this, Oper.upon_value]
  exact hK _ _ (hk.run _ _ (fa.put _ hd) ok')⟩
end
end Go.K

/-! KF: comparisons of byte slices; the order of texts. Generic over the program. Conditions: none. -/
namespace Go.K
theorem run_loadB {P : Program} {w : World} : ∀ (l : List UInt8) (b o : Nat) (acc : ByteArray), (∀ j x, l[j]? = some x → w.cell? ⟨b, o + j, none⟩ = some (u8 x)) → (Extern.Bytes.loadBytes ⟨b, o, none⟩ l.length acc).run P w = .ok ⟨acc.data ++ l.toArray⟩ w
 | [], b, o, acc, _ => by simp [Extern.Bytes.loadBytes]
 | x :: l, b, o, acc, h => by
  have h0 : w.cell? ⟨b, o, none⟩ = some (.int .u8 x.toNat) := h 0 x rfl
  have ih := run_loadB (P := P) l b (o + 1) (acc.push x) (fun j y hy => by
   have := h (j + 1) y (by simpa using hy)
   rw [show o + 1 + j = o + (j + 1) by omega]; exact this)
  have hx : ((x.toNat : Int).toNat).toUInt8 = x := by simp
  simp only [List.length_cons, Extern.Bytes.loadBytes, Sem.run_bind, run_load, h0, Result.andThen, hx, add_none]
  rw [ih]
  congr 1
  apply ByteArray.ext
  simp [ByteArray.push]
theorem run_bytesOf {P : Program} {h : Base} {v : Value} {l : List UInt8} {w : World} (hb : BV h v l) (hs : Sat h [] w) : (Extern.Bytes.bytesOf v).run P w = .ok ⟨l.toArray⟩ w := by
 rcases hb with ⟨ao, c, rfl, rfl⟩ | ⟨b, o, c, rfl, _, hcs⟩
 ·cases ao with
  | none => simp [Extern.Bytes.bytesOf]; rfl
  | some a => simp [Extern.Bytes.bytesOf, loadBytes]; rfl
 ·have := run_loadB (P := P) (w := w) l b o ByteArray.empty (fun j x hj => (hcs.get j (u8 x) (by rw [List.getElem?_map, hj]; rfl)).run w hs)
  simp only [Extern.Bytes.bytesOf, List.length_map] at this ⊢
  rw [this]
  simp
theorem p_extP {P : Program} {n : NN} {E : Env} {h : Base} {K : List Asrt} {ty : TypeId} {ps : String} {af : Array Edge} {dst : Option Nat} {g : Option (Nat × Bool)} {v : Value} {f : FuncId} {args : List Operand} {vals : List Value} {ats : Array TypeId} (hr : ∀ w, Sat h [] w → (callFunc f vals.toArray).run P w = .ok (.value v) w) (ha : evArgs E args = some vals) :
  Pu P n E h K ⟨dst, .call ⟨.value (.func f), args.toArray, ats⟩, ty, ps, af, g⟩ v :=
 ⟨fun a w fa hs => by
  have h1 := evArgs_eval fa args vals ha
  have h2 : args.toArray.map a.eval = vals.toArray := by rw [List.map_toArray, h1]
  simp only [execOp, resolve, Act.eval, Deferred.ofValue, h2, Sem.run_bind, Sem.run_pure, Result.andThen_ok, invoke]
  simp only [Array.empty_append, Array.append_empty]
  exact hr w (hs.sub fun _ hA => by cases hA)⟩
theorem ext_cmpB {P : Program} {h : Base} {f : FuncId} {fn : Func} (hf : P.funcs[f]? = some fn) (hname : (fn.name == "runtime.NumGoroutine") = false) (hb : fn.body.isNone = true) (hn : Extern.findNext fn = none) (he : Extern.find fn = some Extern.BytealgCompare.compare) {v u : Value} {a b : List UInt8} (hv : BV h v a) (hu : BV h u b) (w : World) (hs : Sat h [] w) :
  (callFunc f [v, u].toArray).run P w = .ok (.value (.int .i64 (Lib.compareBytes a b))) w := by
 rw [run_callFunc_extern hf hname hb hn he]
 show (Sem.run P (do pure (goInt (Extern.BytealgCompare.cmp (← Extern.Bytes.bytesOf v) (← Extern.Bytes.bytesOf u)))) w).andThen _ = _
 simp only [Sem.run_bind, run_bytesOf hv hs, run_bytesOf hu hs, Result.andThen_ok, Sem.run_pure, Lib.cmp_eq]
 rfl
end Go.K

/-! KG: what a slice that came in reads as, where its elements hold slices again. Generic over the program. Conditions: none. -/
namespace Go.K
open Go.ChangeShapes Go.WideShapes Go.ChangeAt Go.RowKit
section
variable {H : Type} {enc : TypeId × Value → H} {P : Program} {W : World} {base : Nat} {spare : Nat → Bool} {held : Bool}
end
end Go.K

/-! KH: capacities, cuts with three bounds, rows that do not overlap. Generic over the program. Conditions: none. -/
namespace Go.K
section
variable {P : Program} {n : NN} {Q : Exit → Act → World → Prop} {E : Env} {h h' h0 : Base} {H K R F : List Asrt} {ops : Array Oper} {rest : List Oper}
variable {op : Op} {t t' ty : TypeId} {ps : String} {af : Array Edge} {d i : Nat} {v : Value} {x y : Operand} {dst : Option Nat} {g : Option (Nat × Bool)}
end
end Go.K

/-! KI: rows of structs that are owned and open: their fields read and stored; several assertions as one, changed in part. Generic over the program. Conditions: none. -/
namespace Go.K

theorem flat_get {s i j : Nat} {es : List (List Value)} {sp e : List Value} {u : Value} (hz : ∀ e ∈ es, e.length = s) (hi : es[i]? = some e) (hj : e[j]? = some u) : (es.flatten ++ sp)[i * s + j]? = some u := by
 obtain ⟨hlt, he⟩ := List.getElem?_eq_some_iff.1 hi
 obtain ⟨p1, p2⟩ := flat_parts es i hlt hz
 have hjl := (List.getElem?_eq_some_iff.1 hj).1
 rw [p1, he, List.append_assoc, List.append_assoc, List.getElem?_append_right (by omega), p2, Nat.add_sub_cancel_left, List.getElem?_append_left hjl, hj]
theorem Ok.allPerm {h : Base} {A B F : List Asrt} {w : World} (hp : A.Perm B) (ok : Ok h (all A :: F) w) : Ok h (all B :: F) w :=
 Ok.all_iff.2 ((Ok.all_iff.1 ok).perm (hp.append_right F))
theorem Ok.allCons {h : Base} {A : Asrt} {Hs F : List Asrt} {w : World} (ok : Ok h (A :: all Hs :: F) w) : Ok h (all (A :: Hs) :: F) w := by
 have ok1 := Ok.all_iff.1 (ok.perm (List.Perm.swap _ _ _))
 refine Ok.all_iff.2 (ok1.perm ?_)
 exact List.perm_middle
section
variable {P : Program} {n : NN} {Q : Exit → Act → World → Prop} {E : Env} {h h' h0 : Base} {H K R F : List Asrt} {ops : Array Oper} {rest : List Oper}
variable {op : Op} {t t' ty : TypeId} {ps : String} {af : Array Edge} {d i : Nat} {v : Value} {x y : Operand} {dst : Option Nat} {g : Option (Nat × Bool)}
end
end Go.K

/-! KJ: bytes of a constant text, as a row of the call's own. Generic over the program. Conditions: none. -/
namespace Go.K

section
variable {P : Program} {n : NN} {Q : Exit → Act → World → Prop} {E : Env} {h h' h0 : Base} {H K R F : List Asrt} {ops : Array Oper} {rest : List Oper}
variable {op : Op} {t t' ty : TypeId} {ps : String} {af : Array Edge} {d i : Nat} {v : Value} {x y : Operand} {dst : Option Nat} {g : Option (Nat × Bool)}
theorem run_mark (w : World) (t e : TypeId) (b m c : Nat) (cs : List Value) (ht : P.underlying t = some (.slice e)) (he : P.underlying e = some (.int .u8)) (hb : w.heap[b]? = some (.cells cs.toArray e (0, 0))) :
  ∃ w', (convert t t (.slice (some ⟨b, 0, none⟩) m c)).run P w = .ok (.slice (some ⟨b, 0, none⟩) m c) w' ∧ w'.os = w.os ∧ w'.tape = w.tape ∧ w'.output = w.output ∧ w'.heap[b]? = some (.cells cs.toArray e (cs.length, cs.length + 1)) ∧ ∀ x, x ≠ b → x < w.heap.size → w'.heap[x]? = w.heap[x]? := by
 have hsh : w.shape? b = some (e, cs.length) := by unfold World.shape?; rw [hb]; simp
 refine ⟨w.freeze ⟨b, cs.length, none⟩ 1, by simp [convert, run_underlying ht, run_underlying he, markStringish, hsh], ?_⟩
 unfold World.freeze
 rw [if_neg (by decide)]
 have hlt := heap_lt hb
 refine ⟨rfl, rfl, rfl, ?_, fun x hx hxl => ?_⟩
 ·show (w.heap.modify b _)[b]? = _
  rw [Array.getElem?_eq_getElem (by simpa using hlt)]
  simp only [Array.getElem_modify, if_true]
  have : w.heap[b] = .cells cs.toArray e (0, 0) := by rw [Array.getElem?_eq_getElem hlt] at hb; exact Option.some.inj hb
  rw [this]; rfl
 ·show (w.heap.modify b _)[x]? = _
  rw [Array.getElem?_eq_getElem (by simpa using hxl), Array.getElem?_eq_getElem hxl]
  simp only [Array.getElem_modify]
  rw [if_neg (fun e => hx e.symm)]
theorem l_mark {e b m : Nat} {cs : List Value} (ht : P.underlying t = some (.slice e)) (he : P.underlying e = some (.int .u8)) (hx : lkO E x = some (.slice (some ⟨b, 0, none⟩) m m)) (hm : cs.length = m) (hmx : m ≤ maxLen) (hd : Nat.blt d n = true)
  (hk : WL P n ops Q rest ((d, bufV (some b) m m) :: E) h (bufA e 1 (some b) m m cs :: H)) : WL P n ops Q (⟨some d, .convert t t x, ty, ps, af, none⟩ :: rest) E h (blk b e cs :: H) :=
 ⟨fun a w fa ok => wpList_plain rfl fun KK hK => by
  subst hm
  obtain ⟨w', e1, q1, q2, q3, q4, q5⟩ := run_mark (P := P) w t e b cs.length cs.length cs ht he ok.own_head
  unfold Oper.wp
  have : (execOp a.eval ⟨some d, .convert t t x, ty, ps, af, none⟩).run P w = .ok (.value (.slice (some ⟨b, 0, none⟩) cs.length cs.length)) w' := by
   simp only [execOp, fa.eval hx, Sem.run_bind, e1, Result.andThen_ok, Sem.run_pure]
  rw [this, Oper.upon_value]
  have ok1 : Ok h (blkF b e cs (cs.length, cs.length + 1) :: H) w' := ok.write e cs (cs.length, cs.length + 1) q1 q2 q3 q4 q5
  have ok2 : Ok h (blkF b e (cs ++ []) (cs.length, cs.length + 1) :: H) w' := by rw [List.append_nil]; exact ok1
  refine hK _ _ (hk.run _ _ (fa.put _ hd) (ok2.shut (by simp) (by simp) (Nat.le_refl _) hmx (by rw [Nat.mul_one]; exact Free.past _ _)))⟩
/-! ### Ways that meet -/
theorem c_join {c : Code} {β : Type} (Ej : β → Env) (hj : β → Base) (Hj : β → List Asrt) (I : β → Prop)
  (h1 : ∀ K : Act → World → Prop, (∀ b a w, I b → Fr n (Ej b) a → Ok (hj b) (Hj b) w → K a w) → WC P n c (Exit.then K Q) E h H) (h2 : ∀ b, I b → AT P n Q .normal (Ej b) (hj b) (Hj b)) : WC P n c Q E h H :=
 ⟨fun a w fa ok => Code.wp_mono (fun e a' w' hq => by
  cases e with
  | normal =>
   obtain ⟨b, i, fb, ob⟩ := hq
   exact (h2 b i).run a' w' fb ob
  | _ => exact hq) ((h1 (fun a w => ∃ b, I b ∧ Fr n (Ej b) a ∧ Ok (hj b) (Hj b) w) (fun b a w i f o => ⟨b, i, f, o⟩)).run a w fa ok)⟩
theorem a_join {β : Type} {Ej : β → Env} {hj : β → Base} {Hj : β → List Asrt} {I : β → Prop} {K : Act → World → Prop} (hK : ∀ b a w, I b → Fr n (Ej b) a → Ok (hj b) (Hj b) w → K a w) (b : β) (hI : I b)
  (hE : Sub E (Ej b)) (hB : hj b = h) (hH : Hj b = H) : AT P n (Exit.then K Q) .normal E h H := ⟨fun a w fa ok => hK b a w hI (fa.sub hE) (by rw [hB, hH]; exact ok)⟩
end
end Go.K

/-! KL: what came in, with the reach of all its parts. Generic over the program. Conditions: none. -/
namespace Go.K
open Go.ChangeShapes Go.WideShapes Go.ChangeAt Go.RowKit
section
variable {H : Type} {enc : TypeId × Value → H} {P : Program} {W : World} {base : Nat} {spare : Nat → Bool} {held : Bool}
end
end Go.K
