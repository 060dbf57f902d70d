/-
  K3: the steps of the calculus that make or write memory, calls, slices, strings and bytes. Generic over the program. Conditions: none.
-/
import Derived.Test.YtjgfgpdkcojnmaaK2
namespace Go.K
set_option linter.unusedVariables false
set_option linter.unusedSimpArgs false

section
variable {P : Program} {n : Nat} {Q : Exit → Act → World → Prop} {E : Env} {h : Base} {H : List Asrt} {ops : Array Oper} {rest : List Oper}
variable {t t' ty : TypeId} {ps : String} {af : Array Edge} {d : Nat} {v : Value} {x y : Operand} {K : List Asrt} {dst : Option Nat} {g : Option (Nat × Bool)}

/-- What an operation that is carried out to its end leaves: one value and one world for each world. -/
theorem s_run {op : Op} {f : Act → World → Value × World} (hr : ∀ a w, Fr n E a → Ok h H w → (execOp a.eval ⟨dst, op, ty, ps, af, none⟩).run P w = .ok (.value (f a w).1) (f a w).2)
    (hk : ∀ a w, Fr n E a → Ok h H w → wpList P ops Q rest (a.put dst (f a w).1) (f a w).2) : WL P n ops Q (⟨dst, op, ty, ps, af, none⟩ :: rest) E h H :=
  ⟨fun a w fa ok => wpList_plain rfl fun K hK => by
    unfold Oper.wp
    rw [hr a w fa ok, Oper.upon_value]
    exact hK _ _ (hk a w fa ok)⟩

/-! ### New variables -/
theorem l_box {cs : List Value} (hx : lkO E x = some v) (hc : v.cells = cs.toArray) (hd : Nat.blt d n = true) (hk : ∀ B, WL P n ops Q rest ((d, .pointer (some ⟨B, 0, none⟩)) :: E) h (blk B t cs :: H)) :
    WL P n ops Q (⟨some d, .box t x, ty, ps, af, none⟩ :: rest) E h H :=
  s_run (f := fun a w => (.pointer (some ⟨w.heap.size, 0, none⟩), w.alloc (.cells cs.toArray t (0, 0))))
    (fun a w fa ok => by simp [execOp, fa.eval hx, Instr.box, newVar, newRow, hc])
    (fun a w fa ok => (hk w.heap.size).run _ _ (fa.put _ hd) (ok.alloc cs t (0, 0)))
theorem l_alloc {cs : List Value} (hz : zrOf P t = some v) (hc : v.cells = cs.toArray) (hd : Nat.blt d n = true) (hk : ∀ B, WL P n ops Q rest ((d, .pointer (some ⟨B, 0, none⟩)) :: E) h (blk B t cs :: H)) :
    WL P n ops Q (⟨some d, .alloc t, ty, ps, af, none⟩ :: rest) E h H :=
  s_run (f := fun a w => (.pointer (some ⟨w.heap.size, 0, none⟩), w.alloc (.cells cs.toArray t (0, 0))))
    (fun a w fa ok => by simp [execOp, Instr.alloc, run_zero hz, newVar, newRow, hc])
    (fun a w fa ok => (hk w.heap.size).run _ _ (fa.put _ hd) (ok.alloc cs t (0, 0)))

/-! ### Struct and slice literals -/
def partsOf (E : Env) : List (Nat × Operand) → Option (List (Nat × Value))
  | [] => some []
  | (i, x) :: r => match lkO E x, partsOf E r with
    | some v, some vs => some ((i, v) :: vs)
    | _, _ => none
theorem partsOf_eval {a : Act} (fa : Fr n E a) : ∀ (l : List (Nat × Operand)) (vs : List (Nat × Value)), partsOf E l = some vs → l.map (fun p => (p.1, a.eval p.2)) = vs
  | [], vs, e => by simp [partsOf] at e; simp [← e]
  | (i, x) :: r, vs, e => by
    simp only [partsOf] at e
    cases h1 : lkO E x with
    | none => simp [h1] at e
    | some v =>
      cases h2 : partsOf E r with
      | none => simp [h1, h2] at e
      | some us =>
        simp [h1, h2] at e
        subst e
        simp [fa.eval h1, partsOf_eval fa r us h2]
/-- The places of a struct's fields. -/
def placesOf (P : Program) (t : TypeId) : Option (List (Nat × Nat)) := match P.underlying t with
  | some (.struct fs) => fs.toList.mapM fun f => (P.info? f.type).map fun i => (f.offset, i.size)
  | _ => none
theorem run_places (w : World) : ∀ (fs : List Field) (pl : List (Nat × Nat)), fs.mapM (fun f => (P.info? f.type).map fun i => (f.offset, i.size)) = some pl →
    (fs.mapM (m := Sem) fun f => do pure (f.offset, ← sizeOf f.type)).run P w = .ok pl w
  | [], pl, e => by simp at e; subst e; simp
  | f :: r, pl, e => by
    cases hi : P.info? f.type with
    | none => simp [hi] at e
    | some i =>
      cases hr : r.mapM (fun f => (P.info? f.type).map fun i => (f.offset, i.size)) with
      | none => simp [List.mapM_cons, hi, hr] at e
      | some pr =>
        simp [List.mapM_cons, hi, hr] at e
        subst e
        have h1 := run_places w r pr hr
        have h2 : (sizeOf f.type).run P w = .ok i.size w := by simp [sizeOf, typeInfo, hi]
        simp only [List.mapM_cons, Sem.run_bind, h2, Result.andThen_ok, Sem.run_pure, h1]
/-- Cells written over others. -/
def overL (cs : List Value) (off : Nat) (l : List Value) : List Value := cs.take off ++ l ++ cs.drop (off + l.length)
theorem foldl_over : ∀ (l : List Value) (k off : Nat) (cs : Array Value), off + k + l.length ≤ cs.size →
    (l.zipIdx k).foldl (fun cs (x : Value × Nat) => cs.setIfInBounds (off + x.2) x.1) cs = (overL cs.toList (off + k) l).toArray
  | [], k, off, cs, _ => by simp [overL]
  | c :: r, k, off, cs, h => by
    simp only [List.length_cons] at h
    rw [List.zipIdx_cons, List.foldl_cons, foldl_over r (k + 1) off _ (by simp; omega)]
    congr 1
    simp only [overL, Array.toList_setIfInBounds, List.length_cons]
    rw [show off + (k + 1) = off + k + 1 from by omega, List.take_succ_eq_append_getElem (by simp; omega), List.take_set_of_le (Nat.le_refl _), List.drop_set_of_lt (by omega)]
    simp [show off + k + 1 + r.length = off + k + (r.length + 1) from by omega]
def fillL (pl : List (Nat × Nat)) : List Value → List (Nat × Value) → Option (List Value)
  | cs, [] => some cs
  | cs, (i, v) :: r => match pl[i]? with
    | none => none
    | some (off, size) => match Nat.beq v.cells.toList.length size && Nat.ble (off + v.cells.toList.length) cs.length with
      | true => fillL pl (overL cs off v.cells.toList) r
      | false => none
theorem fill_of_L (pl : List (Nat × Nat)) : ∀ (vs : List (Nat × Value)) (cs cs' : List Value), fillL pl cs vs = some cs' → Instr.fill (pl.toArray[·]?) cs.toArray vs = some cs'.toArray
  | [], cs, cs', e => by simp [fillL] at e; simp [Instr.fill, e]
  | (i, v) :: r, cs, cs', e => by
    simp only [fillL] at e
    cases h1 : pl[i]? with
    | none => simp [h1] at e
    | some os =>
      obtain ⟨off, size⟩ := os
      simp only [h1] at e
      cases h2 : (Nat.beq v.cells.toList.length size && Nat.ble (off + v.cells.toList.length) cs.length) with
      | false => rw [h2] at e; cases e
      | true =>
        rw [h2] at e
        simp only [Bool.and_eq_true] at h2
        have e1 : v.cells.toList.length = size := Nat.eq_of_beq_eq_true h2.1
        have e2 := Nat.le_of_ble_eq_true h2.2
        have e3 : (v.cells.zipIdx.foldl (fun cs (x : Value × Nat) => cs.setIfInBounds (off + x.2) x.1) cs.toArray) = (overL cs off v.cells.toList).toArray := by
          rw [← Array.foldl_toList, Array.toList_zipIdx, foldl_over _ 0 off _ (by simpa using e2)]
          simp
        simp only [Instr.fill, List.getElem?_toArray, h1]
        rw [if_neg (by simp at e1 e2 ⊢; omega)]
        rw [e3]
        have := fill_of_L pl r _ _ e
        simpa using this
def seqOk (s : Nat) : List (Nat × Value) → Nat → Bool
  | [], _ => true
  | (i, v) :: r, k => Nat.beq i k && Nat.beq v.cells.toList.length s && seqOk s r (k + 1)
def cellsL : List (Nat × Value) → List Value
  | [] => []
  | (_, v) :: r => v.cells.toList ++ cellsL r
theorem cellsL_length (s : Nat) : ∀ (vs : List (Nat × Value)) (k : Nat), seqOk s vs k = true → (cellsL vs).length = vs.length * s
  | [], _, _ => by simp [cellsL]
  | (i, v) :: r, k, h => by
    simp only [seqOk, Bool.and_eq_true] at h
    have := cellsL_length s r (k + 1) h.2
    have e := Nat.eq_of_beq_eq_true h.1.2
    rw [cellsL, List.length_append, this, e, List.length_cons, Nat.add_mul]; omega
theorem fill_seq (s : Nat) : ∀ (vs : List (Nat × Value)) (k : Nat) (pre arr : List Value), seqOk s vs k = true → pre.length = k * s → arr.length = vs.length * s →
    Instr.fill (fun i => some (i * s, s)) (pre ++ arr).toArray vs = some (pre ++ cellsL vs).toArray
  | [], k, pre, arr, _, _, h2 => by
    have : arr = [] := List.eq_nil_of_length_eq_zero (by simpa using h2)
    subst this
    simp [Instr.fill, cellsL]
  | (i, v) :: r, k, pre, arr, h, h1, h2 => by
    simp only [seqOk, Bool.and_eq_true] at h
    have ei := Nat.eq_of_beq_eq_true h.1.1
    have e := Nat.eq_of_beq_eq_true h.1.2
    subst ei
    rw [List.length_cons, Nat.add_mul, Nat.one_mul] at h2
    have e3 : (v.cells.zipIdx.foldl (fun cs (x : Value × Nat) => cs.setIfInBounds (i * s + x.2) x.1) (pre ++ arr).toArray) = (overL (pre ++ arr) (i * s) v.cells.toList).toArray := by
      rw [← Array.foldl_toList, Array.toList_zipIdx, foldl_over _ 0 (i * s) _ (by simp at e ⊢; omega)]
      simp
    simp only [Instr.fill]
    rw [if_neg (by simp at e ⊢; omega), e3]
    have e4 : overL (pre ++ arr) (i * s) v.cells.toList = (pre ++ v.cells.toList) ++ arr.drop s := by
      unfold overL
      rw [← h1, List.take_left, List.drop_append, List.drop_of_length_le (by omega), e]
      simp
    rw [e4, fill_seq s r (i + 1) (pre ++ v.cells.toList) (arr.drop s) h.2 (by rw [List.length_append, e, h1, Nat.add_mul]; omega) (by rw [List.length_drop]; omega)]
    simp [cellsL]
theorem p_build {pl : List (Nat × Nat)} {parts : List (Nat × Operand)} {vs : List (Nat × Value)} {z cs : List Value} (hp : placesOf P t = some pl) (hz : zrOf P t = some (.agg z.toArray)) (hv : partsOf E parts = some vs)
    (hf : fillL pl z vs = some cs) : Pu P n E h K ⟨dst, .build t parts.toArray, ty, ps, af, g⟩ (.agg cs.toArray) :=
  ⟨fun a w fa _ => by
    unfold placesOf at hp
    cases hu : P.underlying t with
    | none => simp [hu] at hp
    | some dd =>
      cases dd <;> simp [hu] at hp
      rename_i fs
      have h1 := run_places (P := P) w fs.toList pl hp
      have h2 := partsOf_eval fa parts vs hv
      have h3 : (fs.mapM (m := Sem) fun f => do pure (f.offset, ← sizeOf f.type)).run P w = .ok pl.toArray w := by
        rw [Array.mapM_eq_mapM_toList]
        simp only [Sem.run_map, h1, Result.andThen_ok]
      simp only [execOp, Instr.build, Sem.run_bind, run_zero hz, Result.andThen_ok, run_underlying hu, h3, Value.cells]
      have h4 : (parts.toArray.map fun x => (x.1, a.eval x.2)).toList = vs := by simpa using h2
      rw [h4, fill_of_L pl vs z cs hf]
      simp⟩

theorem cells_oneL {u : Value} (hu : (match u with | .agg _ => false | .tuple _ => false | _ => true) = true) : u.cells.toList = [u] := by cases u <;> simp at hu <;> rfl
def one1 (v : Value) : Bool := match v with | .agg _ => false | .tuple _ => false | _ => true
theorem cellsL_cons {i : Nat} {u : Value} {r : List (Nat × Value)} {l : List Value} (hu : one1 u = true) (h : cellsL r = l) : cellsL ((i, u) :: r) = u :: l := by
  rw [cellsL, h, cells_oneL hu]; rfl
theorem cellsL_1 {i0 : Nat} {u0 : Value} (h0 : one1 u0 = true) : cellsL [(i0, u0)] = [u0] := cellsL_cons h0 (rfl)
theorem cellsL_2 {i0 i1 : Nat} {u0 u1 : Value} (h0 : one1 u0 = true) (h1 : one1 u1 = true) : cellsL [(i0, u0), (i1, u1)] = [u0, u1] := cellsL_cons h0 (cellsL_cons h1 (rfl))
theorem cellsL_3 {i0 i1 i2 : Nat} {u0 u1 u2 : Value} (h0 : one1 u0 = true) (h1 : one1 u1 = true) (h2 : one1 u2 = true) : cellsL [(i0, u0), (i1, u1), (i2, u2)] = [u0, u1, u2] := cellsL_cons h0 (cellsL_cons h1 (cellsL_cons h2 (rfl)))
theorem cellsL_4 {i0 i1 i2 i3 : Nat} {u0 u1 u2 u3 : Value} (h0 : one1 u0 = true) (h1 : one1 u1 = true) (h2 : one1 u2 = true) (h3 : one1 u3 = true) : cellsL [(i0, u0), (i1, u1), (i2, u2), (i3, u3)] = [u0, u1, u2, u3] := cellsL_cons h0 (cellsL_cons h1 (cellsL_cons h2 (cellsL_cons h3 (rfl))))
theorem cellsL_5 {i0 i1 i2 i3 i4 : Nat} {u0 u1 u2 u3 u4 : Value} (h0 : one1 u0 = true) (h1 : one1 u1 = true) (h2 : one1 u2 = true) (h3 : one1 u3 = true) (h4 : one1 u4 = true) : cellsL [(i0, u0), (i1, u1), (i2, u2), (i3, u3), (i4, u4)] = [u0, u1, u2, u3, u4] := cellsL_cons h0 (cellsL_cons h1 (cellsL_cons h2 (cellsL_cons h3 (cellsL_cons h4 (rfl)))))
theorem cellsL_6 {i0 i1 i2 i3 i4 i5 : Nat} {u0 u1 u2 u3 u4 u5 : Value} (h0 : one1 u0 = true) (h1 : one1 u1 = true) (h2 : one1 u2 = true) (h3 : one1 u3 = true) (h4 : one1 u4 = true) (h5 : one1 u5 = true) : cellsL [(i0, u0), (i1, u1), (i2, u2), (i3, u3), (i4, u4), (i5, u5)] = [u0, u1, u2, u3, u4, u5] := cellsL_cons h0 (cellsL_cons h1 (cellsL_cons h2 (cellsL_cons h3 (cellsL_cons h4 (cellsL_cons h5 (rfl))))))
theorem cellsL_7 {i0 i1 i2 i3 i4 i5 i6 : Nat} {u0 u1 u2 u3 u4 u5 u6 : Value} (h0 : one1 u0 = true) (h1 : one1 u1 = true) (h2 : one1 u2 = true) (h3 : one1 u3 = true) (h4 : one1 u4 = true) (h5 : one1 u5 = true) (h6 : one1 u6 = true) : cellsL [(i0, u0), (i1, u1), (i2, u2), (i3, u3), (i4, u4), (i5, u5), (i6, u6)] = [u0, u1, u2, u3, u4, u5, u6] := cellsL_cons h0 (cellsL_cons h1 (cellsL_cons h2 (cellsL_cons h3 (cellsL_cons h4 (cellsL_cons h5 (cellsL_cons h6 (rfl)))))))
theorem cellsL_8 {i0 i1 i2 i3 i4 i5 i6 i7 : Nat} {u0 u1 u2 u3 u4 u5 u6 u7 : Value} (h0 : one1 u0 = true) (h1 : one1 u1 = true) (h2 : one1 u2 = true) (h3 : one1 u3 = true) (h4 : one1 u4 = true) (h5 : one1 u5 = true) (h6 : one1 u6 = true) (h7 : one1 u7 = true) : cellsL [(i0, u0), (i1, u1), (i2, u2), (i3, u3), (i4, u4), (i5, u5), (i6, u6), (i7, u7)] = [u0, u1, u2, u3, u4, u5, u6, u7] := cellsL_cons h0 (cellsL_cons h1 (cellsL_cons h2 (cellsL_cons h3 (cellsL_cons h4 (cellsL_cons h5 (cellsL_cons h6 (cellsL_cons h7 (rfl))))))))
/-- The row that a slice literal makes. -/
theorem l_buildSlice {e : TypeId} {m s : Nat} {parts : List (Nat × Operand)} {vs : List (Nat × Value)} {cs : List Value} (hu : P.underlying t = some (.slice e)) (hs : szOf P e = some s) (hb : Nat.ble (m * s) 16777216 = true)
    (hz : zrOf P e = some v) (hv : partsOf E parts = some vs) (hm : Nat.beq vs.length m = true) (hf0 : seqOk s vs 0 = true) (hcs : cellsL vs = cs) (hd : Nat.blt d n = true)
    (hk : ∀ B, WL P n ops Q rest ((d, .slice (some ⟨B, 0, none⟩) m m) :: E) h (blk B e cs :: H)) :
    WL P n ops Q (⟨some d, .buildSlice t m parts.toArray, ty, ps, af, none⟩ :: rest) E h H :=
  have hf : Instr.fill (fun i => some (i * s, s)) ((Array.range (m * s)).map (v.cells[· % v.cells.size]!)) vs = some cs.toArray := by
    have := fill_seq s vs 0 [] ((Array.range (m * s)).map (v.cells[· % v.cells.size]!)).toList hf0 (by simp) (by simp [Nat.eq_of_beq_eq_true hm])
    rw [List.nil_append, List.nil_append, Array.toArray_toList] at this
    rw [this, hcs]
  s_run (f := fun a w => (.slice (some ⟨w.heap.size, 0, none⟩) m m, w.alloc (.cells cs.toArray e (0, 0))))
    (fun a w fa ok => by
      have h2 := partsOf_eval fa parts vs hv
      have h4 : (parts.toArray.map fun x => (x.1, a.eval x.2)).toList = vs := by simpa using h2
      have hb' : ¬ m * s > 16777216 := by have := Nat.le_of_ble_eq_true hb; omega
      by_cases h0 : m * s = 0
      · simp only [execOp, Instr.buildSlice, Sem.run_bind, run_underlying hu, Result.andThen_ok, run_sizeOf hs, Nat.reducePow, if_neg hb', if_pos h0, Sem.run_pure, h4]
        have : (Array.range (m * s)).map (v.cells[· % v.cells.size]!) = (Array.range (m * s)).map ((#[] : Array Value)[· % (#[] : Array Value).size]!) := by rw [h0]; simp
        rw [← this, hf]
        simp [newRow]
      · simp only [execOp, Instr.buildSlice, Sem.run_bind, run_underlying hu, Result.andThen_ok, run_sizeOf hs, Nat.reducePow, if_neg hb', if_neg h0, Sem.run_pure, h4, run_zero hz]
        rw [hf]
        simp [newRow])
    (fun a w fa ok => (hk w.heap.size).run _ _ (fa.put _ hd) (ok.alloc cs e (0, 0)))

/-! ### Stores -/
theorem Ok.own_head {A : Asrt} {w : World} (ok : Ok h (A :: H) w) : A.holds w := ok.sat.own _ (List.mem_cons_self ..)

theorem Ok.store {b o : Nat} {T : TypeId} {cs : List Value} {fz : Nat × Nat} {w : World} (ok : Ok h (blkF b T cs fz :: H) w) (u : Value) : Ok h (blkF b T (cs.set o u) fz :: H) (w.setCell ⟨b, o, none⟩ u) := by
  have hw : w.heap[b]? = some (.cells cs.toArray T fz) := ok.own_head
  refine ok.write T (cs.set o u) fz rfl rfl rfl ?_ (fun x hx _ => RowKit.Below.heap_setCell _ _ _ _ hx)
  simp [World.setCell, Array.getElem?_modify, hw]

def oneCell (v : Value) : Bool := match v with | .agg _ => false | .tuple _ => false | _ => true
theorem run_store1 {b o : Nat} {T : TypeId} {cs : List Value} {fz : Nat × Nat} {w : World} (hw : w.heap[b]? = some (.cells cs.toArray T fz)) (ho : o < cs.length) (hz : (decide (fz.1 ≤ o) && decide (o < fz.2)) = false) (u : Value) (hu : oneCell u = true) :
    (store ⟨b, o, none⟩ u).run P w = .ok () (w.setCell ⟨b, o, none⟩ u) := by
  have hc : w.cell? ⟨b, o, none⟩ = some cs[o] := by simp [World.cell?, hw, ho]
  have hf : w.frozen? ⟨b, o, none⟩ = false := by
    obtain ⟨lo, hi⟩ := fz
    simpa [World.frozen?, hw] using hz
  unfold Go.store
  cases u <;> simp [oneCell] at hu <;> simp [Sem.run, hc, hf]

theorem cells_one {u : Value} (hu : oneCell u = true) : u.cells = #[u] := by cases u <;> simp [oneCell] at hu <;> rfl

/-- A store of one cell into the block that stands first. -/
theorem l_store1 {b o : Nat} {T : TypeId} {cs cs' : List Value} {fz : Nat × Nat} (hs : szOf P t = some 1) (hx : lkO E x = some (.pointer (some ⟨b, o, none⟩))) (hy : lkO E y = some v) (hv : oneCell v = true)
    (ho : Nat.blt o cs.length = true) (hz : (decide (fz.1 ≤ o) && decide (o < fz.2)) = false) (hcs : cs.set o v = cs') (hk : WL P n ops Q rest E h (blkF b T cs' fz :: H)) :
    WL P n ops Q (⟨none, .store t x y, ty, ps, af, none⟩ :: rest) E h (blkF b T cs fz :: H) :=
  ⟨fun a w fa ok => wpList_plain rfl fun K hK => by
    have ho' : o < cs.length := by simpa [Nat.blt_eq] using ho
    have hw : w.heap[b]? = some (.cells cs.toArray T fz) := ok.own_head
    unfold Oper.wp
    have : (execOp a.eval ⟨none, .store t x y, ty, ps, af, none⟩).run P w = .ok .skip (w.setCell ⟨b, o, none⟩ v) := by
      simp only [execOp, fa.eval hx, fa.eval hy, Instr.storeAt, Instr.sureAddr, storeVar, Sem.run_bind, Sem.run_pure, Result.andThen_ok, run_sizeOf hs, cells_one hv]
      simp only [storeCells, List.size_toArray, List.length_cons, List.length_nil, ne_eq, not_true_eq_false, ↓reduceIte, Sem.run_bind, add_none, Nat.add_zero]
      simp [run_store1 hw ho' hz v hv]
    rw [this, Oper.upon_skip]
    exact hK _ _ (hk.run _ _ fa (hcs ▸ ok.store v))⟩
theorem at_perm {α : Type} : ∀ {l : List α} {i : Nat} {A : α}, l[i]? = some A → l.Perm (A :: l.eraseIdx i)
  | [], i, A, e => by simp at e
  | x :: r, 0, A, e => by simp at e; subst e; simp
  | x :: r, i + 1, A, e => by
    have := at_perm (l := r) (i := i) (A := A) (by simpa using e)
    rw [List.eraseIdx_cons_succ]
    exact (this.cons x).trans (List.Perm.swap A x _)
/-- The same where the block stands behind others. -/
theorem l_store1_at {b o : Nat} {T : TypeId} {cs cs' : List Value} {fz : Nat × Nat} (i : Nat) {H' : List Asrt} (hi : H[i]? = some (blkF b T cs fz)) (hs : szOf P t = some 1) (hx : lkO E x = some (.pointer (some ⟨b, o, none⟩))) (hy : lkO E y = some v) (hv : oneCell v = true)
    (ho : Nat.blt o cs.length = true) (hz : (decide (fz.1 ≤ o) && decide (o < fz.2)) = false) (hcs : cs.set o v = cs') (hH : H.set i (blkF b T cs' fz) = H') (hk : WL P n ops Q rest E h H') :
    WL P n ops Q (⟨none, .store t x y, ty, ps, af, none⟩ :: rest) E h H := by
  have e1 := at_perm hi
  have e2 : (blkF b T cs' fz :: H.eraseIdx i).Perm H' := by
    have hlt : i < H.length := by
      rcases Nat.lt_or_ge i H.length with h' | h'
      · exact h'
      · rw [List.getElem?_eq_none h'] at hi; cases hi
    have := at_perm (l := H.set i (blkF b T cs' fz)) (i := i) (A := blkF b T cs' fz) (by rw [List.getElem?_set_self hlt])
    rw [List.eraseIdx_set_eq] at this
    rw [← hH]; exact this.symm
  exact WL.perm e1 (l_store1 hs hx hy hv ho hz hcs (WL.perm e2 hk))

/-! ### Calls -/
def Callable (P : Program) (f : FuncId) : Prop := ∀ (args : Array Value) (w : World), (callFunc f args).run P w = .ok (.enter f args) w
theorem callable_of {f : FuncId} {fn : Func} (hf : P.funcs[f]? = some fn) (hb : fn.body.isNone = false) (hn : (fn.name == "runtime.NumGoroutine") = false) : Callable P f := fun args w => by
  simp only [callFunc, Sem.run_bind, run_program, Result.andThen_ok, hf, hn, hb, Bool.false_eq_true, ↓reduceIte, Sem.run_pure]
def evArgs (E : Env) : List Operand → Option (List Value)
  | [] => some []
  | x :: r => match lkO E x, evArgs E r with
    | some v, some vs => some (v :: vs)
    | _, _ => none
theorem evArgs_eval {a : Act} (fa : Fr n E a) : ∀ (l : List Operand) (vs : List Value), evArgs E l = some vs → l.map a.eval = vs
  | [], vs, e => by simp [evArgs] at e; simp [← e]
  | x :: r, vs, e => by
    simp only [evArgs] at e
    cases h1 : lkO E x with
    | none => simp [h1] at e
    | some v =>
      cases h2 : evArgs E r with
      | none => simp [h1, h2] at e
      | some us =>
        simp [h1, h2] at e
        subst e
        simp [fa.eval h1, evArgs_eval fa r us h2]
theorem run_call {f : FuncId} {args : List Operand} {vals : List Value} {ats : Array TypeId} {a : Act} {w : World} (hc : Callable P f) (fa : Fr n E a) (ha : evArgs E args = some vals) :
    (execOp a.eval ⟨dst, .call ⟨.value (.func f), args.toArray, ats⟩, ty, ps, af, g⟩).run P w = .ok (.enter f vals.toArray) w := by
  have h1 := evArgs_eval fa args vals ha
  have h2 : args.toArray.map a.eval = vals.toArray := by rw [List.map_toArray, h1]
  simp only [execOp, resolve, Act.eval, Deferred.ofValue, h2, Sem.run_bind, Sem.run_pure, Result.andThen_ok, invoke]
  simp only [Array.empty_append, Array.append_empty]
  exact hc _ _

def pick : List Nat → List Asrt → Option (List Asrt × List Asrt)
  | [], H => some ([], H)
  | i :: is, H => match H[i]? with
    | some A => match pick is (H.eraseIdx i) with
      | some (p, r) => some (A :: p, r)
      | none => none
    | none => none
theorem pick_perm : ∀ {is : List Nat} {H p r : List Asrt}, pick is H = some (p, r) → H.Perm (p ++ r)
  | [], H, p, r, e => by simp [pick] at e; obtain ⟨rfl, rfl⟩ := e; exact List.Perm.refl _
  | i :: is, H, p, r, e => by
    simp only [pick] at e
    cases h1 : H[i]? with
    | none => simp [h1] at e
    | some A =>
      cases h2 : pick is (H.eraseIdx i) with
      | none => simp [h1, h2] at e
      | some q =>
        simp [h1, h2] at e
        obtain ⟨rfl, rfl⟩ := e
        exact (at_perm h1).trans ((pick_perm h2).cons A)

theorem pp (is : List Nat) {H p r : List Asrt} (e : pick is H = some (p, r)) : H.Perm (p ++ r) := pick_perm e
theorem l_call {f : FuncId} {args : List Operand} {vals : List Value} {ats : Array TypeId} {Pre F : List Asrt} {Post : Value → Base → List Asrt → Prop} (hc : Callable P f) (ha : evArgs E args = some vals) (ht : Tr P f vals h Pre Post)
    (hp : H.Perm (Pre ++ F)) (hd : Nat.blt d n = true) (hk : ∀ v h' H', h.le h' → Post v h' H' → WL P n ops Q rest ((d, v) :: E) h' (H' ++ F)) :
    WL P n ops Q (⟨some d, .call ⟨.value (.func f), args.toArray, ats⟩, ty, ps, af, none⟩ :: rest) E h H :=
  ⟨fun a w fa ok => wpList_plain rfl fun K hK => by
    unfold Oper.wp
    rw [run_call hc fa ha, Oper.upon_enter]
    refine Calls.mono (ht F w (ok.perm hp)) ?_
    rintro e w' ⟨v, rfl, h', H', hle, hP, ok'⟩
    exact hK _ _ ((hk v h' H' hle hP).run _ _ (fa.put v hd) ok')⟩
theorem l_call0 {f : FuncId} {args : List Operand} {vals : List Value} {ats : Array TypeId} {Pre F : List Asrt} {Post : Value → Base → List Asrt → Prop} (hc : Callable P f) (ha : evArgs E args = some vals) (ht : Tr P f vals h Pre Post)
    (hp : H.Perm (Pre ++ F)) (hk : ∀ v h' H', h.le h' → Post v h' H' → WL P n ops Q rest E h' (H' ++ F)) :
    WL P n ops Q (⟨none, .call ⟨.value (.func f), args.toArray, ats⟩, ty, ps, af, none⟩ :: rest) E h H :=
  ⟨fun a w fa ok => wpList_plain rfl fun K hK => by
    unfold Oper.wp
    rw [run_call hc fa ha, Oper.upon_enter]
    refine Calls.mono (ht F w (ok.perm hp)) ?_
    rintro e w' ⟨v, rfl, h', H', hle, hP, ok'⟩
    exact hK _ _ ((hk v h' H' hle hP).run _ _ fa ok')⟩
/-- A function that only computes. -/
def TrV (P : Program) (f : FuncId) (args : List Value) (h : Base) (Pre : List Asrt) (v : Value) (Post : List Asrt) : Prop := Tr P f args h Pre fun u h' H' => u = v ∧ h' = h ∧ H' = Post
theorem l_callV {f : FuncId} {args : List Operand} {vals : List Value} {ats : Array TypeId} {Pre F Po H' : List Asrt} {v : Value} (hc : Callable P f) (ha : evArgs E args = some vals) (ht : TrV P f vals h Pre v Po)
    (hp : H.Perm (Pre ++ F)) (hd : Nat.blt d n = true) (hH : Po ++ F = H') (hk : WL P n ops Q rest ((d, v) :: E) h H') :
    WL P n ops Q (⟨some d, .call ⟨.value (.func f), args.toArray, ats⟩, ty, ps, af, none⟩ :: rest) E h H :=
  l_call hc ha ht hp hd fun u h' H'' _ ⟨e1, e2, e3⟩ => by subst e1 e2 e3; rw [hH]; exact hk
theorem l_callV0 {f : FuncId} {args : List Operand} {vals : List Value} {ats : Array TypeId} {Pre F Po H' : List Asrt} {v : Value} (hc : Callable P f) (ha : evArgs E args = some vals) (ht : TrV P f vals h Pre v Po)
    (hp : H.Perm (Pre ++ F)) (hH : Po ++ F = H') (hk : WL P n ops Q rest E h H') :
    WL P n ops Q (⟨none, .call ⟨.value (.func f), args.toArray, ats⟩, ty, ps, af, none⟩ :: rest) E h H :=
  l_call0 hc ha ht hp fun u h' H'' _ ⟨e1, e2, e3⟩ => by subst e1 e2 e3; rw [hH]; exact hk

/-! ### Lengths, places, cuts -/
theorem run_builtin {b : Builtin} {args : List Operand} {vals : List Value} {ats : Array TypeId} {a : Act} {w : World} (fa : Fr n E a) (ha : evArgs E args = some vals) :
    (execOp a.eval ⟨dst, .call ⟨.builtin b, args.toArray, ats⟩, ty, ps, af, g⟩).run P w = (builtin b ats ty (args.toArray.map fun | .const _ => true | _ => false) vals.toArray).run P w := by
  have h1 := evArgs_eval fa args vals ha
  have h2 : args.toArray.map a.eval = vals.toArray := by rw [List.map_toArray, h1]
  simp only [execOp, resolve, h2, Sem.run_bind, Sem.run_pure, Result.andThen_ok, invoke]
  rfl
theorem p_lenS {e : TypeId} {ao : Option Addr} {la ca : Nat} (hu : P.underlying t = some (.slice e)) (hx : lkO E x = some (.slice ao la ca)) : Pu P n E h K ⟨dst, .call ⟨.builtin .len, #[x], #[t]⟩, ty, ps, af, g⟩ (.int .i64 la) :=
  ⟨fun a w fa _ => by
    rw [show (#[x] : Array Operand) = [x].toArray from rfl, run_builtin (vals := [.slice ao la ca]) fa (by simp [evArgs, hx])]
    simp [builtin, Builtin.len_, run_underlying hu, goInt]⟩
theorem p_lenT {s : ByteArray} (hu : P.underlying t = some .string) (hx : lkO E x = some (.string s)) : Pu P n E h K ⟨dst, .call ⟨.builtin .len, #[x], #[t]⟩, ty, ps, af, g⟩ (.int .i64 s.size) :=
  ⟨fun a w fa _ => by
    rw [show (#[x] : Array Operand) = [x].toArray from rfl, run_builtin (vals := [.string s]) fa (by simp [evArgs, hx])]
    simp [builtin, Builtin.len_, run_underlying hu, goInt]⟩
theorem p_min {k k' : IntKind} {a b c : Int} {ats : Array TypeId} (hx : lkO E x = some (.int k a)) (hy : lkO E y = some (.int k' b)) (hc : min a b = c) : Pu P n E h K ⟨dst, .call ⟨.builtin .min, #[x, y], ats⟩, ty, ps, af, g⟩ (.int k c) :=
  ⟨fun s w fa _ => by
    rw [show (#[x, y] : Array Operand) = [x, y].toArray from rfl, run_builtin (vals := [.int k a, .int k' b]) fa (by simp [evArgs, hx, hy])]
    have := run_min_int2 (P := P) w ats ty k k' a b
    have e : (if b < a then b else a) = c := by rw [← hc]; omega
    rw [e] at this
    simp [builtin, this]⟩
theorem p_max {k k' : IntKind} {a b c : Int} {ats : Array TypeId} (hx : lkO E x = some (.int k a)) (hy : lkO E y = some (.int k' b)) (hc : max a b = c) : Pu P n E h K ⟨dst, .call ⟨.builtin .max, #[x, y], ats⟩, ty, ps, af, g⟩ (.int k c) :=
  ⟨fun s w fa _ => by
    rw [show (#[x, y] : Array Operand) = [x, y].toArray from rfl, run_builtin (vals := [.int k a, .int k' b]) fa (by simp [evArgs, hx, hy])]
    have := run_max_int2 (P := P) w ats ty k k' a b
    have e : (if b > a then b else a) = c := by rw [← hc]; omega
    rw [e] at this
    simp [builtin, this]⟩
theorem p_indexAddr {e : TypeId} {s b o la ca o' : Nat} {k : IntKind} {m : Int} (hu : P.underlying t = some (.slice e)) (hs : szOf P e = some s) (hx : lkO E x = some (.slice (some ⟨b, o, none⟩) la ca)) (hy : lkO E y = some (.int k m))
    (h0 : 0 ≤ m) (h1 : m < la) (ho : o + m.toNat * s = o') : Pu P n E h K ⟨dst, .indexAddr t x y, ty, ps, af, g⟩ (.pointer (some ⟨b, o', none⟩)) :=
  ⟨fun a w fa _ => by simp [execOp, fa.eval hx, fa.eval hy, Instr.indexAt, asIntOf, run_underlying hu, h0, h1, run_sizeOf hs, add_none, ho]⟩
theorem p_indexT {s : ByteArray} {k : IntKind} {m : Int} {c : UInt8} (hu : P.underlying t = some .string) (hx : lkO E x = some (.string s)) (hy : lkO E y = some (.int k m)) (h0 : 0 ≤ m) (hc : s.data.toList[m.toNat]? = some c) :
    Pu P n E h K ⟨dst, .index t x y, ty, ps, af, g⟩ (.int .u8 c.toNat) :=
  ⟨fun a w fa _ => by
    have : s[m.toNat]? = some c := by
      have hlt : m.toNat < s.size := by
        rcases Nat.lt_or_ge m.toNat s.data.toList.length with h' | h'
        · simpa using h'
        · rw [List.getElem?_eq_none h'] at hc; cases hc
      have h2 : s.data.toList[m.toNat]? = some (s[m.toNat]) := by
        rw [List.getElem?_eq_getElem (by simpa using hlt)]
        rfl
      rw [h2] at hc
      rw [getElem?_pos s m.toNat hlt]; exact hc
    simp [execOp, fa.eval hx, fa.eval hy, Instr.index, asIntOf, run_underlying hu, h0, this]⟩
theorem p_slice {e : TypeId} {s b o la ca : Nat} {lo hi : Option Operand} {k1 k2 : IntKind} {l u : Nat} {ao : Option Addr} (hu : P.underlying t = some (.slice e)) (hs : szOf P e = some s) (hx : lkO E x = some (.slice (some ⟨b, o, none⟩) la ca))
    (hlo : match lo with | none => l = 0 | some z => ∃ i : Int, lkO E z = some (.int k1 i) ∧ i = l) (hhi : match hi with | none => u = la | some z => ∃ i : Int, lkO E z = some (.int k2 i) ∧ i = u)
    (h1 : l ≤ u) (h2 : u ≤ ca) (ha : (if ca = l then some (⟨b, o, none⟩ : Addr) else some ⟨b, o + l * s, none⟩) = ao) : Pu P n E h K ⟨dst, .slice t x lo hi none, ty, ps, af, g⟩ (.slice ao (u - l) (ca - l)) :=
  ⟨fun a w fa _ => by
    have hb : ∀ (y : Nat) (z : Nat) (k : IntKind) (c : BoundsCode), z ≤ y → (Instr.sliceBound (.int k z) y c).run P w = .ok z w := fun y z k c hz => by
      simp [Instr.sliceBound, asIntOf, hz]
    subst ha
    have key : (Instr.sliceBounds true la ca (lo.map a.eval) (hi.map a.eval) none).run P w = .ok (l, u, ca) w := by
      cases lo with
      | none =>
        dsimp only at hlo; subst hlo
        cases hi with
        | none => dsimp only at hhi; subst hhi; simp [Instr.sliceBounds]
        | some zh =>
          obtain ⟨i, hi1, hi2⟩ := hhi
          subst hi2
          simp [Instr.sliceBounds, fa.eval hi1, hb _ _ _ _ h2]
      | some zl =>
        obtain ⟨j, hj1, hj2⟩ := hlo
        subst hj2
        cases hi with
        | none => dsimp only at hhi; subst hhi; simp [Instr.sliceBounds, fa.eval hj1, hb _ _ _ _ h1]
        | some zh =>
          obtain ⟨i, hi1, hi2⟩ := hhi
          subst hi2
          simp [Instr.sliceBounds, fa.eval hi1, fa.eval hj1, hb _ _ _ _ h2, hb _ _ _ _ h1]
    simp only [execOp, fa.eval hx, Instr.sliceAt, Option.map_none, Sem.run_bind, run_underlying hu, Result.andThen_ok, Instr.slice, key, run_sizeOf hs, Sem.run_pure, Option.map_some, add_none]⟩
/-- A cut of whatever slice to nothing, or of the nil slice. -/
theorem p_slice0 {e : TypeId} {s : Nat} {lo hi : Option Operand} {k1 k2 : IntKind} (hu : P.underlying t = some (.slice e)) (hs : szOf P e = some s) (hx : lkO E x = some (.slice none 0 0))
    (hlo : match lo with | none => True | some z => lkO E z = some (.int k1 0)) (hhi : match hi with | none => True | some z => lkO E z = some (.int k2 0)) :
    Pu P n E h K ⟨dst, .slice t x lo hi none, ty, ps, af, g⟩ (.slice none 0 0) :=
  ⟨fun a w fa _ => by
    have hb : ∀ (k : IntKind) (c : BoundsCode), (Instr.sliceBound (.int k 0) 0 c).run P w = .ok 0 w := fun k c => by simp [Instr.sliceBound, asIntOf]
    have key : (Instr.sliceBounds true 0 0 (lo.map a.eval) (hi.map a.eval) none).run P w = .ok (0, 0, 0) w := by
      cases lo with
      | none => cases hi with
        | none => simp [Instr.sliceBounds]
        | some zh => simp [Instr.sliceBounds, fa.eval hhi, hb]
      | some zl => cases hi with
        | none => simp [Instr.sliceBounds, fa.eval hlo, hb]
        | some zh => simp [Instr.sliceBounds, fa.eval hhi, fa.eval hlo, hb]
    simp only [execOp, fa.eval hx, Instr.sliceAt, Option.map_none, Sem.run_bind, run_underlying hu, Result.andThen_ok, Instr.slice, key, run_sizeOf hs, Sem.run_pure, ↓reduceIte, Nat.sub_self]⟩
end
end Go.K
