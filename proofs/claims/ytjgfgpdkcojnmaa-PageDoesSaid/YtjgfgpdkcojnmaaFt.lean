/-
  What is done is undone; others' cells stay; how much there is room for, plainly. Conditions: each theorem's own.
-/
import Derived.Test.YtjgfgpdkcojnmaaFs
import Derived.Test.YtjgfgpdkcojnmaaFo
namespace Go.Proofs.Ytjgfgpdkcojnmaa.Pg
open Go Go.K Go.Proofs Go.Proofs.Ytjgfgpdkcojnmaa
set_option linter.unusedVariables false
set_option linter.unusedSimpArgs false
set_option maxRecDepth 10000

theorem pag_cells {p : Pag} : ({ p with cells := p.cells } : Pag) = p := rfl
theorem where_at {q : Pag} {x : POp} {j : Nat} {c : PCell} (h1 : q.kind = 1 → x.slot = j ∧ c.used = true) (h2 : q.kind ≠ 1 → posQ q.cells x.data = j ∧ c.data = x.data) (hc : q.cells[j]? = some c) : whereQ q x = ((j : Int), true) := by
  unfold whereQ
  split
  · rename_i hk
    obtain ⟨e1, e2⟩ := h1 hk
    rw [e1, used_some hc, e2]
  · rename_i hk
    obtain ⟨e1, e2⟩ := h2 hk
    rw [e1, dataAt, hc]
    exact Prod.ext rfl (decide_eq_true e2)
theorem do_free {q : Pag} {x : POp} {j : Nat} {c : PCell} (hm : mayQ q = true) (hr : rightP q.kind x) (hw : whereQ q x = ((j : Int), true)) (hc : q.cells[j]? = some c) (hk : x.kind = 4) : doQ q x = ({ q with cells := freeC q.kind q.cells j }, 0) := by
  obtain ⟨u, k, d⟩ := c
  rw [doQ_yes hm hr, hw]
  show doR q x (j : Int) true = _
  rw [doR_there hc, if_neg (by omega), if_neg (by omega), if_neg (by omega), if_pos hk]
theorem do_wake {q : Pag} {x : POp} {j : Nat} {c : PCell} (hm : mayQ q = true) (hr : rightP q.kind x) (hw : whereQ q x = ((j : Int), true)) (hc : q.cells[j]? = some c) (hk : x.kind = 3) (h0 : c.killer ≠ 0) : doQ q x = ({ q with cells := q.cells.set j ⟨c.used, x.txn, c.data⟩ }, 0) := by
  obtain ⟨u, k, d⟩ := c
  rw [doQ_yes hm hr, hw]
  show doR q x (j : Int) true = _
  rw [doR_there hc, if_neg (by omega), if_neg (by omega), if_neg (by rintro ⟨_, e⟩; exact h0 e), if_neg (by omega)]
theorem pos_eq {l m : List PCell} (h : l.map PCell.data = m.map PCell.data) (d : List UInt8) : posQ l d = posQ m d := by
  have key : ∀ l : List PCell, posQ l d = ((l.map PCell.data).takeWhile (fun b => decide (Lib.compareBytes b d < 0))).length := fun l => by
    unfold posQ
    rw [List.takeWhile_map, List.length_map]; rfl
  rw [key, key, h]
/-- A Put or a Kill is undone. -/
theorem do_undo {p q : Pag} {o : POp} (h : doQ p o = (q, 0)) (h2 : o.kind = 1 ∨ o.kind = 2) : (undoQ p.kind o).2 = 0 ∧ doQ q (undoQ p.kind o).1 = (p, 0) ∧ q ≠ p := by
  have hmq := do_may h
  obtain ⟨hm, hr, hd⟩ := do_ok h
  have hu : undoQ p.kind o = (⟨if o.kind = 2 then 3 else 4, if p.kind = 1 then o.slot else 0, 0, if p.kind = 2 then o.data else []⟩, 0) := by rw [undoQ, if_pos ⟨hr, by omega⟩]
  rw [hu]
  obtain ⟨r1, r2, r3, r4, r5, r6⟩ := hr
  have hkq : q.kind = p.kind := by cases hd <;> (rename_i hq _; first | rw [hq] | skip) <;> (first | rfl | (rename_i hq; rw [hq]))
  have hrx : rightP q.kind ⟨if o.kind = 2 then 3 else 4, if p.kind = 1 then o.slot else 0, 0, if p.kind = 2 then o.data else []⟩ := by
    rw [hkq]
    refine ⟨r1, ?_, ?_, ?_, ?_, ?_⟩
    · show 1 ≤ (if o.kind = 2 then 3 else 4 : Int) ∧ (if o.kind = 2 then 3 else 4 : Int) ≤ 4
      split <;> omega
    · show (if o.kind = 2 then 3 else 4 : Int) = 2 ↔ 0 ≠ 0
      split <;> simp
    · intro e
      show (if p.kind = 1 then o.slot else 0 : Int) = 0
      rw [if_neg (by omega)]
    · rintro ⟨e, _⟩
      show (if p.kind = 2 then o.data else []).length = 0
      rw [if_neg (by omega)]; rfl
    · intro e
      have hk2 : p.kind = 2 := by
        rcases r1 with r1 | r1
        · refine absurd ⟨r1, ?_⟩ e
          show (if o.kind = 2 then 3 else 4 : Int) ≠ 1
          split <;> omega
        · exact r1
      show 1 ≤ (if p.kind = 2 then o.data else []).length ∧ (if p.kind = 2 then o.data else []).length ≤ 180
      rw [if_pos hk2]
      exact r6 (by omega)
  refine ⟨rfl, ?_⟩
  cases hd with
  | put i hi hw ho hq hc =>
    have hk2 : ¬ o.kind = 2 := by omega
    rw [if_neg hk2] at hrx ⊢
    rcases r1 with hk | hk
    · obtain ⟨hcp, hs⟩ := (may_heap hk).1 hm
      obtain ⟨w1, w2⟩ := (where_kind hw).1 hk
      rw [if_pos hk, if_neg (by omega)] at hrx ⊢
      subst hq
      by_cases e : i = p.cells.length
      · have hcells : putC p.kind p.cells i o.data = p.cells ++ [⟨true, 0, o.data⟩] := by
          rw [putC, if_pos (.inr e), e, List.take_length, List.drop_length]
        rw [hcells] at hmq hrx ⊢
        have hget : (p.cells ++ [(⟨true, 0, o.data⟩ : PCell)])[i]? = some ⟨true, 0, o.data⟩ := by rw [e, List.getElem?_append_right (Nat.le_refl _), Nat.sub_self]; rfl
        refine ⟨?_, fun e2 => ?_⟩
        · rw [do_free (j := i) hmq hrx (where_at (fun _ => ⟨w1, rfl⟩) (fun e => absurd hk e) hget) hget rfl]
          refine Prod.ext ?_ rfl
          show ({ p with cells := freeC p.kind (p.cells ++ [(⟨true, 0, o.data⟩ : PCell)]) i } : Pag) = p
          rw [freeC, if_neg (by omega), e, List.set_append_right _ _ (Nat.le_refl _), Nat.sub_self, List.set_cons_zero, List.length_append, List.length_singleton]
          have hz : (p.cells ++ [(⟨false, 0, []⟩ : PCell)])[p.cells.length]? = some ⟨false, 0, []⟩ := by rw [List.getElem?_append_right (Nat.le_refl _), Nat.sub_self]; rfl
          rw [trim_free hz rfl]
          have ht : ∀ n, n ≤ p.cells.length → trimN (p.cells ++ [(⟨false, 0, []⟩ : PCell)]) n = trimN p.cells n := by
            intro n
            induction n with
            | zero => intro _; rfl
            | succ n ih =>
              intro hn
              rw [trimN, trimN, List.getElem?_append_left (by omega), ih (by omega)]
          rw [ht _ (Nat.le_refl _), trim_full hs, List.take_left]
        · have := congrArg (fun x : Pag => x.cells.length) e2
          simp at this
      · have hcells : putC p.kind p.cells i o.data = p.cells.set i ⟨true, 0, o.data⟩ := by rw [putC, if_neg (by omega)]
        rw [hcells] at hmq hrx ⊢
        have hx : p.cells[i]? = some (p.cells[i]'(by omega)) := List.getElem?_eq_getElem (by omega)
        have hux : (p.cells[i]'(by omega)).used = false := by
          rw [w1, used_some hx] at w2; exact w2
        have hzx := okCell_not (hcp.1 i _ hx) hux
        rw [hzx] at hx
        have hget : (p.cells.set i (⟨true, 0, o.data⟩ : PCell))[i]? = some ⟨true, 0, o.data⟩ := List.getElem?_set_self (by omega)
        refine ⟨?_, fun e2 => ?_⟩
        · rw [do_free (j := i) hmq hrx (where_at (fun _ => ⟨w1, rfl⟩) (fun e => absurd hk e) hget) hget rfl]
          refine Prod.ext ?_ rfl
          show ({ p with cells := freeC p.kind (p.cells.set i (⟨true, 0, o.data⟩ : PCell)) i } : Pag) = p
          rw [freeC, if_neg (by omega), List.set_set, List.length_set, set_same hx, trim_full hs, List.take_length]
        · have := congrArg (fun x : Pag => x.cells[i]?) e2
          simp only [hget, hx] at this
          cases this
    · obtain ⟨hcp, hs⟩ := (may_leaf hk).1 hm
      obtain ⟨w1, w2⟩ := (where_kind hw).2 (by omega)
      rw [if_neg (by omega), if_pos hk] at hrx ⊢
      subst hq
      have hcells : putC p.kind p.cells i o.data = p.cells.take i ++ ⟨true, 0, o.data⟩ :: p.cells.drop i := by rw [putC, if_pos (.inl hk)]
      rw [hcells] at hmq hrx ⊢
      obtain ⟨A, B, e, hp, hA, hB⟩ := leaf_split (d := o.data) hs.2
      rw [w1] at hp hB
      subst hp
      rcases hB with ⟨_, hB⟩ | ⟨c, B', _, _, hB, _⟩
      · rw [e, List.take_left, List.drop_left] at hmq hrx ⊢
        have hget : (A ++ (⟨true, 0, o.data⟩ : PCell) :: B)[A.length]? = some ⟨true, 0, o.data⟩ := by rw [List.getElem?_append_right (Nat.le_refl _), Nat.sub_self]; rfl
        have hpos : posQ (A ++ (⟨true, 0, o.data⟩ : PCell) :: B) o.data = A.length := leaf_pos hA fun x hx => by
          rcases List.mem_cons.1 hx with rfl | hx
          · exact Int.le_of_eq (K.cmp_refl _).symm
          · have := hB x hx; omega
        refine ⟨?_, fun e2 => ?_⟩
        · rw [do_free (j := A.length) hmq hrx (where_at (fun e1 => by exact absurd e1 (by show ¬ p.kind = 1; omega)) (fun _ => ⟨hpos, rfl⟩) hget) hget rfl]
          refine Prod.ext ?_ rfl
          show ({ p with cells := freeC p.kind (A ++ (⟨true, 0, o.data⟩ : PCell) :: B) A.length } : Pag) = p
          rw [freeC, if_pos hk, List.take_left, List.drop_append, List.drop_of_length_le (by omega), show A.length + 1 - A.length = 1 by omega, List.drop_one, List.tail_cons, List.nil_append, ← e]
        · have := congrArg (fun x : Pag => x.cells.length) e2
          simp [e] at this
      · rw [w2] at hB; cases hB
  | mark i x hx hw ho hq =>
    have hk2 : o.kind = 2 ∧ x.killer = 0 := by omega
    rw [if_pos hk2.1] at hrx ⊢
    subst hq
    have hlt := (List.getElem?_eq_some_iff.1 hx).1
    have hget : (p.cells.set i (⟨x.used, o.txn, x.data⟩ : PCell))[i]? = some ⟨x.used, o.txn, x.data⟩ := List.getElem?_set_self hlt
    have ht0 : o.txn ≠ 0 := r3.1 hk2.1
    have hdat : (p.cells.set i (⟨x.used, o.txn, x.data⟩ : PCell)).map PCell.data = p.cells.map PCell.data := by
      rw [List.map_set]
      exact set_same (by rw [List.getElem?_map, hx]; rfl)
    refine ⟨?_, fun e2 => ?_⟩
    · rw [do_wake (j := i) hmq hrx (where_at (c := ⟨x.used, o.txn, x.data⟩) (fun e1 => ?_) (fun e1 => ?_) hget) hget rfl ht0]
      · refine Prod.ext ?_ rfl
        show ({ p with cells := (p.cells.set i (⟨x.used, o.txn, x.data⟩ : PCell)).set i ⟨x.used, 0, x.data⟩ } : Pag) = p
        rw [List.set_set, set_same]
        rw [hx]
        obtain ⟨u, k, d⟩ := x
        obtain rfl : k = 0 := hk2.2
        rfl
      · have e1 : p.kind = 1 := e1
        obtain ⟨w1, w2⟩ := (where_kind hw).1 e1
        refine ⟨by show (if p.kind = 1 then o.slot else 0) = _; rw [if_pos e1, w1], ?_⟩
        rw [w1, used_some hx] at w2
        exact w2
      · have e1 : ¬ p.kind = 1 := e1
        have hkl : p.kind = 2 := by omega
        obtain ⟨w1, w2⟩ := (where_kind hw).2 e1
        have hd : x.data = o.data := by rw [dataAt, hx] at w2; exact of_decide_eq_true w2
        show posQ (p.cells.set i (⟨x.used, o.txn, x.data⟩ : PCell)) (if p.kind = 2 then o.data else []) = i ∧ x.data = (if p.kind = 2 then o.data else [])
        rw [if_pos hkl, pos_eq hdat]
        exact ⟨w1, hd⟩
    · have := congrArg (fun x : Pag => x.cells[i]?) e2
      simp only [hget, hx] at this
      have h3 : o.txn = x.killer := congrArg PCell.killer (Option.some.inj this)
      omega
  | free i x hx hw ho hq => omega
/-! ### Others' cells stay -/
def cellAt (l : List PCell) (i : Nat) : PCell := (l[i]?).getD ⟨false, 0, []⟩
/-- A leaf's cell of some bytes. -/
def atQ (l : List PCell) (d : List UInt8) : PCell := (l.find? (fun x => decide (x.data = d))).getD ⟨false, 0, []⟩
def meantQ (p : Pag) (o : POp) (i : Nat) (a : PCell) : Bool := decide (p.kind = 1 ∧ (i : Int) = o.slot) || decide (p.kind = 2 ∧ (a.used = false ∨ a.data = o.data))
def behindQ (p q : Pag) (i : Nat) : PCell := if p.kind = 2 ∧ (cellAt p.cells i).used = true then atQ q.cells (cellAt p.cells i).data else cellAt q.cells i
theorem at_mem {l : List PCell} (hs : l.Pairwise cmpD) {a : PCell} (ha : a ∈ l) : atQ l a.data = a := by
  obtain ⟨A, B, rfl⟩ := List.append_of_mem ha
  unfold atQ
  rw [List.find?_append]
  have hA : A.find? (fun x => decide (x.data = a.data)) = none := List.find?_eq_none.2 fun x hx => by
    have h1 : Lib.compareBytes x.data a.data < 0 := (List.pairwise_append.1 hs).2.2 x hx a (List.mem_cons_self ..)
    intro e
    have e := of_decide_eq_true e
    rw [e, K.cmp_refl] at h1
    omega
  rw [hA, Option.none_or, List.find?_cons_of_pos (by simp)]; rfl
theorem take_trim_get (l : List PCell) : ∀ n i, n ≤ l.length → (∀ x ∈ l, x.used = false → x = ⟨false, 0, []⟩) → i < n → cellAt (l.take (trimN l n)) i = cellAt l i
  | 0, i, _, _, hi => by omega
  | n + 1, i, hn, hz, hi => by
    have hx : l[n]? = some (l[n]'(by omega)) := List.getElem?_eq_getElem (by omega)
    cases hu : (l[n]'(by omega)).used with
    | true =>
      rw [trim_used hx hu, cellAt, cellAt, List.getElem?_take, if_pos hi]
    | false =>
      rw [trim_free hx hu]
      by_cases h : i < n
      · exact take_trim_get l n i (by omega) hz h
      · obtain rfl : i = n := by omega
        have := trimN_le l i
        rw [cellAt, cellAt, List.getElem?_eq_none (by rw [List.length_take]; omega), hx]
        exact (hz _ (List.getElem_mem _) hu).symm
theorem do_keeps {p q : Pag} {o : POp} (h : doQ p o = (q, 0)) : q.kind = p.kind ∧ q.lsn = p.lsn ∧ q.next = p.next ∧ q.cells.length ≤ p.cells.length + 1 ∧ ∀ i : Nat, cellAt p.cells i = behindQ p q i ∨ meantQ p o i (cellAt p.cells i) = true := by
  have hmq := do_may h
  obtain ⟨hm, hr, hd⟩ := do_ok h
  have hqe : ∃ l, q = { p with cells := l } := by
    cases hd with
    | put i hi hw ho hq hc => exact ⟨_, hq⟩
    | mark i x hx hw ho hq => exact ⟨_, hq⟩
    | free i x hx hw ho hq => exact ⟨_, hq⟩
  obtain ⟨l, rfl⟩ := hqe
  refine ⟨rfl, rfl, rfl, ?_, fun i => ?_⟩
  · cases hd with
    | put i hi hw ho hq hc =>
      rw [hq]; exact putC_len hi
    | mark i x hx hw ho hq => rw [hq]; show (List.set _ _ _).length ≤ _; rw [List.length_set]; omega
    | free i x hx hw ho hq =>
      rw [hq]
      show (freeC p.kind p.cells i).length ≤ _
      unfold freeC
      split
      · simp; omega
      · rw [List.length_take, List.length_set]; omega
  · rcases hr.1 with hk | hk
    · obtain ⟨hcp, hs⟩ := (may_heap hk).1 hm
      by_cases hi : (i : Int) = o.slot
      · exact .inr (by rw [meantQ, decide_eq_true (⟨hk, hi⟩ : p.kind = 1 ∧ (i : Int) = o.slot)]; rfl)
      · refine .inl ?_
        rw [behindQ, if_neg (by omega)]
        cases hd with
        | put j hj hw ho hq hc =>
          have hl : l = putC p.kind p.cells j o.data := congrArg Pag.cells hq
          obtain ⟨w1, w2⟩ := (where_kind hw).1 hk
          show cellAt p.cells i = cellAt l i
          rw [hl, putC]
          split
          · obtain rfl : j = p.cells.length := by omega
            rw [List.take_length, List.drop_length, cellAt, cellAt]
            by_cases hlt : i < p.cells.length
            · rw [List.getElem?_append_left hlt]
            · rw [List.getElem?_eq_none (by omega), List.getElem?_eq_none (by simp; omega)]
          · rw [cellAt, cellAt, List.getElem?_set_ne (by omega)]
        | mark j x hx hw ho hq =>
          have hl : l = p.cells.set j ⟨x.used, o.txn, x.data⟩ := congrArg Pag.cells hq
          obtain ⟨w1, w2⟩ := (where_kind hw).1 hk
          show cellAt p.cells i = cellAt l i
          rw [hl, cellAt, cellAt, List.getElem?_set_ne (by omega)]
        | free j x hx hw ho hq =>
          have hl : l = freeC p.kind p.cells j := congrArg Pag.cells hq
          obtain ⟨w1, w2⟩ := (where_kind hw).1 hk
          show cellAt p.cells i = cellAt l i
          rw [hl, freeC, if_neg (by omega)]
          by_cases hlt : i < p.cells.length
          · rw [take_trim_get (p.cells.set j ⟨false, 0, []⟩) p.cells.length i (by simp) (fun y hy hu => ?_) hlt, cellAt, cellAt, List.getElem?_set_ne (by omega)]
            rcases List.mem_or_eq_of_mem_set hy with h' | h'
            · obtain ⟨m, hm, e⟩ := List.getElem_of_mem h'
              exact okCell_not (hcp.1 m y (by rw [List.getElem?_eq_getElem hm, e])) hu
            · exact h'
          · rw [cellAt, cellAt, List.getElem?_eq_none (by omega), List.getElem?_eq_none (by rw [List.length_take, List.length_set]; omega)]
    · obtain ⟨hcp, hs⟩ := (may_leaf hk).1 hm
      obtain ⟨hcq, hsq⟩ := (may_leaf' hk).1 hmq
      by_cases hlt : i < p.cells.length
      · have hx : p.cells[i]? = some p.cells[i] := List.getElem?_eq_getElem hlt
        have hmem : p.cells[i] ∈ p.cells := List.getElem_mem hlt
        have ha : cellAt p.cells i = p.cells[i] := by rw [cellAt, hx]; rfl
        generalize p.cells[i] = a at hx hmem ha
        have hu : a.used = true := hs.1 a hmem
        by_cases hdd : a.data = o.data
        · exact .inr (by rw [meantQ, ha, decide_eq_true (⟨hk, .inr hdd⟩ : p.kind = 2 ∧ (a.used = false ∨ a.data = o.data)), Bool.or_true])
        · refine .inl ?_
          rw [behindQ, ha, if_pos ⟨hk, hu⟩]
          show a = atQ l a.data
          refine (at_mem hsq.2 ?_).symm
          cases hd with
          | put j hj hw ho hq hc =>
            have hl : l = putC p.kind p.cells j o.data := congrArg Pag.cells hq
            rw [hl, putC, if_pos (.inl hk)]
            have := hmem
            rw [← List.take_append_drop j p.cells] at this
            rcases List.mem_append.1 this with h' | h'
            · exact List.mem_append_left _ h'
            · exact List.mem_append_right _ (List.mem_cons_of_mem _ h')
          | mark j x hx2 hw ho hq =>
            have hl : l = p.cells.set j ⟨x.used, o.txn, x.data⟩ := congrArg Pag.cells hq
            obtain ⟨w1, w2⟩ := (where_kind hw).2 (by omega)
            rw [hl]
            have hne : j ≠ i := fun e => by
              subst e
              rw [hx] at hx2; cases hx2
              rw [dataAt, hx] at w2
              exact hdd (of_decide_eq_true w2)
            exact List.mem_of_getElem? (by rw [List.getElem?_set_ne hne]; exact hx)
          | free j x hx2 hw ho hq =>
            have hl : l = freeC p.kind p.cells j := congrArg Pag.cells hq
            obtain ⟨w1, w2⟩ := (where_kind hw).2 (by omega)
            rw [hl, freeC, if_pos hk]
            have hne : j ≠ i := fun e => by
              subst e
              rw [hx] at hx2; cases hx2
              rw [dataAt, hx] at w2
              exact hdd (of_decide_eq_true w2)
            by_cases hji : i < j
            · exact List.mem_append_left _ (List.mem_of_getElem? (i := i) (by rw [List.getElem?_take, if_pos hji]; exact hx))
            · exact List.mem_append_right _ (List.mem_of_getElem? (i := i - (j + 1)) (by rw [List.getElem?_drop, show j + 1 + (i - (j + 1)) = i by omega]; exact hx))
      · have ha : cellAt p.cells i = ⟨false, 0, []⟩ := by rw [cellAt, List.getElem?_eq_none (by omega)]; rfl
        exact .inr (by rw [meantQ, ha, decide_eq_true (⟨hk, .inl rfl⟩ : p.kind = 2 ∧ ((⟨false, 0, []⟩ : PCell).used = false ∨ (⟨false, 0, []⟩ : PCell).data = o.data)), Bool.or_true])
/-! ### Room -/
theorem do_put {p : Pag} {x : POp} {j : Nat} (hm : mayQ p = true) (hr : rightP p.kind x) (hw : whereQ p x = ((j : Int), false)) (hj : j ≤ p.cells.length) (hk : x.kind = 1) : doQ p x = putQ p j x.data := by
  rw [doQ_yes hm hr, hw]
  show doR p x (j : Int) false = _
  rw [doR, if_pos hk, if_neg (by omega), if_neg (by decide), Int.toNat_natCast]
theorem put_fits {p : Pag} {j : Nat} {d : List UInt8} (hm : mayQ p = true) (hj : j ≤ p.cells.length) (hd : 1 ≤ d.length ∧ d.length ≤ 180) (grow : Nat) (hg : sizeS (putC p.kind p.cells j d) = sizeS p.cells + grow) :
    cellsQ (putC p.kind p.cells j d) = decide ((putC p.kind p.cells j d).length ≤ 60 ∧ sizeQ p.cells + grow ≤ 512) := by
  have hcp := may_ok hm
  rw [Bool.eq_iff_iff, cellsQ_iff, decide_eq_true_iff]
  have ho : ∀ (i : Nat) x, (putC p.kind p.cells j d)[i]? = some x → okCell x := fun i x hx => by
    have hmem := List.mem_of_getElem? hx
    have hn : okCell ⟨true, 0, d⟩ := ⟨fun _ => hd, fun e => by cases e⟩
    unfold putC at hmem
    split at hmem
    · rcases List.mem_append.1 hmem with h | h
      · exact hcp x (List.mem_of_mem_take h)
      · rcases List.mem_cons.1 h with rfl | h
        · exact hn
        · exact hcp x (List.mem_of_mem_drop h)
    · rcases List.mem_or_eq_of_mem_set hmem with h | h
      · exact hcp x h
      · rw [h]; exact hn
  constructor
  · rintro ⟨_, h2, h3⟩
    exact ⟨h2, by unfold sizeQ at h3 ⊢; omega⟩
  · rintro ⟨h2, h3⟩
    exact ⟨ho, h2, by unfold sizeQ at h3 ⊢; omega⟩
theorem sizeS_ins (l : List PCell) (j : Nat) (c : PCell) : sizeS (l.take j ++ c :: l.drop j) = sizeS l + sizeC c := by
  have := sizeS_append (l.take j) (l.drop j)
  rw [List.take_append_drop] at this
  rw [sizeS_append, sizeS]; omega
def slotQ (l : List PCell) : Nat := l.findIdx (fun x => !x.used)
theorem room_put {p : Pag} {b : List UInt8} {slot : Int} (hm : mayQ p = true) (hk : p.kind = 1 ∨ p.kind = 2) (h1 : 1 ≤ b.length) (hs : p.kind = 1 → slot = slotQ p.cells) (hs2 : p.kind = 2 → slot = 0 ∧ (atQ p.cells b).used = false) :
    (doQ p ⟨1, slot, 0, b⟩).2 = if (b.length : Int) ≤ roomQ p then 0 else if b.length ≤ 180 then 4 else 1 := by
  have h60 := ((mayQ_iff p).1 hm).2.1
  have hrq : roomQ p = max 0 (min (roomN p.cells) 180) := by rw [roomQ, if_pos ⟨hm, by omega⟩]
  by_cases h180 : b.length ≤ 180
  · have hr : rightP p.kind ⟨1, slot, 0, b⟩ := by
      refine ⟨hk, ⟨(by decide : (1 : Int) ≤ 1), (by decide : (1 : Int) ≤ 4)⟩, ⟨fun (e : (1 : Int) = 2) => absurd e (by decide), fun (e : (0 : Nat) ≠ 0) => absurd rfl e⟩, fun e => (hs2 e).1, fun e => absurd rfl e.2, fun _ => ⟨h1, h180⟩⟩
    rw [if_pos h180]
    have key : ∀ (j grow : Nat), j ≤ p.cells.length → whereQ p ⟨1, slot, 0, b⟩ = ((j : Int), false) → sizeS (putC p.kind p.cells j b) = sizeS p.cells + grow → ((b.length : Int) ≤ roomQ p ↔ (putC p.kind p.cells j b).length ≤ 60 ∧ sizeQ p.cells + grow ≤ 512) → (doQ p ⟨1, slot, 0, b⟩).2 = if (b.length : Int) ≤ roomQ p then 0 else 4 := by
      intro j grow hj hw hg hiff
      rw [do_put hm hr hw hj rfl]
      show (putQ p j b).2 = _
      rw [putQ, put_fits hm hj ⟨h1, h180⟩ grow hg]
      by_cases h : (b.length : Int) ≤ roomQ p
      · rw [if_pos h, if_pos (decide_eq_true (hiff.1 h))]
      · rw [if_neg h, if_neg (by rw [decide_eq_true_iff]; exact fun e => h (hiff.2 e))]
    rcases hk with hk | hk
    · obtain ⟨hcp, _⟩ := (may_heap hk).1 hm
      have hsl := hs hk
      have hle : slotQ p.cells ≤ p.cells.length := List.findIdx_le_length
      by_cases hf : slotQ p.cells < p.cells.length
      · have hx : p.cells[slotQ p.cells]? = some p.cells[slotQ p.cells] := List.getElem?_eq_getElem hf
        have hux : (p.cells[slotQ p.cells]).used = false := by
          have := List.findIdx_getElem (w := hf) (p := fun x : PCell => !x.used) (xs := p.cells)
          simp only [Bool.not_eq_true'] at this
          exact this
        have hzx := okCell_not (hcp.1 _ _ hx) hux
        have hfree : freeQ p.cells = true := List.any_eq_true.2 ⟨_, List.getElem_mem hf, by rw [hux]; rfl⟩
        rw [hzx] at hx
        have hput : putC p.kind p.cells (slotQ p.cells) b = p.cells.set (slotQ p.cells) ⟨true, 0, b⟩ := by rw [putC, if_neg (by omega)]
        have hss := sizeS_set ⟨true, 0, b⟩ hx
        rw [sizeC_z, show sizeC ⟨true, 0, b⟩ = 6 + b.length from rfl] at hss
        refine key (slotQ p.cells) (4 + b.length) hle ?_ (by rw [hput]; omega) ?_
        · rw [whereQ, if_pos hk]
          show (slot, usedAt p.cells slot) = _
          rw [hsl, used_some hx]
        · rw [hput, List.length_set, hrq, roomN, if_pos hfree]; omega
      · have hle2 : slotQ p.cells = p.cells.length := by omega
        have hfree : freeQ p.cells = false := by
          rw [freeQ, List.any_eq_false]
          intro x hx
          have := List.findIdx_eq_length.1 hle2 x hx
          simpa using this
        have hput : putC p.kind p.cells p.cells.length b = p.cells ++ [⟨true, 0, b⟩] := by rw [putC, if_pos (.inr rfl), List.take_length, List.drop_length]
        refine key p.cells.length (6 + b.length) (Nat.le_refl _) ?_ (by rw [hput, sizeS_append]; rfl) ?_
        · rw [whereQ, if_pos hk]
          show (slot, usedAt p.cells slot) = _
          rw [hsl, hle2, used_none (Nat.le_refl _)]
        · rw [hput, List.length_append, List.length_singleton, hrq, roomN, if_neg (by rw [hfree]; decide)]
          split <;> omega
    · obtain ⟨hcp, hsx⟩ := (may_leaf hk).1 hm
      obtain ⟨e0, e1⟩ := hs2 hk
      have hfree : freeQ p.cells = false := by
        rw [freeQ, List.any_eq_false]
        intro x hx
        rw [hsx.1 x hx]; decide
      obtain ⟨A, B, e, hp, hA, hB⟩ := leaf_split (d := b) hsx.2
      rcases hB with ⟨hno, hB⟩ | ⟨c, B', rfl, hcd, hyes, hB⟩
      · have hput : putC p.kind p.cells (posQ p.cells b) b = p.cells.take (posQ p.cells b) ++ ⟨true, 0, b⟩ :: p.cells.drop (posQ p.cells b) := by rw [putC, if_pos (.inl hk)]
        have hple := posQ_le p.cells b
        refine key (posQ p.cells b) (6 + b.length) hple ?_ (by rw [hput, sizeS_ins]; rfl) ?_
        · rw [whereQ, if_neg (by omega)]
          show (((posQ p.cells b : Nat) : Int), dataAt p.cells (posQ p.cells b) b) = _
          rw [hno]
        · rw [hput, hrq, roomN, if_neg (by rw [hfree]; decide)]
          have : (p.cells.take (posQ p.cells b) ++ (⟨true, 0, b⟩ : PCell) :: p.cells.drop (posQ p.cells b)).length = p.cells.length + 1 := by simp; omega
          rw [this]
          split <;> omega
      · have hmem : c ∈ p.cells := by rw [e]; exact List.mem_append_right _ (List.mem_cons_self ..)
        have := at_mem hsx.2 hmem
        rw [hcd] at this
        rw [this, hsx.1 c hmem] at e1
        cases e1
  · rw [if_neg (by omega), if_neg h180, doQ, if_neg (by rw [hm]; decide), if_pos]
    rintro ⟨_, _, _, _, _, r6⟩
    have := r6 (fun e => e.2 rfl)
    simp only at this
    omega
end Go.Proofs.Ytjgfgpdkcojnmaa.Pg
