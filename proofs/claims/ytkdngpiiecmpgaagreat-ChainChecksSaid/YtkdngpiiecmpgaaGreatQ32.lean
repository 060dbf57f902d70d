/-
 What operations do to pages, plainly: the page may be behind each, others' cells stay, what undoes them undoes them. Conditions: each theorem's own.
-/
import Derived.Test.YtkdngpiiecmpgaaGreatQ31
namespace Go.Proofs.YtkdngpiiecmpgaaGreat.Pg
open Go Go.K Go.Proofs Go.Proofs.YtkdngpiiecmpgaaGreat
set_option linter.unusedVariables false
set_option linter.unusedSimpArgs false
set_option maxRecDepth 10000

abbrev cmpD (a b : PCell) : Prop := Lib.compareBytes a.data b.data < 0
def leafP (l : List PCell) : Prop := (∀ x ∈ l, x.used = true) ∧ l.Pairwise cmpD
def heapP (l : List PCell) : Prop := ∀ x, l[l.length - 1]? = some x → x.used = true
theorem may_leaf {p : Pag} (hk : p.kind = 2) : mayQ p = true ↔ cellsP p.cells ∧ leafP p.cells := by
 constructor
 ·intro hm
  obtain ⟨_, h2, h3, h4⟩ := (mayQ_iff p).1 hm
  refine ⟨⟨fun i x hx => (h3 i x hx).1, h2, h4⟩, fun x hx => ?_, ?_⟩
  ·obtain ⟨i, hi, e⟩ := List.getElem_of_mem hx
   exact ((h3 i x (by rw [List.getElem?_eq_getElem hi, e])).2.2 (by omega)).1
  ·rw [List.pairwise_iff_getElem]
   intro i j hi hj hij
   exact sorted_of hm hk i j _ _ hij (List.getElem?_eq_getElem hi) (List.getElem?_eq_getElem hj)
 ·rintro ⟨⟨h1, h2, h3⟩, h4, h5⟩
  rw [List.pairwise_iff_getElem] at h5
  refine (mayQ_iff p).2 ⟨by omega, h2, fun i x hx => ⟨h1 i x hx, fun e => by omega, fun _ => ⟨h4 x (List.mem_of_getElem? hx), fun e => by omega, fun h0 => ?_⟩⟩, h3⟩
  obtain ⟨hi, e⟩ := List.getElem?_eq_some_iff.1 hx
  have hp : p.cells[i - 1]? = some (p.cells[i - 1]'(by omega)) := List.getElem?_eq_getElem (by omega)
  rw [ltPrev, hp]
  refine decide_eq_true ?_
  rw [keyQ, keyQ, if_neg (by omega), if_neg (by omega), ← e]
  exact h5 (i - 1) i (by omega) hi (by omega)
theorem may_heap {p : Pag} (hk : p.kind = 1) : mayQ p = true ↔ cellsP p.cells ∧ heapP p.cells := by
 constructor
 ·intro hm
  obtain ⟨_, h2, h3, h4⟩ := (mayQ_iff p).1 hm
  refine ⟨⟨fun i x hx => (h3 i x hx).1, h2, h4⟩, fun x hx => ?_⟩
  have hlt := (List.getElem?_eq_some_iff.1 hx).1
  exact (h3 _ x hx).2.1 hk (by omega)
 ·rintro ⟨⟨h1, h2, h3⟩, h4⟩
  refine (mayQ_iff p).2 ⟨by omega, h2, fun i x hx => ⟨h1 i x hx, fun _ e => h4 x (by rw [← e, Nat.add_sub_cancel]; exact hx), fun e => absurd hk e⟩, h3⟩
theorem sizeS_set : ∀ {l : List PCell} {i : Nat} {x : PCell} (y : PCell), l[i]? = some x → sizeS (l.set i y) + sizeC x = sizeS l + sizeC y
 | [], i, x, y, h => by simp at h
 | a :: l, 0, x, y, h => by
  simp at h; subst h
  rw [List.set_cons_zero, sizeS, sizeS]; omega
 | a :: l, i + 1, x, y, h => by
  have := sizeS_set (l := l) (i := i) (x := x) y (by simpa using h)
  rw [List.set_cons_succ, sizeS, sizeS]; omega
theorem sizeS_take_le (l : List PCell) (k : Nat) : sizeS (l.take k) ≤ sizeS l := by
 have := sizeS_append (l.take k) (l.drop k)
 rw [List.take_append_drop] at this; omega
theorem sizeC_z : sizeC ⟨false, 0, []⟩ = 2 := rfl
theorem sizeC_pos (x : PCell) : 2 ≤ sizeC x := by unfold sizeC; split <;> omega
theorem okCell_z : okCell ⟨false, 0, []⟩ := ⟨fun h => by simp at h, fun _ => ⟨rfl, rfl⟩⟩
theorem leaf_split {l : List PCell} {d : List UInt8} (hs : l.Pairwise cmpD) : ∃ A B, l = A ++ B ∧ posQ l d = A.length ∧ (∀ x ∈ A, Lib.compareBytes x.data d < 0) ∧
  ((dataAt l (posQ l d) d = false ∧ ∀ x ∈ B, 0 < Lib.compareBytes x.data d) ∨ ∃ c B', B = c :: B' ∧ c.data = d ∧ dataAt l (posQ l d) d = true ∧ ∀ x ∈ B', 0 < Lib.compareBytes x.data d) := by
 have e0 : l = l.takeWhile (lowQ d) ++ l.dropWhile (lowQ d) := List.takeWhile_append_dropWhile.symm
 have hA : ∀ x ∈ l.takeWhile (lowQ d), Lib.compareBytes x.data d < 0 := fun x hx => by
  have := List.all_eq_true.1 (List.all_takeWhile (p := lowQ d) (l := l)) x hx
  exact of_decide_eq_true this
 have hp : posQ l d = (l.takeWhile (lowQ d)).length := rfl
 have hh : ∀ x, (l.dropWhile (lowQ d)).head? = some x → ¬ Lib.compareBytes x.data d < 0 := fun x hx => by
  have := List.head?_dropWhile_not (lowQ d) l
  rw [hx] at this
  simpa [lowQ] using this
 generalize l.takeWhile (lowQ d) = A at e0 hA hp
 generalize l.dropWhile (lowQ d) = B at e0 hh
 rw [e0] at hs
 refine ⟨A, B, e0, hp, hA, ?_⟩
 have hB := (List.pairwise_append.1 hs).2.1
 have hget : l[posQ l d]? = B.head? := by
  rw [hp, e0, List.getElem?_append_right (Nat.le_refl _), Nat.sub_self, List.head?_eq_getElem?]
 cases B with
 | nil => exact .inl ⟨by rw [dataAt, hget]; rfl, fun x hx => by cases hx⟩
 | cons c B' =>
  have hc := hh c rfl
  rw [List.pairwise_cons] at hB
  have hrest : ∀ x ∈ B', 0 < Lib.compareBytes x.data d := fun x hx => by
   have h1 := hB.1 x hx
   have h2 := K.cmp_swap x.data d
   have h3 := K.cmp_swap x.data c.data
   rcases K.cmp_cases x.data d with h | h | h
   ·have := K.cmp_trans h1 (by omega : Lib.compareBytes x.data d < 0)
    exact absurd this hc
   ·have h1' : Lib.compareBytes c.data x.data < 0 := h1
    rw [K.cmp_zero h] at h1'
    exact absurd h1' hc
   ·omega
  by_cases hd : c.data = d
  ·exact .inr ⟨c, B', rfl, hd, by rw [dataAt, hget]; exact decide_eq_true hd, hrest⟩
  ·refine .inl ⟨by rw [dataAt, hget]; exact decide_eq_false hd, fun x hx => ?_⟩
   rcases List.mem_cons.1 hx with rfl | hx
   ·rcases K.cmp_cases x.data d with h | h | h
    ·omega
    ·exact absurd (K.cmp_zero h) hd
    ·omega
   ·exact hrest x hx
theorem leaf_pos {A B : List PCell} {d : List UInt8} (hA : ∀ x ∈ A, Lib.compareBytes x.data d < 0) (hB : ∀ x ∈ B, 0 ≤ Lib.compareBytes x.data d) : posQ (A ++ B) d = A.length :=
 pos_of (by simp) (fun j x hj hx => hA x (List.mem_of_getElem? (by rw [List.getElem?_append_left hj] at hx; exact hx)))
  (fun j x hj hx => hB x (List.mem_of_getElem? (by rw [List.getElem?_append_right hj] at hx; exact hx)))
theorem leaf_ins {A B : List PCell} {c : PCell} (hs : leafP (A ++ B)) (hu : c.used = true) (hA : ∀ x ∈ A, Lib.compareBytes x.data c.data < 0) (hB : ∀ x ∈ B, 0 < Lib.compareBytes x.data c.data) : leafP (A ++ c :: B) := by
 obtain ⟨h1, h2⟩ := hs
 refine ⟨fun x hx => ?_, ?_⟩
 ·rcases List.mem_append.1 hx with hx | hx
  ·exact h1 x (List.mem_append_left _ hx)
  ·rcases List.mem_cons.1 hx with rfl | hx
   ·exact hu
   ·exact h1 x (List.mem_append_right _ hx)
 ·rw [List.pairwise_append] at h2 ⊢
  refine ⟨h2.1, List.pairwise_cons.2 ⟨fun x hx => ?_, h2.2.1⟩, fun a ha b hb => ?_⟩
  ·have h3 := hB x hx
   have h4 := K.cmp_swap c.data x.data
   show Lib.compareBytes c.data x.data < 0
   omega
  ·rcases List.mem_cons.1 hb with rfl | hb
   ·exact hA a ha
   ·exact h2.2.2 a ha b hb
theorem leaf_set {l : List PCell} {i : Nat} {x : PCell} (hx : l[i]? = some x) (k : Nat) (hs : leafP l) : leafP (l.set i ⟨x.used, k, x.data⟩) := by
 obtain ⟨h1, h2⟩ := hs
 obtain ⟨hi, e⟩ := List.getElem?_eq_some_iff.1 hx
 refine ⟨fun y hy => ?_, ?_⟩
 ·rcases List.mem_or_eq_of_mem_set hy with h | h
  ·exact h1 y h
  ·rw [h]; exact h1 x (List.mem_of_getElem? hx)
 ·have hm : (l.set i ⟨x.used, k, x.data⟩).map PCell.data = l.map PCell.data := by
   rw [List.map_set]
   exact set_same (by rw [List.getElem?_map, hx]; rfl)
  have e1 : ∀ m : List PCell, m.Pairwise cmpD ↔ (m.map PCell.data).Pairwise (fun a b => Lib.compareBytes a b < 0) := fun m => by rw [List.pairwise_map]
  rw [e1] at h2 ⊢
  rw [hm]; exact h2
theorem heap_set {l : List PCell} {i : Nat} {y : PCell} (hu : y.used = true) (hs : heapP l) : heapP (l.set i y) := fun x hx => by
 rw [List.length_set] at hx
 by_cases h : i = l.length - 1
 ·subst h
  by_cases h2 : l.length - 1 < l.length
  ·rw [List.getElem?_set_self h2] at hx; cases hx; exact hu
  ·rw [List.getElem?_eq_none (by rw [List.length_set]; omega)] at hx; cases hx
 ·rw [List.getElem?_set_ne h] at hx
  exact hs x hx
theorem heap_snoc {l : List PCell} {y : PCell} (hu : y.used = true) : heapP (l ++ [y]) := fun x hx => by
 rw [List.length_append, List.length_singleton, Nat.add_sub_cancel, List.getElem?_append_right (Nat.le_refl _), Nat.sub_self] at hx
 cases hx; exact hu
theorem heap_trim (l : List PCell) : ∀ n, n ≤ l.length → heapP (l.take (trimN l n))
 | 0, _ => fun x hx => by simp [trimN] at hx
 | n + 1, hn => by
  have hx : l[n]? = some (l[n]'(by omega)) := List.getElem?_eq_getElem (by omega)
  cases hu : (l[n]'(by omega)).used with
  | true =>
   rw [trim_used hx hu]
   intro x hx2
   rw [List.length_take, Nat.min_eq_left hn, Nat.add_sub_cancel, List.getElem?_take, if_pos (by omega), hx] at hx2
   cases hx2; exact hu
  | false =>
   rw [trim_free hx hu]
   exact heap_trim l n (by omega)
theorem cells_set {l : List PCell} {i : Nat} {x y : PCell} (hx : l[i]? = some x) (hc : cellsP l) (hy : okCell y) (hz : sizeC y ≤ sizeC x) : cellsP (l.set i y) := by
 obtain ⟨h1, h2, h3⟩ := hc
 have := sizeS_set y hx
 refine ⟨fun j z hz => ?_, by rw [List.length_set]; exact h2, by unfold sizeQ at h3 ⊢; omega⟩
 rcases List.mem_or_eq_of_mem_set (List.mem_of_getElem? hz) with h | h
 ·obtain ⟨m, hm, e⟩ := List.getElem_of_mem h
  exact h1 m z (by rw [List.getElem?_eq_getElem hm, e])
 ·rw [h]; exact hy
theorem cells_sub {l m : List PCell} (hs : m.Sublist l) (hz : sizeS m ≤ sizeS l) (hc : cellsP l) : cellsP m := by
 obtain ⟨h1, h2, h3⟩ := hc
 refine ⟨fun j z hz => ?_, Nat.le_trans hs.length_le h2, by unfold sizeQ at h3 ⊢; omega⟩
 obtain ⟨i, hi, e⟩ := List.getElem_of_mem (hs.subset (List.mem_of_getElem? hz))
 exact h1 i z (by rw [List.getElem?_eq_getElem hi, e])
theorem sizeS_erase (l : List PCell) (i : Nat) : sizeS (l.take i ++ l.drop (i + 1)) ≤ sizeS l := by
 have h1 := sizeS_append (l.take i) (l.drop i)
 rw [List.take_append_drop] at h1
 rw [sizeS_append]
 have h2 := sizeS_append ((l.drop i).take 1) ((l.drop i).drop 1)
 rw [List.take_append_drop, List.drop_drop] at h2
 omega
inductive Done (p : Pag) (o : POp) (q : Pag) : Prop
 | put (i : Nat) (hi : i ≤ p.cells.length) (hw : whereQ p o = ((i : Int), false)) (hk : o.kind = 1) (hq : q = { p with cells := putC p.kind p.cells i o.data }) (hc : cellsP q.cells)
 | mark (i : Nat) (x : PCell) (hx : p.cells[i]? = some x) (hw : whereQ p o = ((i : Int), true)) (hk : o.kind = 2 ∧ x.killer = 0 ∨ o.kind = 3 ∧ x.killer ≠ 0) (hq : q = { p with cells := p.cells.set i ⟨x.used, o.txn, x.data⟩ })
 | free (i : Nat) (x : PCell) (hx : p.cells[i]? = some x) (hw : whereQ p o = ((i : Int), true)) (hk : o.kind = 4) (hq : q = { p with cells := freeC p.kind p.cells i })
theorem do_ok {p q : Pag} {o : POp} (h : doQ p o = (q, 0)) : mayQ p = true ∧ rightP p.kind o ∧ Done p o q := by
 unfold doQ at h
 split at h
 ·cases h
 ·rename_i hm
  have hm : mayQ p = true := by simpa using hm
  split at h
  ·cases h
  ·rename_i hr
   have hr : rightP p.kind o := by simpa using hr
   refine ⟨hm, hr, ?_⟩
   have hth := @where_there p o
   generalize hw : whereQ p o = ib at h hth
   obtain ⟨i, t⟩ := ib
   simp only [doR] at h
   split at h
   ·rename_i hk
    split at h
    ·cases h
    ·rename_i hi
     split at h
     ·cases h
     ·rename_i ht
      have ht : t = false := by simpa using ht
      subst ht
      unfold putQ at h
      split at h
      ·rename_i hcq
       cases h
       obtain ⟨j, rfl⟩ : ∃ j : Nat, i = j := ⟨i.toNat, by omega⟩
       exact .put j (by omega) hw hk rfl ((cellsQ_iff _).1 hcq)
      ·cases h
   ·rename_i hk1
    have hb := hr.2.1
    split at h
    ·cases h
    ·rename_i ht
     have ht : t = true := by simpa using ht
     subst ht
     obtain ⟨j, rfl, x, hx⟩ := hth rfl
     rw [Int.toNat_natCast, hx] at h
     simp only at h
     split at h
     ·cases h
     ·split at h
      ·cases h
      ·split at h
       ·cases h
        exact .mark j x hx hw (by omega) rfl
       ·cases h
        exact .free j x hx hw (by omega) rfl
theorem where_kind {p : Pag} {o : POp} {i : Nat} {t : Bool} (hw : whereQ p o = ((i : Int), t)) : (p.kind = 1 → o.slot = i ∧ usedAt p.cells o.slot = t) ∧ (p.kind ≠ 1 → posQ p.cells o.data = i ∧ dataAt p.cells i o.data = t) := by
 unfold whereQ at hw
 split at hw
 ·rename_i hk
  exact ⟨fun _ => ⟨(Prod.mk.inj hw).1, (Prod.mk.inj hw).2⟩, fun e => absurd hk e⟩
 ·rename_i hk
  have h1 : posQ p.cells o.data = i := by have := (Prod.mk.inj hw).1; omega
  exact ⟨fun e => absurd e hk, fun _ => ⟨h1, by rw [← h1]; exact (Prod.mk.inj hw).2⟩⟩
theorem used_some {l : List PCell} {i : Nat} {x : PCell} (hx : l[i]? = some x) : usedAt l (i : Int) = x.used := by
 unfold usedAt
 rw [if_pos (by omega), Int.toNat_natCast, hx]
theorem may_heap' {p : Pag} {l : List PCell} (hk : p.kind = 1) : mayQ { p with cells := l } = true ↔ cellsP l ∧ heapP l := may_heap (p := { p with cells := l }) hk
theorem may_leaf' {p : Pag} {l : List PCell} (hk : p.kind = 2) : mayQ { p with cells := l } = true ↔ cellsP l ∧ leafP l := may_leaf (p := { p with cells := l }) hk
theorem do_may {p q : Pag} {o : POp} (h : doQ p o = (q, 0)) : mayQ q = true := by
 obtain ⟨hm, hr, hd⟩ := do_ok h
 rcases hr.1 with hk | hk
 ·obtain ⟨hc, hs⟩ := (may_heap hk).1 hm
  cases hd with
  | put i hi hw ho hq hc2 =>
   subst hq
   refine (may_heap' hk).2 ⟨hc2, ?_⟩
   show heapP (putC p.kind p.cells i o.data)
   unfold putC
   split
   ·rename_i e
    obtain rfl : i = p.cells.length := by omega
    rw [List.take_length, List.drop_length]
    exact heap_snoc rfl
   ·exact heap_set rfl hs
  | mark i x hx hw ho hq =>
   subst hq
   have hu : x.used = true := by
    have := ((where_kind hw).1 hk)
    rw [this.1, used_some hx] at this; exact this.2
   exact (may_heap' hk).2 ⟨cells_set (y := ⟨x.used, o.txn, x.data⟩) hx hc ⟨fun _ => (hc.1 i x hx).1 hu, fun e => by rw [hu] at e; cases e⟩ (Nat.le_refl _), heap_set hu hs⟩
  | free i x hx hw ho hq =>
   subst hq
   refine (may_heap' hk).2 ⟨?_, ?_⟩
   ·show cellsP (freeC p.kind p.cells i)
    rw [freeC, if_neg (by omega)]
    exact cells_sub (List.take_sublist ..) (sizeS_take_le _ _) (cells_set hx hc okCell_z (by rw [sizeC_z]; exact sizeC_pos x))
   ·show heapP (freeC p.kind p.cells i)
    rw [freeC, if_neg (by omega)]
    exact heap_trim _ _ (by rw [List.length_set]; exact Nat.le_refl _)
 ·obtain ⟨hc, hs⟩ := (may_leaf hk).1 hm
  cases hd with
  | put i hi hw ho hq hc2 =>
   subst hq
   refine (may_leaf' hk).2 ⟨hc2, ?_⟩
   show leafP (putC p.kind p.cells i o.data)
   rw [putC, if_pos (.inl hk)]
   obtain ⟨h1, h2⟩ := (where_kind hw).2 (by omega)
   obtain ⟨A, B, e, hp, hA, hB⟩ := leaf_split (d := o.data) hs.2
   rw [h1] at hp hB
   subst hp
   rcases hB with ⟨_, hB⟩ | ⟨c, B', _, _, hB, _⟩
   ·rw [e] at hs ⊢
    rw [List.take_left, List.drop_left]
    exact leaf_ins hs rfl hA hB
   ·rw [h2] at hB; cases hB
  | mark i x hx hw ho hq =>
   subst hq
   have hu : x.used = true := hs.1 x (List.mem_of_getElem? hx)
   exact (may_leaf' hk).2 ⟨cells_set (y := ⟨x.used, o.txn, x.data⟩) hx hc ⟨fun _ => (hc.1 i x hx).1 hu, fun e => by rw [hu] at e; cases e⟩ (Nat.le_refl _), leaf_set hx _ hs⟩
  | free i x hx hw ho hq =>
   subst hq
   have hsub : (p.cells.take i ++ p.cells.drop (i + 1)).Sublist p.cells := List.eraseIdx_eq_take_drop_succ p.cells i ▸ List.eraseIdx_sublist ..
   refine (may_leaf' hk).2 ⟨?_, ?_⟩
   ·show cellsP (freeC p.kind p.cells i)
    rw [freeC, if_pos hk]
    exact cells_sub hsub (sizeS_erase _ _) hc
   ·show leafP (freeC p.kind p.cells i)
    rw [freeC, if_pos hk]
    exact ⟨fun y hy => hs.1 y (hsub.subset hy), hs.2.sublist hsub⟩
end Go.Proofs.YtkdngpiiecmpgaaGreat.Pg
