/-
 Pages: which may be. Conditions: each theorem's own.
-/
import Derived.Test.YtijbhgiigddjdaaGreatPC4
set_option linter.unusedVariables false
set_option linter.unusedSimpArgs false
set_option maxRecDepth 10000
set_option maxHeartbeats 16000000
namespace Go.Proofs.YtijbhgiigddjdaaGreat.Pg
open Go.K

def okCell (x : PCell) : Prop := (x.used = true → 1 ≤ x.data.length ∧ x.data.length ≤ 180) ∧ (x.used = false → x.killer = 0 ∧ x.data.length = 0)
instance (x : PCell) : Decidable (okCell x) := by unfold okCell; infer_instance
def cellsP (l : List PCell) : Prop := (∀ (i : Nat) x, l[i]? = some x → okCell x) ∧ l.length ≤ 60 ∧ sizeQ l ≤ 512
def cellsQ (l : List PCell) : Bool := l.all (fun x => decide (okCell x)) && decide (l.length ≤ 60) && decide (sizeQ l ≤ 512)
theorem cellsQ_iff (l : List PCell) : cellsQ l = true ↔ cellsP l := by
 simp only [cellsQ, cellsP, Bool.and_eq_true, decide_eq_true_eq, List.all_eq_true]
 constructor
 ·rintro ⟨⟨h1, h2⟩, h3⟩
  exact ⟨fun i x hx => h1 x (List.mem_of_getElem? hx), h2, h3⟩
 ·rintro ⟨h1, h2, h3⟩
  refine ⟨⟨fun x hx => ?_, h2⟩, h3⟩
  obtain ⟨i, hi, e⟩ := List.getElem_of_mem hx
  exact h1 i x (by rw [List.getElem?_eq_getElem hi, e])
theorem small_of {l : List PCell} (h1 : ∀ (i : Nat) x, l[i]? = some x → okCell x) (h2 : l.length ≤ 61) : small l := ⟨by omega, fun x hx => by
 obtain ⟨i, hi, e⟩ := List.getElem_of_mem hx
 have := h1 i x (by rw [List.getElem?_eq_getElem hi, e])
 unfold okCell at this
 cases hu : x.used with
 | true => have := this.1 hu; omega
 | false => have := this.2 hu; omega⟩
theorem PCells (h : Base) (cs : List Value) (p : Pag) (hx : PagC h cs p) : TrV Tryz.prog 85 [.agg cs.toArray] h [] (.bool (cellsQ p.cells)) [] := by
 have hx0 := hx
 obtain ⟨hw, cv, rfl, es, hv, hel, hr⟩ := hx
 have hlen := hw.len
 obtain ⟨ao, ca, rfl⟩ := hv.len
 rw [hel] at hv hx0 ⊢
 have hcq := cellsQ_iff p.cells
 have hsz : small p.cells → _ := PSize h _ p hx0
 refine K.en Tryz.func85 fun F => ?_
 generalize hpl : p.cells = l at *
 (repeat' first | refine X.rq ?_ | refine X.rc ?_ ?_ <;> intro hc <;> try omega)
 refine K.l_box rfl rfl rfl (fun B => ?_)
 (repeat' first | refine X.rq ?_ | refine X.rc ?_ ?_ <;> intro hc <;> try omega)
 have no : ∀ (i : Nat) x, l[i]? = some x → ¬ okCell x → ∀ E, AT Tryz.prog Tryz.f85.ntmps (K.post Tryz.prog Tryz.f85 fun v w' => ∃ h' H', h.le h' ∧ (v = Value.bool (cellsQ l) ∧ h' = h ∧ H' = []) ∧ Ok h' (H' ++ F) w') .ret ((2, .bool false) :: E) h (blk B 41 (cP p (.slice ao l.length ca)) :: F) := fun i x h1 h2 E => by
  rw [show cellsQ l = false by
   cases hq : cellsQ l with
   | false => rfl
   | true => exact absurd ((hcq.1 hq).1 i x h1) h2]
  refine K.AT.drop ?_
  refine K.dl rfl (H' := []) rfl ⟨rfl, rfl, rfl⟩
 refine K.c_loop (σ := Nat) (fun j => [(1, .pointer (some ⟨B, 0, none⟩)), (6, .slice ao l.length ca), (7, .int .i64 l.length), (8, .int .i64 j)]) (fun _ => h) (fun _ => blk B 41 (cP p (.slice ao l.length ca)) :: F) (fun j => j ≤ l.length ∧ ∀ (i : Nat) x, i < j → l[i]? = some x → okCell x) (fun j => l.length - j) 0 ⟨Nat.zero_le _, fun i x hi => by omega⟩ (by repeat (first | exact K.Sub.nil _ | refine K.Sub.cons rfl ?_)) rfl rfl ?_
 rintro j ⟨hj, hyes⟩ KL hKL
 by_cases hjl : j < l.length
 ·have hc1 : es[j]? = some (es[j]'(by omega)) := List.getElem?_eq_getElem (by omega)
  have hc0 : es[((j : Nat) : Int).toNat]? = some (es[j]'(by omega)) := by rw [Int.toNat_natCast]; exact hc1
  have he1 : l[j]? = some l[j] := List.getElem?_eq_getElem hjl
  generalize es[j]'(by omega) = c at hc0 hc1
  generalize l[j] = x at he1
  obtain ⟨hkl, hdl, ao3, ca3, rfl, hbv⟩ := hr j c x hc1 he1
  have hok : okCell x ↔ (x.used = true → 1 ≤ x.data.length ∧ x.data.length ≤ 180) ∧ (x.used = false → x.killer = 0 ∧ x.data.length = 0) := Iff.rfl
  have nx := no j x he1
  have yx : okCell x → ∀ (i : Nat) y, i < j + 1 → l[i]? = some y → okCell y := fun ho i y hi h2 => by
   by_cases hij : i < j
   ·exact hyes i y hij h2
   ·obtain rfl : i = j := by omega
    rw [he1] at h2; cases h2; exact ho
  cases hu : x.used with
  | true =>
   simp only [hu, true_implies, reduceCtorEq, false_implies, and_true] at hok
   rw [hu] at hc0
   (repeat' first | refine X.rq ?_ | refine X.rc ?_ ?_ <;> intro hc <;> try omega)
   refine K.s_pureE (K.p_indexL hv (Fx.und rfl) (Fx.sz rfl) rfl rfl (by omega) hc0) rfl ?_
   rintro v2 ⟨b, o, rfl, hcel⟩
   refine K.s_pure (K.p_loadM (Fx.agg rfl) rfl (Cels.up hcel) (Fx.sz rfl) rfl) rfl ?_
   refine K.l_alloc (Fx.zr rfl) rfl rfl (fun B => ?_)
   refine X.stw ?_
   (repeat' first | refine X.rq ?_ | refine X.rc ?_ ?_ <;> intro hc <;> try omega)
   all_goals refine K.AT.drop ?_
   all_goals first
    | exact nx (fun e => by have := hok.1 e; omega) _
    | exact K.a_round hKL (j + 1) ⟨by omega, yx (hok.2 ⟨by omega, by omega⟩)⟩ (by repeat (first | exact K.Sub.nil _ | refine K.Sub.cons rfl ?_)) rfl rfl (by omega)
  | false =>
   simp only [hu, true_implies, reduceCtorEq, false_implies, true_and, Bool.false_eq_true] at hok
   rw [hu] at hc0
   (repeat' first | refine X.rq ?_ | refine X.rc ?_ ?_ <;> intro hc <;> try omega)
   refine K.s_pureE (K.p_indexL hv (Fx.und rfl) (Fx.sz rfl) rfl rfl (by omega) hc0) rfl ?_
   rintro v2 ⟨b, o, rfl, hcel⟩
   refine K.s_pure (K.p_loadM (Fx.agg rfl) rfl (Cels.up hcel) (Fx.sz rfl) rfl) rfl ?_
   refine K.l_alloc (Fx.zr rfl) rfl rfl (fun B => ?_)
   refine X.stw ?_
   (repeat' first | refine X.rq ?_ | refine X.rc ?_ ?_ <;> intro hc <;> try omega)
   all_goals refine K.AT.drop ?_
   all_goals first
    | exact nx (fun e => by have := hok.1 e; omega) _
    | exact K.a_round hKL (j + 1) ⟨by omega, yx (hok.2 ⟨by omega, by omega⟩)⟩ (by repeat (first | exact K.Sub.nil _ | refine K.Sub.cons rfl ?_)) rfl rfl (by omega)
 ·obtain rfl : j = l.length := by omega
  have hall : ∀ (i : Nat) x, l[i]? = some x → okCell x := fun i x hi => hyes i x (List.getElem?_eq_some_iff.1 hi).1 hi
  by_cases h60 : l.length ≤ 60
  ·have hsm := small_of hall (by omega)
   rw [show cellsQ l = decide (sizeQ l ≤ 512) by rw [Bool.eq_iff_iff, hcq, decide_eq_true_iff]; exact ⟨fun e => e.2.2, fun e => ⟨hall, h60, e⟩⟩]
   (repeat' first | refine X.rq ?_ | refine X.rc ?_ ?_ <;> intro hc <;> try omega)
   refine K.l_callV (Fx.cal rfl) rfl (hsz hsm) (K.pp [] rfl) rfl rfl ?_
   simp only [List.nil_append]
   (repeat' first | refine X.rq ?_ | refine X.rc ?_ ?_ <;> intro hc <;> try omega)
   refine K.AT.drop ?_
   refine K.dl rfl (H' := []) rfl ⟨?_, rfl, rfl⟩
   show Value.bool _ = Value.bool _
   congr 1
   rw [decide_eq_decide]; omega
  ·rw [show cellsQ l = false by
    cases hq : cellsQ l with
    | false => rfl
    | true => exact absurd (hcq.1 hq).2.1 h60]
   (repeat' first | refine X.rq ?_ | refine X.rc ?_ ?_ <;> intro hc <;> try omega)
   refine K.AT.drop ?_
   refine K.dl rfl (H' := []) rfl ⟨rfl, rfl, rfl⟩
/-! ### What cells are ordered by -/
def keyQ (kind : Int) (x : PCell) : List UInt8 := if kind = 3 then x.data.take (x.data.length - 4) else x.data
theorem Key (h : Base) (kind : Int) (c : List Value) (x : PCell) (hx : CellC h c x) (h4 : kind = 3 → 4 ≤ x.data.length) : Tr Tryz.prog 87 [.int .i64 kind, .agg c.toArray] h [] (fun v h' H' => h' = h ∧ H' = [] ∧ BV h v (keyQ kind x)) := by
 obtain ⟨hkl, hdl, ao3, ca3, rfl, hbv⟩ := hx
 refine K.en Tryz.func87 fun F => ?_
 (repeat' first | refine X.rq ?_ | refine X.rc ?_ ?_ <;> intro hc <;> try omega)
 refine K.l_box rfl rfl rfl (fun B => ?_)
 (repeat' first | refine X.rq ?_ | refine X.rc ?_ ?_ <;> intro hc <;> try omega)
 ·have h3 := hc
  have h5 := h4 h3
  rw [keyQ, if_pos h3]
  refine K.s_pureE (K.p_sliceB (k1 := .i64) (p := 0) (q := x.data.length - 4) hbv (Fx.und rfl) (Fx.sz rfl) rfl rfl ⟨_, rfl, by omega⟩ (by omega) (by omega)) rfl ?_
  intro v2 hv2
  (repeat' first | refine X.rq ?_ | refine X.rc ?_ ?_ <;> intro hc <;> try omega)
  refine K.AT.drop ?_
  refine K.dl rfl (H' := []) rfl ⟨rfl, rfl, by simpa [packV] using hv2⟩
 ·rw [keyQ, if_neg hc]
  refine K.AT.drop ?_
  refine K.dl rfl (H' := []) rfl ⟨rfl, rfl, hbv⟩
theorem BCompare (h : Base) (v u : Value) (a b : List UInt8) (hv : BV h v a) (hu : BV h u b) : TrV Tryz.prog 86 [v, u] h [] (.int .i64 (Lib.compareBytes a b)) [] := by
 refine K.en Tryz.func86 fun F => ?_
 simp only [List.nil_append]
 (repeat' first | refine X.rq ?_ | refine X.rc ?_ ?_ <;> intro hc <;> try omega)
 refine K.s_pure (K.p_extP (K.ext_cmpB Tryz.func115 (by kernel_rfl) (by kernel_rfl) (by kernel_rfl) (by kernel_rfl) hv hu) rfl) rfl ?_
 (repeat' first | refine X.rq ?_ | refine X.rc ?_ ?_ <;> intro hc <;> try omega)
 refine K.dl rfl (H' := []) rfl ⟨rfl, rfl, rfl⟩
/-! ### May -/
def ltPrev (p : Pag) (i : Nat) (x : PCell) : Bool := match p.cells[i - 1]? with
 | some y => decide (Lib.compareBytes (keyQ p.kind y) (keyQ p.kind x) < 0)
 | none => true
def cellP (p : Pag) (i : Nat) (x : PCell) : Prop := okCell x ∧ (p.kind = 1 → i + 1 = p.cells.length → x.used = true) ∧ (p.kind ≠ 1 → x.used = true ∧ (p.kind = 3 → x.killer = 0 ∧ 5 ≤ x.data.length) ∧ (0 < i → ltPrev p i x = true))
theorem cell_iff (p : Pag) (i : Nat) (x : PCell) : cellP p i x ↔ okCell x ∧ (p.kind = 1 → i + 1 = p.cells.length → x.used = true) ∧ (p.kind ≠ 1 → x.used = true ∧ (p.kind = 3 → x.killer = 0 ∧ 5 ≤ x.data.length) ∧ (0 < i → ltPrev p i x = true)) := Iff.rfl
instance (p : Pag) (i : Nat) (x : PCell) : Decidable (cellP p i x) := by unfold cellP; infer_instance
def mayP (p : Pag) : Prop := (1 ≤ p.kind ∧ p.kind ≤ 3) ∧ p.cells.length ≤ 60 ∧ (∀ (i : Nat) x, p.cells[i]? = some x → cellP p i x) ∧ sizeQ p.cells ≤ 512
def cellB (p : Pag) (i : Nat) : Bool := match p.cells[i]? with
 | some x => decide (cellP p i x)
 | none => true
def mayQ (p : Pag) : Bool := decide (1 ≤ p.kind ∧ p.kind ≤ 3) && decide (p.cells.length ≤ 60) && (List.range p.cells.length).all (cellB p) && decide (sizeQ p.cells ≤ 512)
theorem mayQ_iff (p : Pag) : mayQ p = true ↔ mayP p := by
 simp only [mayQ, mayP, Bool.and_eq_true, decide_eq_true_eq, List.all_eq_true, List.mem_range]
 constructor
 ·rintro ⟨⟨⟨h1, h2⟩, h3⟩, h4⟩
  refine ⟨h1, h2, fun i x hi => ?_, h4⟩
  have := h3 i (List.getElem?_eq_some_iff.1 hi).1
  rw [cellB, hi] at this
  exact of_decide_eq_true this
 ·rintro ⟨h1, h2, h3, h4⟩
  refine ⟨⟨⟨h1, h2⟩, fun i hi => ?_⟩, h4⟩
  rw [cellB, List.getElem?_eq_getElem hi]
  exact decide_eq_true (h3 i _ (List.getElem?_eq_getElem hi))
theorem may_no {p : Pag} {i : Nat} {x : PCell} (hx : p.cells[i]? = some x) (hn : ¬ cellP p i x) : mayQ p = false := by
 cases h : mayQ p with
 | false => rfl
 | true => exact absurd (((mayQ_iff p).1 h).2.2.1 i x hx) hn
theorem may_cells {p : Pag} (h : mayQ p = true) : cellsQ p.cells = true := by
 obtain ⟨_, h2, h3, h4⟩ := (mayQ_iff p).1 h
 exact (cellsQ_iff _).2 ⟨fun i x hx => (h3 i x hx).1, h2, h4⟩
theorem may_false {p : Pag} (h : ¬ mayP p) : mayQ p = false := by
 cases hm : mayQ p with
 | false => rfl
 | true => exact absurd ((mayQ_iff p).1 hm) h
theorem PMay (h : Base) (cs : List Value) (p : Pag) (hx : PagC h cs p) : TrV Tryz.prog 45 [.agg cs.toArray] h [] (.bool (mayQ p)) [] := by
  have hx0 := hx
  obtain ⟨hw, cv, rfl, es, hv, hel, hr⟩ := hx
  have hlen := hw.len
  obtain ⟨ao, ca, rfl⟩ := hv.len
  rw [hel] at hv hx0 ⊢
  have hpc := PCells h _ p hx0
  have hcq := cellsQ_iff p.cells
  have hmc := may_cells (p := p)
  refine K.en Tryz.func45 fun F => ?_
  show WC _ _ _ (post _ _ fun v w' => ∃ h' H', h.le h' ∧ (v = Value.bool (mayQ p) ∧ h' = h ∧ H' = []) ∧ Ok h' (H' ++ F) w') _ _ _
  have hpl : p.cells = p.cells := rfl
  generalize hpl' : p.cells = l at hv hr hel hlen hpc hcq hmc ⊢
  replace hpl := hpl'
  clear hpl'
  show WC Tryz.prog _ _ _ _ _ _
  (repeat' first | refine X.rq ?_ | refine X.rc ?_ ?_ <;> intro hc <;> try omega)
  refine K.l_box rfl rfl rfl (fun B => ?_)
  (repeat' first | refine X.rq ?_ | refine X.rc ?_ ?_ <;> intro hc <;> try omega)
  refine K.l_callV (Fx.cal rfl) rfl hpc (K.pp [] rfl) rfl rfl ?_
  simp only [List.nil_append]
  cases hcl : cellsQ l with
  | false =>
    rw [show mayQ p = false by
      cases hm : mayQ p with
      | false => rfl
      | true => rw [hmc hm] at hcl; cases hcl]
    (repeat' first | refine X.rq ?_ | refine X.rc ?_ ?_ <;> intro hc <;> try omega)
    refine K.AT.drop ?_
    refine K.dl rfl (H' := []) rfl ⟨rfl, rfl, rfl⟩
  | true =>
    obtain ⟨hall, h60, h512⟩ := hcq.1 hcl
    have no : ¬ mayP p → ∀ E, AT Tryz.prog Tryz.f45.ntmps (K.post Tryz.prog Tryz.f45 fun v w' => ∃ h' H', h.le h' ∧ (v = Value.bool (mayQ p) ∧ h' = h ∧ H' = []) ∧ Ok h' (H' ++ F) w') .ret ((2, .bool false) :: E) h (blk B 41 (cP p (.slice ao l.length ca)) :: F) := fun hn E => by
      rw [may_false hn]
      refine K.AT.drop ?_
      refine K.dl rfl (H' := []) rfl ⟨rfl, rfl, rfl⟩
    by_cases k1 : p.kind = 1
    · by_cases hl0 : l.length = 0
      · have hl00 : l = [] := List.length_eq_zero_iff.1 hl0
        rw [(mayQ_iff p).2 ⟨by omega, by rw [hpl]; exact h60, by rw [hpl, hl00]; intro i x hi; simp at hi, by rw [hpl]; exact h512⟩]
        (repeat' first | refine X.rq ?_ | refine X.rc ?_ ?_ <;> intro hc <;> try omega)
        refine K.AT.drop ?_
        refine K.dl rfl (H' := []) rfl ⟨rfl, rfl, rfl⟩
      · have hc1 : es[l.length - 1]? = some (es[l.length - 1]'(by omega)) := List.getElem?_eq_getElem (by omega)
        have hc0 : es[((l.length : Int) - 1).toNat]? = some (es[l.length - 1]'(by omega)) := by rw [show ((l.length : Int) - 1).toNat = l.length - 1 by omega]; exact hc1
        have he1 : l[l.length - 1]? = some (l[l.length - 1]'(by omega)) := List.getElem?_eq_getElem (by omega)
        generalize es[l.length - 1]'(by omega) = c at hc0 hc1
        generalize l[l.length - 1]'(by omega) = x at he1
        obtain ⟨hkl, hdl, ao3, ca3, rfl, hbv⟩ := hr _ c x hc1 he1
        have hmx : mayQ p = x.used := by
          rw [Bool.eq_iff_iff, mayQ_iff]
          constructor
          · intro hm
            exact (hm.2.2.1 (l.length - 1) x (by rw [hpl]; exact he1)).2.1 k1 (by rw [hpl]; omega)
          · intro hu
            refine ⟨by omega, by rw [hpl]; exact h60, fun i y hy => ?_, by rw [hpl]; exact h512⟩
            rw [hpl] at hy
            refine ⟨hall i y hy, fun _ e => ?_, fun e => absurd k1 e⟩
            rw [hpl] at e
            rw [show i = l.length - 1 by omega, he1] at hy
            cases hy; exact hu
        rw [hmx]
        (repeat' first | refine X.rq ?_ | refine X.rc ?_ ?_ <;> intro hc <;> try omega)
        refine K.s_pureE (K.p_indexL hv (Fx.und rfl) (Fx.sz rfl) rfl rfl (by omega) hc0) rfl ?_
        rintro v2 ⟨b, o, rfl, hcel⟩
        have hq1 := (Cels.up (K := blk B 41 (cP p (.slice ao l.length ca)) :: F) hcel).1
        (repeat' first | refine X.rq ?_ | refine X.rc ?_ ?_ <;> intro hc <;> try omega)
        refine K.AT.drop ?_
        refine K.dl rfl (H' := []) rfl ⟨rfl, rfl, rfl⟩
    · by_cases k3 : p.kind = 3
      · (repeat' first | refine X.rq ?_ | refine X.rc ?_ ?_ <;> intro hc <;> try omega)
        refine K.c_loop (σ := Nat) (fun j => [(1, .pointer (some ⟨B, 0, none⟩)), (34, .slice ao l.length ca), (35, .int .i64 l.length), (36, .int .i64 j)]) (fun _ => h) (fun _ => blk B 41 (cP p (.slice ao l.length ca)) :: F) (fun j => j ≤ l.length ∧ ∀ (i : Nat) x, i < j → l[i]? = some x → x.killer = 0 ∧ 5 ≤ x.data.length) (fun j => l.length - j) 0 ⟨Nat.zero_le _, fun i x hi => by omega⟩ (by repeat (first | exact K.Sub.nil _ | refine K.Sub.cons rfl ?_)) rfl rfl ?_
        rintro j ⟨hj, hyes⟩ KL hKL
        by_cases hjl : j < l.length
        · have hc1 : es[j]? = some (es[j]'(by omega)) := List.getElem?_eq_getElem (by omega)
          have hc0 : es[((j : Nat) : Int).toNat]? = some (es[j]'(by omega)) := by rw [Int.toNat_natCast]; exact hc1
          have he1 : l[j]? = some l[j] := List.getElem?_eq_getElem hjl
          generalize es[j]'(by omega) = c at hc0 hc1
          generalize l[j] = x at he1
          obtain ⟨hkl, hdl, ao3, ca3, rfl, hbv⟩ := hr j c x hc1 he1
          (repeat' first | refine X.rq ?_ | refine X.rc ?_ ?_ <;> intro hc <;> try omega)
          refine K.s_pureE (K.p_indexL hv (Fx.und rfl) (Fx.sz rfl) rfl rfl (by omega) hc0) rfl ?_
          rintro v2 ⟨b, o, rfl, hcel⟩
          refine K.s_pure (K.p_loadM (Fx.agg rfl) rfl (Cels.up hcel) (Fx.sz rfl) rfl) rfl ?_
          refine K.l_alloc (Fx.zr rfl) rfl rfl (fun B => ?_)
          refine X.stw ?_
          (repeat' first | refine X.rq ?_ | refine X.rc ?_ ?_ <;> intro hc <;> try omega)
          all_goals refine K.AT.drop ?_
          all_goals first
            | exact no (fun hm => by have := ((hm.2.2.1 j x (by rw [hpl]; exact he1)).2.2 k1).2.1 k3; omega) _
            | (refine K.a_round hKL (j + 1) ⟨by omega, fun i y hi h2 => ?_⟩ (by repeat (first | exact K.Sub.nil _ | refine K.Sub.cons rfl ?_)) rfl rfl (by omega)
               by_cases hij : i < j
               · exact hyes i y hij h2
               · obtain rfl : i = j := by omega
                 rw [he1] at h2; cases h2; omega)
        · obtain rfl : j = l.length := by omega
          have h3 : ∀ _ : Unit, p.kind = 3 → ∀ (i : Nat) x, l[i]? = some x → x.killer = 0 ∧ 5 ≤ x.data.length := fun _ _ i x hi => hyes i x (List.getElem?_eq_some_iff.1 hi).1 hi
          clear hKL hyes hj hjl
          (repeat' first | refine X.rq ?_ | refine X.rc ?_ ?_ <;> intro hc <;> try omega)
          refine K.c_loop (σ := Nat) (fun j => [(1, .pointer (some ⟨B, 0, none⟩)), (51, .slice ao l.length ca), (52, .int .i64 l.length), (53, .int .i64 j)]) (fun _ => h) (fun _ => blk B 41 (cP p (.slice ao l.length ca)) :: F) (fun j => j ≤ l.length ∧ ∀ (i : Nat) x, i < j → l[i]? = some x → cellP p i x) (fun j => l.length - j) 0 ⟨Nat.zero_le _, fun i x hi => by omega⟩ (by repeat (first | exact K.Sub.nil _ | refine K.Sub.cons rfl ?_)) rfl rfl ?_
          rintro j ⟨hj, hyes⟩ KL hKL
          by_cases hjl : j < l.length
          · have hc1 : es[j]? = some (es[j]'(by omega)) := List.getElem?_eq_getElem (by omega)
            have hc0 : es[((j : Nat) : Int).toNat]? = some (es[j]'(by omega)) := by rw [Int.toNat_natCast]; exact hc1
            have he1 : l[j]? = some l[j] := List.getElem?_eq_getElem hjl
            generalize es[j]'(by omega) = c at hc0 hc1
            generalize l[j] = x at he1
            have hcc := hr j c x hc1 he1
            obtain ⟨hkl, hdl, ao3, ca3, rfl, hbv⟩ := hcc
            have hox := hall j x he1
            have h3x : ∀ _ : Unit, p.kind = 3 → x.killer = 0 ∧ 5 ≤ x.data.length := fun _ e => h3 () e j x he1
            have yx : cellP p j x → ∀ (i : Nat) y, i < j + 1 → l[i]? = some y → cellP p i y := fun ho i y hi h2 => by
              by_cases hij : i < j
              · exact hyes i y hij h2
              · obtain rfl : i = j := by omega
                rw [he1] at h2; cases h2; exact ho
            cases hu : x.used with
            | false =>
              have hn : ¬ cellP p j x := fun e => by have := (e.2.2 (by omega)).1; rw [hu] at this; cases this
              rw [hu] at hc0
              (repeat' first | refine X.rq ?_ | refine X.rc ?_ ?_ <;> intro hc <;> try omega)
              refine K.s_pureE (K.p_indexL hv (Fx.und rfl) (Fx.sz rfl) rfl rfl (by omega) hc0) rfl ?_
              rintro v2 ⟨b, o, rfl, hcel⟩
              refine K.s_pure (K.p_loadM (Fx.agg rfl) rfl (Cels.up hcel) (Fx.sz rfl) rfl) rfl ?_
              refine K.l_alloc (Fx.zr rfl) rfl rfl (fun B5 => ?_)
              (repeat' first | refine X.rq ?_ | refine X.rc ?_ ?_ <;> intro hc <;> try omega)
              refine X.stw ?_
              (repeat' first | refine X.rq ?_ | refine X.rc ?_ ?_ <;> intro hc <;> try omega)
              refine X.draw ([blk B5 120 [.bool false, .int .u32 x.killer, .slice ao3 x.data.length ca3], blk B 41 (cP p (.slice ao l.length ca))]) [] (.pu 0 (.st 1 (.pu 2 (.pu 3 (.pu 4 (.pu 5 (.pu 6 (.pu 7 (.pu 9 (.pu 11 (.pu 12 (.pu 16 (.st 8 (.st 10 (.pu 13 (.st 14 (.st 17 (.st 18 (.on 15 (.on 19 (.on 20 (.pu 21 (.pu 22 (.pu 23 .nil)))))))))))))))))))))))) ?_
              refine X.u_fa ?_
              refine X.s_ld ?_
              refine X.u_nt ?_
              refine X.u_mv ?_
              refine X.g_mv ?_
              refine X.g_bgtr ?_
              refine X.g_mv ?_
              refine X.g_fa ?_
              refine X.g_fa ?_
              refine X.g_mv ?_
              refine X.g_bsub ?_
              refine X.g_fa ?_
              refine X.h_ld ?_
              refine X.h_ld ?_
              refine X.g_ia ?_
              refine X.h_ld ?_
              refine X.h_ld ?_
              refine X.h_ld ?_
              refine K.d_on rfl (fun KK hKK => ?_)
              first | refine K.s_skip rfl rfl rfl ?_ | refine K.s_skipU rfl rfl rfl rfl ?_
              refine K.l_nil ?_
              refine X.onE hKK ?_
              refine K.d_on rfl (fun KK hKK => ?_)
              first | refine K.s_skip rfl rfl rfl ?_ | refine K.s_skipU rfl rfl rfl rfl ?_
              refine K.l_nil ?_
              refine X.onE hKK ?_
              refine K.d_on rfl (fun KK hKK => ?_)
              first | refine K.s_skip rfl rfl rfl ?_ | refine K.s_skipU rfl rfl rfl rfl ?_
              refine K.l_nil ?_
              refine X.onE hKK ?_
              refine X.g_bgeq ?_
              refine X.g_pk ?_
              refine X.u_pk ?_
              refine K.d_nil ?_
              (repeat' first | refine X.rq ?_ | refine X.rc ?_ ?_ <;> intro hc <;> try omega)
              rw [may_no (by rw [hpl]; exact he1) hn]
              refine K.AT.sel [0, 0] rfl ?_
              refine K.dl rfl (H' := []) rfl ⟨rfl, rfl, rfl⟩
            | true =>
              rw [hu] at hc0
              have hcx2 : CellC h [.bool true, .int .u32 x.killer, .slice ao3 x.data.length ca3] x := ⟨hkl, hdl, ao3, ca3, by rw [hu], hbv⟩
              (repeat' first | refine X.rq ?_ | refine X.rc ?_ ?_ <;> intro hc <;> try omega)
              refine K.s_pureE (K.p_indexL hv (Fx.und rfl) (Fx.sz rfl) rfl rfl (by omega) hc0) rfl ?_
              rintro v2 ⟨b, o, rfl, hcel⟩
              refine K.s_pure (K.p_loadM (Fx.agg rfl) rfl (Cels.up hcel) (Fx.sz rfl) rfl) rfl ?_
              refine K.l_alloc (Fx.zr rfl) rfl rfl (fun B5 => ?_)
              (repeat' first | refine X.rq ?_ | refine X.rc ?_ ?_ <;> intro hc <;> try omega)
              refine X.stw ?_
              (repeat' first | refine X.rq ?_ | refine X.rc ?_ ?_ <;> intro hc <;> try omega)
              by_cases hj0 : 0 < j
              · have hd1 : es[j - 1]? = some (es[j - 1]'(by omega)) := List.getElem?_eq_getElem (by omega)
                have hd0 : es[((j : Int) - 1).toNat]? = some (es[j - 1]'(by omega)) := by rw [show ((j : Int) - 1).toNat = j - 1 by omega]; exact hd1
                have hy1 : l[j - 1]? = some (l[j - 1]'(by omega)) := List.getElem?_eq_getElem (by omega)
                generalize es[j - 1]'(by omega) = c2 at hd0 hd1
                generalize l[j - 1]'(by omega) = y at hy1
                have hcc2 := hr _ c2 y hd1 hy1
                have h3y : ∀ _ : Unit, p.kind = 3 → y.killer = 0 ∧ 5 ≤ y.data.length := fun _ e => h3 () e _ y hy1
                have hz2 : c2.length = 3 := by obtain ⟨_, _, _, _, e, _⟩ := hcc2; rw [e]; rfl
                have hlp : ltPrev p j x = decide (Lib.compareBytes (keyQ p.kind y) (keyQ p.kind x) < 0) := by rw [ltPrev, hpl, hy1]
                refine X.draw ([blk B5 120 [.bool true, .int .u32 x.killer, .slice ao3 x.data.length ca3], blk B 41 (cP p (.slice ao l.length ca))]) [] (.pu 0 (.st 1 (.pu 2 (.pu 3 (.pu 4 (.pu 5 (.pu 6 (.pu 7 (.pu 9 (.pu 11 (.pu 12 (.pu 16 (.st 8 (.st 10 (.st 13 (.st 14 (.st 17 (.st 18 (.on 15 (.on 19 (.on 20 (.pu 21 (.pu 22 (.pu 23 .nil)))))))))))))))))))))))) ?_
                refine X.u_fa ?_
                refine X.s_ld ?_
                refine X.u_nt ?_
                refine X.u_mv ?_
                refine X.g_mv ?_
                refine X.g_bgtr ?_
                rw [decide_eq_true (show (0 : Int) < (j : Int) by omega)]
                refine X.g_mv ?_
                refine X.g_fa ?_
                refine X.g_fa ?_
                refine X.g_mv ?_
                refine X.g_bsub ?_
                refine X.g_fa ?_
                refine X.h_ld ?_
                refine X.h_ld ?_
                refine K.d_stGE rfl rfl rfl (K.p_indexL hv (Fx.und rfl) (Fx.sz rfl) rfl rfl (by omega) hd0) rfl ?_
                rintro v3 ⟨b3, o3, rfl, hcel3⟩
                refine K.d_stG rfl rfl rfl (K.p_loadM (Fx.agg rfl) rfl (Cels.up hcel3) (Fx.sz rfl) hz2) rfl ?_
                refine X.h_ld ?_
                refine X.h_ld ?_
                refine K.d_on rfl (fun KK hKK => ?_)
                refine K.s_take rfl rfl ?_
                refine K.l_call (Fx.cal rfl) rfl (Key h p.kind c2 y hcc2 (fun e => by have := h3y () e; omega)) (K.pp [] rfl) rfl ?_
                rintro u1 h' H' - ⟨e, rfl, hu1⟩
                obtain rfl := e.symm
                simp only [List.nil_append]
                refine K.l_nil ?_
                refine X.onE hKK ?_
                refine K.d_on rfl (fun KK hKK => ?_)
                refine K.s_take rfl rfl ?_
                refine K.l_call (Fx.cal rfl) rfl (Key h p.kind _ x hcx2 (fun e => by have := h3x () e; omega)) (K.pp [] rfl) rfl ?_
                rintro u2 h' H' - ⟨e, rfl, hu2⟩
                obtain rfl := e.symm
                simp only [List.nil_append]
                refine K.l_nil ?_
                refine X.onE hKK ?_
                refine K.d_on rfl (fun KK hKK => ?_)
                refine K.s_take rfl rfl ?_
                refine K.l_callV (Fx.cal rfl) rfl (BCompare h u1 u2 _ _ hu1 hu2) (K.pp [] rfl) rfl rfl ?_
                simp only [List.nil_append]
                refine K.l_nil ?_
                refine X.onE hKK ?_
                refine X.g_bgeq ?_
                refine X.g_pk ?_
                refine X.u_pk ?_
                refine K.d_nil ?_
                by_cases hlt : Lib.compareBytes (keyQ p.kind y) (keyQ p.kind x) < 0
                · (repeat' first | refine X.rq ?_ | refine X.rc ?_ ?_ <;> intro hc <;> try omega)
                  refine K.AT.drop ?_
                  refine K.a_round hKL (j + 1) ⟨by omega, yx ((cell_iff p j x).2 ⟨hox, fun e => absurd e k1, fun _ => ⟨hu, h3x (), fun _ => by rw [hlp]; exact decide_eq_true hlt⟩⟩)⟩ (by repeat (first | exact K.Sub.nil _ | refine K.Sub.cons rfl ?_)) rfl rfl (by omega)
                · (repeat' first | refine X.rq ?_ | refine X.rc ?_ ?_ <;> intro hc <;> try omega)
                  rw [may_no (by rw [hpl]; exact he1) (fun e => hlt (by
                    have := (e.2.2 k1).2.2 hj0
                    rw [hlp] at this
                    exact of_decide_eq_true this))]
                  refine K.AT.sel [0, 0] rfl ?_
                  refine K.dl rfl (H' := []) rfl ⟨rfl, rfl, rfl⟩
              · refine X.draw ([blk B5 120 [.bool true, .int .u32 x.killer, .slice ao3 x.data.length ca3], blk B 41 (cP p (.slice ao l.length ca))]) [] (.pu 0 (.st 1 (.pu 2 (.pu 3 (.pu 4 (.pu 5 (.pu 6 (.pu 7 (.pu 9 (.pu 11 (.pu 12 (.pu 16 (.st 8 (.st 10 (.pu 13 (.st 14 (.st 17 (.st 18 (.on 15 (.on 19 (.on 20 (.pu 21 (.pu 22 (.pu 23 .nil)))))))))))))))))))))))) ?_
                refine X.u_fa ?_
                refine X.s_ld ?_
                refine X.u_nt ?_
                refine X.u_mv ?_
                refine X.g_mv ?_
                refine X.g_bgtr ?_
                rw [decide_eq_false (show ¬ (0 : Int) < (j : Int) by omega)]
                refine X.g_mv ?_
                refine X.g_fa ?_
                refine X.g_fa ?_
                refine X.g_mv ?_
                refine X.g_bsub ?_
                refine X.g_fa ?_
                refine X.h_ld ?_
                refine X.h_ld ?_
                refine X.g_ia ?_
                refine X.h_ld ?_
                refine X.h_ld ?_
                refine X.h_ld ?_
                refine K.d_on rfl (fun KK hKK => ?_)
                first | refine K.s_skip rfl rfl rfl ?_ | refine K.s_skipU rfl rfl rfl rfl ?_
                refine K.l_nil ?_
                refine X.onE hKK ?_
                refine K.d_on rfl (fun KK hKK => ?_)
                first | refine K.s_skip rfl rfl rfl ?_ | refine K.s_skipU rfl rfl rfl rfl ?_
                refine K.l_nil ?_
                refine X.onE hKK ?_
                refine K.d_on rfl (fun KK hKK => ?_)
                first | refine K.s_skip rfl rfl rfl ?_ | refine K.s_skipU rfl rfl rfl rfl ?_
                refine K.l_nil ?_
                refine X.onE hKK ?_
                refine X.g_bgeq ?_
                refine X.g_pk ?_
                refine X.u_pk ?_
                refine K.d_nil ?_
                (repeat' first | refine X.rq ?_ | refine X.rc ?_ ?_ <;> intro hc <;> try omega)
                refine K.AT.drop ?_
                refine K.a_round hKL (j + 1) ⟨by omega, yx ((cell_iff p j x).2 ⟨hox, fun e => absurd e k1, fun _ => ⟨hu, h3x (), fun e => absurd e hj0⟩⟩)⟩ (by repeat (first | exact K.Sub.nil _ | refine K.Sub.cons rfl ?_)) rfl rfl (by omega)
          · obtain rfl : j = l.length := by omega
            rw [(mayQ_iff p).2 ⟨by omega, by rw [hpl]; exact h60, by rw [hpl]; exact fun i x hi => hyes i x (List.getElem?_eq_some_iff.1 hi).1 hi, by rw [hpl]; exact h512⟩]
            (repeat' first | refine X.rq ?_ | refine X.rc ?_ ?_ <;> intro hc <;> try omega)
            refine K.AT.drop ?_
            refine K.dl rfl (H' := []) rfl ⟨rfl, rfl, rfl⟩
      · have h3 : ∀ _ : Unit, p.kind = 3 → ∀ (i : Nat) x, l[i]? = some x → x.killer = 0 ∧ 5 ≤ x.data.length := fun _ e => absurd e k3
        by_cases k2 : p.kind = 2
        · (repeat' first | refine X.rq ?_ | refine X.rc ?_ ?_ <;> intro hc <;> try omega)
          refine K.c_loop (σ := Nat) (fun j => [(1, .pointer (some ⟨B, 0, none⟩)), (51, .slice ao l.length ca), (52, .int .i64 l.length), (53, .int .i64 j)]) (fun _ => h) (fun _ => blk B 41 (cP p (.slice ao l.length ca)) :: F) (fun j => j ≤ l.length ∧ ∀ (i : Nat) x, i < j → l[i]? = some x → cellP p i x) (fun j => l.length - j) 0 ⟨Nat.zero_le _, fun i x hi => by omega⟩ (by repeat (first | exact K.Sub.nil _ | refine K.Sub.cons rfl ?_)) rfl rfl ?_
          rintro j ⟨hj, hyes⟩ KL hKL
          by_cases hjl : j < l.length
          · have hc1 : es[j]? = some (es[j]'(by omega)) := List.getElem?_eq_getElem (by omega)
            have hc0 : es[((j : Nat) : Int).toNat]? = some (es[j]'(by omega)) := by rw [Int.toNat_natCast]; exact hc1
            have he1 : l[j]? = some l[j] := List.getElem?_eq_getElem hjl
            generalize es[j]'(by omega) = c at hc0 hc1
            generalize l[j] = x at he1
            have hcc := hr j c x hc1 he1
            obtain ⟨hkl, hdl, ao3, ca3, rfl, hbv⟩ := hcc
            have hox := hall j x he1
            have h3x : ∀ _ : Unit, p.kind = 3 → x.killer = 0 ∧ 5 ≤ x.data.length := fun _ e => h3 () e j x he1
            have yx : cellP p j x → ∀ (i : Nat) y, i < j + 1 → l[i]? = some y → cellP p i y := fun ho i y hi h2 => by
              by_cases hij : i < j
              · exact hyes i y hij h2
              · obtain rfl : i = j := by omega
                rw [he1] at h2; cases h2; exact ho
            cases hu : x.used with
            | false =>
              have hn : ¬ cellP p j x := fun e => by have := (e.2.2 (by omega)).1; rw [hu] at this; cases this
              rw [hu] at hc0
              (repeat' first | refine X.rq ?_ | refine X.rc ?_ ?_ <;> intro hc <;> try omega)
              refine K.s_pureE (K.p_indexL hv (Fx.und rfl) (Fx.sz rfl) rfl rfl (by omega) hc0) rfl ?_
              rintro v2 ⟨b, o, rfl, hcel⟩
              refine K.s_pure (K.p_loadM (Fx.agg rfl) rfl (Cels.up hcel) (Fx.sz rfl) rfl) rfl ?_
              refine K.l_alloc (Fx.zr rfl) rfl rfl (fun B5 => ?_)
              (repeat' first | refine X.rq ?_ | refine X.rc ?_ ?_ <;> intro hc <;> try omega)
              refine X.stw ?_
              (repeat' first | refine X.rq ?_ | refine X.rc ?_ ?_ <;> intro hc <;> try omega)
              refine X.draw ([blk B5 120 [.bool false, .int .u32 x.killer, .slice ao3 x.data.length ca3], blk B 41 (cP p (.slice ao l.length ca))]) [] (.pu 0 (.st 1 (.pu 2 (.pu 3 (.pu 4 (.pu 5 (.pu 6 (.pu 7 (.pu 9 (.pu 11 (.pu 12 (.pu 16 (.st 8 (.st 10 (.pu 13 (.st 14 (.st 17 (.st 18 (.on 15 (.on 19 (.on 20 (.pu 21 (.pu 22 (.pu 23 .nil)))))))))))))))))))))))) ?_
              refine X.u_fa ?_
              refine X.s_ld ?_
              refine X.u_nt ?_
              refine X.u_mv ?_
              refine X.g_mv ?_
              refine X.g_bgtr ?_
              refine X.g_mv ?_
              refine X.g_fa ?_
              refine X.g_fa ?_
              refine X.g_mv ?_
              refine X.g_bsub ?_
              refine X.g_fa ?_
              refine X.h_ld ?_
              refine X.h_ld ?_
              refine X.g_ia ?_
              refine X.h_ld ?_
              refine X.h_ld ?_
              refine X.h_ld ?_
              refine K.d_on rfl (fun KK hKK => ?_)
              first | refine K.s_skip rfl rfl rfl ?_ | refine K.s_skipU rfl rfl rfl rfl ?_
              refine K.l_nil ?_
              refine X.onE hKK ?_
              refine K.d_on rfl (fun KK hKK => ?_)
              first | refine K.s_skip rfl rfl rfl ?_ | refine K.s_skipU rfl rfl rfl rfl ?_
              refine K.l_nil ?_
              refine X.onE hKK ?_
              refine K.d_on rfl (fun KK hKK => ?_)
              first | refine K.s_skip rfl rfl rfl ?_ | refine K.s_skipU rfl rfl rfl rfl ?_
              refine K.l_nil ?_
              refine X.onE hKK ?_
              refine X.g_bgeq ?_
              refine X.g_pk ?_
              refine X.u_pk ?_
              refine K.d_nil ?_
              (repeat' first | refine X.rq ?_ | refine X.rc ?_ ?_ <;> intro hc <;> try omega)
              rw [may_no (by rw [hpl]; exact he1) hn]
              refine K.AT.sel [0, 0] rfl ?_
              refine K.dl rfl (H' := []) rfl ⟨rfl, rfl, rfl⟩
            | true =>
              rw [hu] at hc0
              have hcx2 : CellC h [.bool true, .int .u32 x.killer, .slice ao3 x.data.length ca3] x := ⟨hkl, hdl, ao3, ca3, by rw [hu], hbv⟩
              (repeat' first | refine X.rq ?_ | refine X.rc ?_ ?_ <;> intro hc <;> try omega)
              refine K.s_pureE (K.p_indexL hv (Fx.und rfl) (Fx.sz rfl) rfl rfl (by omega) hc0) rfl ?_
              rintro v2 ⟨b, o, rfl, hcel⟩
              refine K.s_pure (K.p_loadM (Fx.agg rfl) rfl (Cels.up hcel) (Fx.sz rfl) rfl) rfl ?_
              refine K.l_alloc (Fx.zr rfl) rfl rfl (fun B5 => ?_)
              (repeat' first | refine X.rq ?_ | refine X.rc ?_ ?_ <;> intro hc <;> try omega)
              refine X.stw ?_
              (repeat' first | refine X.rq ?_ | refine X.rc ?_ ?_ <;> intro hc <;> try omega)
              by_cases hj0 : 0 < j
              · have hd1 : es[j - 1]? = some (es[j - 1]'(by omega)) := List.getElem?_eq_getElem (by omega)
                have hd0 : es[((j : Int) - 1).toNat]? = some (es[j - 1]'(by omega)) := by rw [show ((j : Int) - 1).toNat = j - 1 by omega]; exact hd1
                have hy1 : l[j - 1]? = some (l[j - 1]'(by omega)) := List.getElem?_eq_getElem (by omega)
                generalize es[j - 1]'(by omega) = c2 at hd0 hd1
                generalize l[j - 1]'(by omega) = y at hy1
                have hcc2 := hr _ c2 y hd1 hy1
                have h3y : ∀ _ : Unit, p.kind = 3 → y.killer = 0 ∧ 5 ≤ y.data.length := fun _ e => h3 () e _ y hy1
                have hz2 : c2.length = 3 := by obtain ⟨_, _, _, _, e, _⟩ := hcc2; rw [e]; rfl
                have hlp : ltPrev p j x = decide (Lib.compareBytes (keyQ p.kind y) (keyQ p.kind x) < 0) := by rw [ltPrev, hpl, hy1]
                refine X.draw ([blk B5 120 [.bool true, .int .u32 x.killer, .slice ao3 x.data.length ca3], blk B 41 (cP p (.slice ao l.length ca))]) [] (.pu 0 (.st 1 (.pu 2 (.pu 3 (.pu 4 (.pu 5 (.pu 6 (.pu 7 (.pu 9 (.pu 11 (.pu 12 (.pu 16 (.st 8 (.st 10 (.st 13 (.st 14 (.st 17 (.st 18 (.on 15 (.on 19 (.on 20 (.pu 21 (.pu 22 (.pu 23 .nil)))))))))))))))))))))))) ?_
                refine X.u_fa ?_
                refine X.s_ld ?_
                refine X.u_nt ?_
                refine X.u_mv ?_
                refine X.g_mv ?_
                refine X.g_bgtr ?_
                rw [decide_eq_true (show (0 : Int) < (j : Int) by omega)]
                refine X.g_mv ?_
                refine X.g_fa ?_
                refine X.g_fa ?_
                refine X.g_mv ?_
                refine X.g_bsub ?_
                refine X.g_fa ?_
                refine X.h_ld ?_
                refine X.h_ld ?_
                refine K.d_stGE rfl rfl rfl (K.p_indexL hv (Fx.und rfl) (Fx.sz rfl) rfl rfl (by omega) hd0) rfl ?_
                rintro v3 ⟨b3, o3, rfl, hcel3⟩
                refine K.d_stG rfl rfl rfl (K.p_loadM (Fx.agg rfl) rfl (Cels.up hcel3) (Fx.sz rfl) hz2) rfl ?_
                refine X.h_ld ?_
                refine X.h_ld ?_
                refine K.d_on rfl (fun KK hKK => ?_)
                refine K.s_take rfl rfl ?_
                refine K.l_call (Fx.cal rfl) rfl (Key h p.kind c2 y hcc2 (fun e => by have := h3y () e; omega)) (K.pp [] rfl) rfl ?_
                rintro u1 h' H' - ⟨e, rfl, hu1⟩
                obtain rfl := e.symm
                simp only [List.nil_append]
                refine K.l_nil ?_
                refine X.onE hKK ?_
                refine K.d_on rfl (fun KK hKK => ?_)
                refine K.s_take rfl rfl ?_
                refine K.l_call (Fx.cal rfl) rfl (Key h p.kind _ x hcx2 (fun e => by have := h3x () e; omega)) (K.pp [] rfl) rfl ?_
                rintro u2 h' H' - ⟨e, rfl, hu2⟩
                obtain rfl := e.symm
                simp only [List.nil_append]
                refine K.l_nil ?_
                refine X.onE hKK ?_
                refine K.d_on rfl (fun KK hKK => ?_)
                refine K.s_take rfl rfl ?_
                refine K.l_callV (Fx.cal rfl) rfl (BCompare h u1 u2 _ _ hu1 hu2) (K.pp [] rfl) rfl rfl ?_
                simp only [List.nil_append]
                refine K.l_nil ?_
                refine X.onE hKK ?_
                refine X.g_bgeq ?_
                refine X.g_pk ?_
                refine X.u_pk ?_
                refine K.d_nil ?_
                by_cases hlt : Lib.compareBytes (keyQ p.kind y) (keyQ p.kind x) < 0
                · (repeat' first | refine X.rq ?_ | refine X.rc ?_ ?_ <;> intro hc <;> try omega)
                  refine K.AT.drop ?_
                  refine K.a_round hKL (j + 1) ⟨by omega, yx ((cell_iff p j x).2 ⟨hox, fun e => absurd e k1, fun _ => ⟨hu, h3x (), fun _ => by rw [hlp]; exact decide_eq_true hlt⟩⟩)⟩ (by repeat (first | exact K.Sub.nil _ | refine K.Sub.cons rfl ?_)) rfl rfl (by omega)
                · (repeat' first | refine X.rq ?_ | refine X.rc ?_ ?_ <;> intro hc <;> try omega)
                  rw [may_no (by rw [hpl]; exact he1) (fun e => hlt (by
                    have := (e.2.2 k1).2.2 hj0
                    rw [hlp] at this
                    exact of_decide_eq_true this))]
                  refine K.AT.sel [0, 0] rfl ?_
                  refine K.dl rfl (H' := []) rfl ⟨rfl, rfl, rfl⟩
              · refine X.draw ([blk B5 120 [.bool true, .int .u32 x.killer, .slice ao3 x.data.length ca3], blk B 41 (cP p (.slice ao l.length ca))]) [] (.pu 0 (.st 1 (.pu 2 (.pu 3 (.pu 4 (.pu 5 (.pu 6 (.pu 7 (.pu 9 (.pu 11 (.pu 12 (.pu 16 (.st 8 (.st 10 (.pu 13 (.st 14 (.st 17 (.st 18 (.on 15 (.on 19 (.on 20 (.pu 21 (.pu 22 (.pu 23 .nil)))))))))))))))))))))))) ?_
                refine X.u_fa ?_
                refine X.s_ld ?_
                refine X.u_nt ?_
                refine X.u_mv ?_
                refine X.g_mv ?_
                refine X.g_bgtr ?_
                rw [decide_eq_false (show ¬ (0 : Int) < (j : Int) by omega)]
                refine X.g_mv ?_
                refine X.g_fa ?_
                refine X.g_fa ?_
                refine X.g_mv ?_
                refine X.g_bsub ?_
                refine X.g_fa ?_
                refine X.h_ld ?_
                refine X.h_ld ?_
                refine X.g_ia ?_
                refine X.h_ld ?_
                refine X.h_ld ?_
                refine X.h_ld ?_
                refine K.d_on rfl (fun KK hKK => ?_)
                first | refine K.s_skip rfl rfl rfl ?_ | refine K.s_skipU rfl rfl rfl rfl ?_
                refine K.l_nil ?_
                refine X.onE hKK ?_
                refine K.d_on rfl (fun KK hKK => ?_)
                first | refine K.s_skip rfl rfl rfl ?_ | refine K.s_skipU rfl rfl rfl rfl ?_
                refine K.l_nil ?_
                refine X.onE hKK ?_
                refine K.d_on rfl (fun KK hKK => ?_)
                first | refine K.s_skip rfl rfl rfl ?_ | refine K.s_skipU rfl rfl rfl rfl ?_
                refine K.l_nil ?_
                refine X.onE hKK ?_
                refine X.g_bgeq ?_
                refine X.g_pk ?_
                refine X.u_pk ?_
                refine K.d_nil ?_
                (repeat' first | refine X.rq ?_ | refine X.rc ?_ ?_ <;> intro hc <;> try omega)
                refine K.AT.drop ?_
                refine K.a_round hKL (j + 1) ⟨by omega, yx ((cell_iff p j x).2 ⟨hox, fun e => absurd e k1, fun _ => ⟨hu, h3x (), fun e => absurd e hj0⟩⟩)⟩ (by repeat (first | exact K.Sub.nil _ | refine K.Sub.cons rfl ?_)) rfl rfl (by omega)
          · obtain rfl : j = l.length := by omega
            rw [(mayQ_iff p).2 ⟨by omega, by rw [hpl]; exact h60, by rw [hpl]; exact fun i x hi => hyes i x (List.getElem?_eq_some_iff.1 hi).1 hi, by rw [hpl]; exact h512⟩]
            (repeat' first | refine X.rq ?_ | refine X.rc ?_ ?_ <;> intro hc <;> try omega)
            refine K.AT.drop ?_
            refine K.dl rfl (H' := []) rfl ⟨rfl, rfl, rfl⟩
        · have hno : ¬ mayP p := fun hm => by have := hm.1; omega
          (repeat' first | refine X.rq ?_ | refine X.rc ?_ ?_ <;> intro hc <;> try omega)
          exact no hno _
end Go.Proofs.YtijbhgiigddjdaaGreat.Pg
