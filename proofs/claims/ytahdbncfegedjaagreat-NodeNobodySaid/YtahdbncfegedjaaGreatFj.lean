/-
  Pages: where an operation's cell is. Conditions: each theorem's own.
-/
import Derived.Test.YtahdbncfegedjaaGreatFi

namespace Go.Proofs.YtahdbncfegedjaaGreat.Pg
open Go Go.K Go.Proofs Go.Proofs.YtahdbncfegedjaaGreat
set_option linter.unusedVariables false
set_option linter.unusedSimpArgs false
set_option maxRecDepth 10000

theorem FindC (h : Base) (c : List Value) (x : PCell) (u : Value) (d : List UInt8) (hx : CellC h c x) (hu : BV h u d) : TrV Tryz.prog 107 [.agg c.toArray, u] h [] (.int .i64 (Lib.compareBytes x.data d)) [] := by
  obtain ⟨hkl, hdl, ao3, ca3, rfl, hbv⟩ := hx
  refine K.enter Tryz.func107 rfl (Nat.le_of_ble_eq_true rfl) (fun F => ?_)
  (repeat' (first | refine X.rq ?_ | (refine X.rc ?_ ?_ <;> intro hc <;> first | (exfalso; omega) | skip)))
  refine K.l_box rfl rfl rfl (fun B => ?_)
  (repeat' (first | refine X.rq ?_ | (refine X.rc ?_ ?_ <;> intro hc <;> first | (exfalso; omega) | skip)))
  refine K.l_callV (Fx.cal rfl) rfl (BCompare h _ u _ d hbv hu) (K.pp [] rfl) rfl rfl ?_
  simp only [List.nil_append]
  (repeat' (first | refine X.rq ?_ | (refine X.rc ?_ ?_ <;> intro hc <;> first | (exfalso; omega) | skip)))
  refine K.AT.drop ?_
  refine K.done (by first | exact Or.inl rfl | exact Or.inr rfl) rfl (by first | exact K.Base.le.refl _ | assumption) (H' := []) rfl ⟨rfl, rfl, rfl⟩
theorem BSearch (h : Base) (f : FuncId) (hcal : Callable Tryz.prog f) (v u : Value) (es : List (List Value)) (cmp : Nat → Int) (hv : SL h 3 v es) (hl : es.length ≤ 1000000) (hz : ∀ c ∈ es, c.length = 3)
    (hp : ∀ j cs, es[j]? = some cs → TrV Tryz.prog f [.agg cs.toArray, u] h [] (.int .i64 (cmp j)) []) (hmono : ∀ j k, j ≤ k → k < es.length → 0 ≤ cmp j → 0 ≤ cmp k) :
    Tr Tryz.prog 106 [v, u, .func (.func f) #[] #[]] h []
      (fun w h' H' => h' = h ∧ H' = [] ∧ ∃ (i : Nat) (b : Bool), w = .tuple #[.int .i64 i, .bool b] ∧ i ≤ es.length ∧ (∀ j, j < i → cmp j < 0) ∧ (∀ j, i ≤ j → j < es.length → 0 ≤ cmp j) ∧ b = decide (i < es.length ∧ cmp i = 0)) := by
  obtain ⟨ao, ca, rfl⟩ := hv.len
  refine K.enter Tryz.func106 rfl (Nat.le_of_ble_eq_true rfl) (fun F => ?_)
  simp only [List.nil_append]
  (repeat' (first | refine X.rq ?_ | (refine X.rc ?_ ?_ <;> intro hc <;> first | (exfalso; omega) | skip)))
  refine K.c_loop (σ := Nat × Nat) (fun q => [(0, .slice ao es.length ca), (1, u), (2, .func (.func f) #[] #[]), (8, .int .i64 es.length), (9, .int .i64 q.1), (10, .int .i64 q.2)]) (fun _ => h) (fun _ => F)
    (fun q => q.1 ≤ q.2 ∧ q.2 ≤ es.length ∧ (∀ j, j < q.1 → cmp j < 0) ∧ ∀ j, q.2 ≤ j → j < es.length → 0 ≤ cmp j) (fun q => q.2 - q.1) (0, es.length) ⟨Nat.zero_le _, Nat.le_refl _, fun j hj => absurd hj (Nat.not_lt_zero _), fun j h1 h2 => by dsimp only at h1; omega⟩ (by repeat (first | exact K.Sub.nil _ | refine K.Sub.cons rfl ?_)) rfl rfl ?_
  rintro ⟨i, k⟩ ⟨hik, hkl, hlo, hhi⟩ KL hKL
  dsimp only at hik hkl hlo hhi ⊢
  by_cases hlt : i < k
  · have hm : IntKind.i64.wrap (((i : Int) + (k : Int)).fdiv (2 ^ (min (1 : Int).toNat IntKind.u64.bits))) = (((i + k) / 2 : Nat) : Int) := by
      show IntKind.i64.wrap (((i : Int) + (k : Int)).fdiv 2) = _
      rw [Int.fdiv_eq_ediv_of_nonneg _ (by decide)]
      rw [K.wr_i64 (by omega) (by omega)]
      omega
    have hml : (i + k) / 2 < es.length := by omega
    have hmi : i ≤ (i + k) / 2 ∧ (i + k) / 2 < k := by omega
    have hc1 : es[(i + k) / 2]? = some es[(i + k) / 2] := List.getElem?_eq_getElem hml
    have hc0 : es[(((i + k) / 2 : Nat) : Int).toNat]? = some es[(i + k) / 2] := by rw [Int.toNat_natCast]; exact hc1
    have hzj : es[(i + k) / 2].length = 3 := hz _ (List.getElem_mem hml)
    generalize es[(i + k) / 2] = c at hc0 hc1 hzj
    (repeat' (first | refine X.rq ?_ | (refine X.rc ?_ ?_ <;> intro hc <;> first | (exfalso; omega) | skip)))
    rw [hm]
    generalize (i + k) / 2 = m at hml hmi hc0 hc1
    refine K.s_pureE (K.p_indexL hv (Fx.und rfl) (Fx.sz rfl) rfl rfl (by omega) hc0) rfl ?_
    rintro v2 ⟨b, o, rfl, hcel⟩
    refine K.s_pure (K.p_loadM (Fx.agg rfl) rfl (Cels.up hcel) (Fx.sz rfl) hzj) rfl ?_
    (repeat' (first | refine X.rq ?_ | (refine X.rc ?_ ?_ <;> intro hc <;> first | (exfalso; omega) | skip)))
    refine K.l_callF (vals := [.agg c.toArray, u]) (caps := []) hcal rfl rfl (hp m c hc1) (K.pp [] rfl) rfl ?_
    rintro w h' H' - ⟨rfl, e, rfl⟩
    obtain rfl := e.symm
    simp only [List.nil_append]
    have hmm := hmono m
    generalize hcm : cmp m = cm at hmm
    (repeat' (first | refine X.rq ?_ | (refine X.rc ?_ ?_ <;> intro hc <;> first | (exfalso; omega) | skip)))
    · refine K.a_round hKL (m + 1, k) ⟨by dsimp only; omega, hkl, fun j hj => ?_, hhi⟩ (by repeat (first | exact K.Sub.nil _ | refine K.Sub.cons rfl ?_)) rfl rfl (by dsimp only; omega)
      dsimp only at hj
      by_cases h0 : 0 ≤ cmp j
      · have := hmono j m (by omega) hml h0
        rw [hcm] at this; omega
      · omega
    · refine K.a_round hKL (i, m) ⟨by dsimp only; omega, by dsimp only; omega, hlo, fun j h1 h2 => hmm j h1 h2 (by omega)⟩ (by repeat (first | exact K.Sub.nil _ | refine K.Sub.cons rfl ?_)) rfl rfl (by dsimp only; omega)
  · obtain rfl : i = k := by omega
    by_cases hin : i < es.length
    · have hc1 : es[i]? = some es[i] := List.getElem?_eq_getElem hin
      have hc0 : es[((i : Nat) : Int).toNat]? = some es[i] := by rw [Int.toNat_natCast]; exact hc1
      have hzj : es[i].length = 3 := hz _ (List.getElem_mem hin)
      generalize es[i] = c at hc0 hc1 hzj
      (repeat' (first | refine X.rq ?_ | (refine X.rc ?_ ?_ <;> intro hc <;> first | (exfalso; omega) | skip)))
      refine K.s_pureE (K.p_indexL hv (Fx.und rfl) (Fx.sz rfl) rfl rfl (by omega) hc0) rfl ?_
      rintro v2 ⟨b, o, rfl, hcel⟩
      refine K.s_take rfl rfl ?_
      refine K.s_pure (K.p_loadM (Fx.agg rfl) rfl (Cels.up hcel) (Fx.sz rfl) hzj) rfl ?_
      (repeat' (first | refine X.rq ?_ | (refine X.rc ?_ ?_ <;> intro hc <;> first | (exfalso; omega) | skip)))
      refine K.l_callF (vals := [.agg c.toArray, u]) (caps := []) hcal rfl rfl (hp i c hc1) (K.pp [] rfl) rfl ?_
      rintro w h' H' - ⟨rfl, e, rfl⟩
      obtain rfl := e.symm
      simp only [List.nil_append]
      (repeat' (first | refine X.rq ?_ | (refine X.rc ?_ ?_ <;> intro hc <;> first | (exfalso; omega) | skip)))
      refine K.done (by first | exact Or.inl rfl | exact Or.inr rfl) rfl (by first | exact K.Base.le.refl _ | assumption) (H' := []) rfl ⟨rfl, rfl, i, _, rfl, hkl, hlo, hhi, ?_⟩
      rw [decide_eq_decide]
      exact ⟨fun e => ⟨hin, e⟩, fun e => e.2⟩
    · (repeat' (first | refine X.rq ?_ | (refine X.rc ?_ ?_ <;> intro hc <;> first | (exfalso; omega) | skip)))
      refine K.done (by first | exact Or.inl rfl | exact Or.inr rfl) rfl (by first | exact K.Base.le.refl _ | assumption) (H' := []) rfl ⟨rfl, rfl, i, _, rfl, hkl, hlo, hhi, ?_⟩
      exact (decide_eq_false (fun e => hin e.1)).symm
def usedAt (l : List PCell) (i : Int) : Bool := if 0 ≤ i then (match l[i.toNat]? with | some x => x.used | none => false) else false
def dataAt (l : List PCell) (k : Nat) (d : List UInt8) : Bool := match l[k]? with | some x => decide (x.data = d) | none => false
/-- Where it is, or would be; whether it is there. -/
def FindP (p : Pag) (o : POp) (i : Int) (b : Bool) : Prop := (p.kind = 1 → i = o.slot ∧ b = usedAt p.cells o.slot) ∧
  (p.kind ≠ 1 → ∃ k : Nat, i = k ∧ k ≤ p.cells.length ∧ (∀ (j : Nat) x, j < k → p.cells[j]? = some x → Lib.compareBytes x.data o.data < 0) ∧ (∀ (j : Nat) x, k ≤ j → p.cells[j]? = some x → 0 ≤ Lib.compareBytes x.data o.data) ∧ b = dataAt p.cells k o.data)
def sortedD (l : List PCell) : Prop := ∀ (i j : Nat) x y, i < j → l[i]? = some x → l[j]? = some y → Lib.compareBytes x.data y.data < 0
theorem sorted_of {p : Pag} (hm : mayQ p = true) (hk : p.kind = 2) : sortedD p.cells := by
  obtain ⟨_, _, hc, _⟩ := (mayQ_iff p).1 hm
  have step : ∀ (d i : Nat) x y, p.cells[i]? = some x → p.cells[i + (d + 1)]? = some y → Lib.compareBytes x.data y.data < 0 := by
    intro d
    induction d with
    | zero =>
      intro i x y hx hy
      have := ((hc (i + 1) y hy).2.2 (by omega)).2.2 (by omega)
      rw [ltPrev, Nat.add_sub_cancel, hx] at this
      have := of_decide_eq_true this
      rwa [keyQ, keyQ, if_neg (by omega), if_neg (by omega)] at this
    | succ d ih =>
      intro i x y hx hy
      have hlt := (List.getElem?_eq_some_iff.1 hy).1
      have hz : p.cells[i + (d + 1)]? = some (p.cells[i + (d + 1)]'(by omega)) := List.getElem?_eq_getElem (by omega)
      have h1 := ih i x _ hx hz
      have h2 := ((hc (i + (d + 1) + 1) y hy).2.2 (by omega)).2.2 (by omega)
      rw [ltPrev, Nat.add_sub_cancel, hz] at h2
      have h2 := of_decide_eq_true h2
      rw [keyQ, keyQ, if_neg (by omega), if_neg (by omega)] at h2
      exact K.cmp_trans h1 h2
  intro i j x y hij hx hy
  exact step (j - i - 1) i x y hx (by rw [show i + (j - i - 1 + 1) = j by omega]; exact hy)
theorem Find (h : Base) (cs ds : List Value) (p : Pag) (o : POp) (hx : PagC h cs p) (ho : OpC h ds o) (hm : mayQ p = true) (hk : p.kind = 1 ∨ p.kind = 2) :
    Tr Tryz.prog 75 [.agg cs.toArray, .agg ds.toArray] h [] (fun w h' H' => h' = h ∧ H' = [] ∧ ∃ i b, w = .tuple #[.int .i64 i, .bool b] ∧ FindP p o i b) := by
  have h60 := ((mayQ_iff p).1 hm).2.1
  obtain ⟨hw, cv, rfl, es, hv, hel, hr⟩ := hx
  obtain ⟨⟨hok, hos, hot, hol⟩, ao4, ca4, rfl, hbo⟩ := ho
  obtain ⟨ao, ca, rfl⟩ := hv.len
  have hz := SL.lens hv
  unfold in64 at hos
  by_cases k1 : p.kind = 1
  · rw [hel] at hv ⊢
    have post : ∀ b, b = usedAt p.cells o.slot → FindP p o o.slot b := fun b hb => ⟨fun _ => ⟨rfl, hb⟩, fun e => absurd k1 e⟩
    refine K.enter Tryz.func75 rfl (Nat.le_of_ble_eq_true rfl) (fun F => ?_)
    (repeat' (first | refine X.rq ?_ | (refine X.rc ?_ ?_ <;> intro hc <;> first | (exfalso; omega) | skip)))
    refine K.l_box rfl rfl rfl (fun B1 => ?_)
    refine K.l_box rfl rfl rfl (fun B2 => ?_)
    (repeat' (first | refine X.rq ?_ | (refine X.rc ?_ ?_ <;> intro hc <;> first | (exfalso; omega) | skip)))
    by_cases hin : 0 ≤ o.slot ∧ o.slot < p.cells.length
    · have hc1 : es[o.slot.toNat]? = some (es[o.slot.toNat]'(by omega)) := List.getElem?_eq_getElem (by omega)
      have hx1 : p.cells[o.slot.toNat]? = some (p.cells[o.slot.toNat]'(by omega)) := List.getElem?_eq_getElem (by omega)
      generalize es[o.slot.toNat]'(by omega) = c at hc1
      generalize p.cells[o.slot.toNat]'(by omega) = x at hx1
      obtain ⟨hkl, hdl, ao3, ca3, rfl, hbv⟩ := hr _ c x hc1 hx1
      have hua : usedAt p.cells o.slot = x.used := by rw [usedAt, if_pos hin.1, hx1]
      refine X.draw ([blk B2 70 (cO o (.slice ao4 o.data.length ca4)), blk B1 62 (cP p (.slice ao p.cells.length ca))]) [] (.pu 0 (.pu 2 (.st 1 (.st 3 (.pu 4 (.pu 5 (.pu 6 (.pu 8 (.st 7 (.st 9 (.pu 10 (.pu 11 (.pu 12 (.pu 13 (.pu 14 (.pu 16 (.pu 22 (.st 15 (.st 17 (.st 18 (.pu 19 (.st 20 (.pu 21 (.pu 23 .nil)))))))))))))))))))))))) ?_
      refine K.d_pu rfl (fun _ _ => X.fa) rfl ?_
      refine K.d_pu rfl (fun _ _ => X.fa) rfl ?_
      refine K.d_st rfl X.ld rfl ?_
      refine K.d_st rfl X.ld rfl ?_
      refine K.d_pu rfl (fun _ _ => X.bgeq) rfl ?_
      rw [decide_eq_true hin.1]
      refine K.d_pu rfl (fun _ _ => X.mv) rfl ?_
      first | refine K.d_skip rfl rfl rfl rfl ?_ | refine K.d_skipU rfl rfl rfl rfl rfl ?_ | refine K.d_puG rfl rfl rfl (fun _ _ => X.fa) rfl ?_
      first | refine K.d_skip rfl rfl rfl rfl ?_ | refine K.d_skipU rfl rfl rfl rfl rfl ?_ | refine K.d_puG rfl rfl rfl (fun _ _ => X.fa) rfl ?_
      first | refine K.d_skipS rfl rfl rfl rfl ?_ | refine K.d_skipUS rfl rfl rfl rfl rfl ?_ | refine K.d_stG rfl rfl rfl X.ld rfl ?_
      first | refine K.d_skipS rfl rfl rfl rfl ?_ | refine K.d_skipUS rfl rfl rfl rfl rfl ?_ | refine K.d_stG rfl rfl rfl X.ld rfl ?_
      first | refine K.d_skip rfl rfl rfl rfl ?_ | refine K.d_skipU rfl rfl rfl rfl rfl ?_ | refine K.d_puG rfl rfl rfl (fun _ _ => X.len) rfl ?_
      first | refine K.d_skip rfl rfl rfl rfl ?_ | refine K.d_skipU rfl rfl rfl rfl rfl ?_ | refine K.d_puG rfl rfl rfl (fun _ _ => X.blss) rfl ?_
      rw [decide_eq_true hin.2]
      refine K.d_pu rfl (fun _ _ => X.pk) rfl ?_
      refine K.d_pu rfl (fun _ _ => X.mv) rfl ?_
      first | refine K.d_skip rfl rfl rfl rfl ?_ | refine K.d_skipU rfl rfl rfl rfl rfl ?_ | refine K.d_puG rfl rfl rfl (fun _ _ => X.fa) rfl ?_
      first | refine K.d_skip rfl rfl rfl rfl ?_ | refine K.d_skipU rfl rfl rfl rfl rfl ?_ | refine K.d_puG rfl rfl rfl (fun _ _ => X.fa) rfl ?_
      refine K.d_pu rfl (fun _ _ => X.sg) rfl ?_
      first | refine K.d_skipS rfl rfl rfl rfl ?_ | refine K.d_skipUS rfl rfl rfl rfl rfl ?_ | refine K.d_stG rfl rfl rfl X.ld rfl ?_
      first | refine K.d_skipS rfl rfl rfl rfl ?_ | refine K.d_skipUS rfl rfl rfl rfl rfl ?_ | refine K.d_stG rfl rfl rfl X.ld rfl ?_
      refine K.d_stGE rfl rfl rfl (K.p_indexL hv (Fx.und rfl) (Fx.sz rfl) rfl rfl (by omega) hc1) rfl ?_
      rintro v3 ⟨b3, o3, rfl, hcel3⟩
      first | refine K.d_skip rfl rfl rfl rfl ?_ | refine K.d_skipU rfl rfl rfl rfl rfl ?_ | refine K.d_puG rfl rfl rfl (fun _ _ => X.fa) rfl ?_
      refine K.d_stG rfl rfl rfl (K.p_load (Fx.agg rfl) rfl (Cels.up hcel3).1) rfl ?_
      refine K.d_pu rfl (fun _ _ => X.pk) rfl ?_
      refine K.d_pu rfl (fun _ _ => X.sg) rfl ?_
      refine K.d_nil ?_
      (repeat' (first | refine X.rq ?_ | (refine X.rc ?_ ?_ <;> intro hc <;> first | (exfalso; omega) | skip)))
      refine K.AT.sel [0, 0] rfl ?_
      refine K.done (by first | exact Or.inl rfl | exact Or.inr rfl) rfl (by first | exact K.Base.le.refl _ | assumption) (H' := []) rfl ⟨rfl, rfl, _, _, rfl, post _ hua.symm⟩
    · have hua : usedAt p.cells o.slot = false := by
        rw [usedAt]
        split
        · rw [List.getElem?_eq_none (by omega)]
        · rfl
      by_cases h0 : 0 ≤ o.slot
      · refine X.draw ([blk B2 70 (cO o (.slice ao4 o.data.length ca4)), blk B1 62 (cP p (.slice ao p.cells.length ca))]) [] (.pu 0 (.pu 2 (.st 1 (.st 3 (.pu 4 (.pu 5 (.pu 6 (.pu 8 (.st 7 (.st 9 (.pu 10 (.pu 11 (.pu 12 (.pu 13 (.pu 14 (.pu 16 (.pu 22 (.st 15 (.st 17 (.st 18 (.pu 19 (.st 20 (.pu 21 (.pu 23 .nil)))))))))))))))))))))))) ?_
        refine K.d_pu rfl (fun _ _ => X.fa) rfl ?_
        refine K.d_pu rfl (fun _ _ => X.fa) rfl ?_
        refine K.d_st rfl X.ld rfl ?_
        refine K.d_st rfl X.ld rfl ?_
        refine K.d_pu rfl (fun _ _ => X.bgeq) rfl ?_
        rw [decide_eq_true h0]
        refine K.d_pu rfl (fun _ _ => X.mv) rfl ?_
        first | refine K.d_skip rfl rfl rfl rfl ?_ | refine K.d_skipU rfl rfl rfl rfl rfl ?_ | refine K.d_puG rfl rfl rfl (fun _ _ => X.fa) rfl ?_
        first | refine K.d_skip rfl rfl rfl rfl ?_ | refine K.d_skipU rfl rfl rfl rfl rfl ?_ | refine K.d_puG rfl rfl rfl (fun _ _ => X.fa) rfl ?_
        first | refine K.d_skipS rfl rfl rfl rfl ?_ | refine K.d_skipUS rfl rfl rfl rfl rfl ?_ | refine K.d_stG rfl rfl rfl X.ld rfl ?_
        first | refine K.d_skipS rfl rfl rfl rfl ?_ | refine K.d_skipUS rfl rfl rfl rfl rfl ?_ | refine K.d_stG rfl rfl rfl X.ld rfl ?_
        first | refine K.d_skip rfl rfl rfl rfl ?_ | refine K.d_skipU rfl rfl rfl rfl rfl ?_ | refine K.d_puG rfl rfl rfl (fun _ _ => X.len) rfl ?_
        first | refine K.d_skip rfl rfl rfl rfl ?_ | refine K.d_skipU rfl rfl rfl rfl rfl ?_ | refine K.d_puG rfl rfl rfl (fun _ _ => X.blss) rfl ?_
        rw [decide_eq_false (show ¬ o.slot < (p.cells.length : Int) by omega)]
        refine K.d_pu rfl (fun _ _ => X.pk) rfl ?_
        refine K.d_pu rfl (fun _ _ => X.mv) rfl ?_
        first | refine K.d_skip rfl rfl rfl rfl ?_ | refine K.d_skipU rfl rfl rfl rfl rfl ?_ | refine K.d_puG rfl rfl rfl (fun _ _ => X.fa) rfl ?_
        first | refine K.d_skip rfl rfl rfl rfl ?_ | refine K.d_skipU rfl rfl rfl rfl rfl ?_ | refine K.d_puG rfl rfl rfl (fun _ _ => X.fa) rfl ?_
        refine K.d_pu rfl (fun _ _ => X.sg) rfl ?_
        first | refine K.d_skipS rfl rfl rfl rfl ?_ | refine K.d_skipUS rfl rfl rfl rfl rfl ?_ | refine K.d_stG rfl rfl rfl X.ld rfl ?_
        first | refine K.d_skipS rfl rfl rfl rfl ?_ | refine K.d_skipUS rfl rfl rfl rfl rfl ?_ | refine K.d_stG rfl rfl rfl X.ld rfl ?_
        first | refine K.d_skipS rfl rfl rfl rfl ?_ | refine K.d_skipUS rfl rfl rfl rfl rfl ?_ | refine K.d_stG rfl rfl rfl X.ia rfl ?_
        first | refine K.d_skip rfl rfl rfl rfl ?_ | refine K.d_skipU rfl rfl rfl rfl rfl ?_ | refine K.d_puG rfl rfl rfl (fun _ _ => X.fa) rfl ?_
        first | refine K.d_skipS rfl rfl rfl rfl ?_ | refine K.d_skipUS rfl rfl rfl rfl rfl ?_ | refine K.d_stG rfl rfl rfl X.ld rfl ?_
        refine K.d_pu rfl (fun _ _ => X.pk) rfl ?_
        refine K.d_pu rfl (fun _ _ => X.sg) rfl ?_
        refine K.d_nil ?_
        (repeat' (first | refine X.rq ?_ | (refine X.rc ?_ ?_ <;> intro hc <;> first | (exfalso; omega) | skip)))
        refine K.AT.sel [0, 0] rfl ?_
        refine K.done (by first | exact Or.inl rfl | exact Or.inr rfl) rfl (by first | exact K.Base.le.refl _ | assumption) (H' := []) rfl ⟨rfl, rfl, _, _, rfl, post _ hua.symm⟩
      · refine X.draw ([blk B2 70 (cO o (.slice ao4 o.data.length ca4)), blk B1 62 (cP p (.slice ao p.cells.length ca))]) [] (.pu 0 (.pu 2 (.st 1 (.st 3 (.pu 4 (.pu 5 (.pu 6 (.pu 8 (.st 7 (.st 9 (.pu 10 (.pu 11 (.pu 12 (.pu 13 (.pu 14 (.pu 16 (.pu 22 (.st 15 (.st 17 (.st 18 (.pu 19 (.st 20 (.pu 21 (.pu 23 .nil)))))))))))))))))))))))) ?_
        refine K.d_pu rfl (fun _ _ => X.fa) rfl ?_
        refine K.d_pu rfl (fun _ _ => X.fa) rfl ?_
        refine K.d_st rfl X.ld rfl ?_
        refine K.d_st rfl X.ld rfl ?_
        refine K.d_pu rfl (fun _ _ => X.bgeq) rfl ?_
        rw [decide_eq_false h0]
        refine K.d_pu rfl (fun _ _ => X.mv) rfl ?_
        first | refine K.d_skip rfl rfl rfl rfl ?_ | refine K.d_skipU rfl rfl rfl rfl rfl ?_ | refine K.d_puG rfl rfl rfl (fun _ _ => X.fa) rfl ?_
        first | refine K.d_skip rfl rfl rfl rfl ?_ | refine K.d_skipU rfl rfl rfl rfl rfl ?_ | refine K.d_puG rfl rfl rfl (fun _ _ => X.fa) rfl ?_
        first | refine K.d_skipS rfl rfl rfl rfl ?_ | refine K.d_skipUS rfl rfl rfl rfl rfl ?_ | refine K.d_stG rfl rfl rfl X.ld rfl ?_
        first | refine K.d_skipS rfl rfl rfl rfl ?_ | refine K.d_skipUS rfl rfl rfl rfl rfl ?_ | refine K.d_stG rfl rfl rfl X.ld rfl ?_
        first | refine K.d_skip rfl rfl rfl rfl ?_ | refine K.d_skipU rfl rfl rfl rfl rfl ?_ | refine K.d_puG rfl rfl rfl (fun _ _ => X.len) rfl ?_
        first | refine K.d_skip rfl rfl rfl rfl ?_ | refine K.d_skipU rfl rfl rfl rfl rfl ?_ | refine K.d_puG rfl rfl rfl (fun _ _ => X.blss) rfl ?_
        refine K.d_pu rfl (fun _ _ => X.pk) rfl ?_
        refine K.d_pu rfl (fun _ _ => X.mv) rfl ?_
        first | refine K.d_skip rfl rfl rfl rfl ?_ | refine K.d_skipU rfl rfl rfl rfl rfl ?_ | refine K.d_puG rfl rfl rfl (fun _ _ => X.fa) rfl ?_
        first | refine K.d_skip rfl rfl rfl rfl ?_ | refine K.d_skipU rfl rfl rfl rfl rfl ?_ | refine K.d_puG rfl rfl rfl (fun _ _ => X.fa) rfl ?_
        refine K.d_pu rfl (fun _ _ => X.sg) rfl ?_
        first | refine K.d_skipS rfl rfl rfl rfl ?_ | refine K.d_skipUS rfl rfl rfl rfl rfl ?_ | refine K.d_stG rfl rfl rfl X.ld rfl ?_
        first | refine K.d_skipS rfl rfl rfl rfl ?_ | refine K.d_skipUS rfl rfl rfl rfl rfl ?_ | refine K.d_stG rfl rfl rfl X.ld rfl ?_
        first | refine K.d_skipS rfl rfl rfl rfl ?_ | refine K.d_skipUS rfl rfl rfl rfl rfl ?_ | refine K.d_stG rfl rfl rfl X.ia rfl ?_
        first | refine K.d_skip rfl rfl rfl rfl ?_ | refine K.d_skipU rfl rfl rfl rfl rfl ?_ | refine K.d_puG rfl rfl rfl (fun _ _ => X.fa) rfl ?_
        first | refine K.d_skipS rfl rfl rfl rfl ?_ | refine K.d_skipUS rfl rfl rfl rfl rfl ?_ | refine K.d_stG rfl rfl rfl X.ld rfl ?_
        refine K.d_pu rfl (fun _ _ => X.pk) rfl ?_
        refine K.d_pu rfl (fun _ _ => X.sg) rfl ?_
        refine K.d_nil ?_
        (repeat' (first | refine X.rq ?_ | (refine X.rc ?_ ?_ <;> intro hc <;> first | (exfalso; omega) | skip)))
        refine K.AT.sel [0, 0] rfl ?_
        refine K.done (by first | exact Or.inl rfl | exact Or.inr rfl) rfl (by first | exact K.Base.le.refl _ | assumption) (H' := []) rfl ⟨rfl, rfl, _, _, rfl, post _ hua.symm⟩
  · have k2 : p.kind = 2 := by omega
    have hsort := sorted_of hm k2
    let cmp : Nat → Int := fun j => match p.cells[j]? with | some x => Lib.compareBytes x.data o.data | none => 1
    have hcmp : ∀ (j : Nat) x, p.cells[j]? = some x → cmp j = Lib.compareBytes x.data o.data := fun j x hx => by show (match p.cells[j]? with | some x => _ | none => _) = _; rw [hx]
    have hbs := BSearch h 107 (Fx.cal rfl) (.slice ao es.length ca) (.slice ao4 o.data.length ca4) es cmp hv (by omega) hz (fun j c hj => by
      have hjl := (List.getElem?_eq_some_iff.1 hj).1
      have hx1 : p.cells[j]? = some (p.cells[j]'(by omega)) := List.getElem?_eq_getElem (by omega)
      rw [hcmp j _ hx1]
      exact FindC h c _ _ o.data (hr j c _ hj hx1) hbo) (fun j k hjk hkl h0 => by
      by_cases e : j = k
      · rw [← e]; exact h0
      · have hx1 : p.cells[j]? = some (p.cells[j]'(by omega)) := List.getElem?_eq_getElem (by omega)
        have hy1 : p.cells[k]? = some (p.cells[k]'(by omega)) := List.getElem?_eq_getElem (by omega)
        rw [hcmp j _ hx1] at h0
        rw [hcmp k _ hy1]
        have hs := hsort j k _ _ (by omega) hx1 hy1
        rcases Int.lt_or_le (Lib.compareBytes (p.cells[k]'(by omega)).data o.data) 0 with hlt | hge
        · have := K.cmp_trans hs hlt; omega
        · exact hge)
    rw [hel] at hv ⊢
    rw [hel] at hbs
    show Tr Tryz.prog 75 _ h [] _
    refine K.enter Tryz.func75 rfl (Nat.le_of_ble_eq_true rfl) (fun F => ?_)
    (repeat' (first | refine X.rq ?_ | (refine X.rc ?_ ?_ <;> intro hc <;> first | (exfalso; omega) | skip)))
    refine K.l_box rfl rfl rfl (fun B => ?_)
    refine K.l_box rfl rfl rfl (fun B => ?_)
    (repeat' (first | refine X.rq ?_ | (refine X.rc ?_ ?_ <;> intro hc <;> first | (exfalso; omega) | skip)))
    refine K.l_call (Fx.cal rfl) rfl hbs (K.pp [] rfl) rfl ?_
    rintro w h' H' - ⟨e, rfl, i, b, rfl, hi, hlo, hhi, hb⟩
    obtain rfl := e.symm
    simp only [List.nil_append]
    (repeat' (first | refine X.rq ?_ | (refine X.rc ?_ ?_ <;> intro hc <;> first | (exfalso; omega) | skip)))
    refine K.AT.sel [0, 0] rfl ?_
    refine K.done (by first | exact Or.inl rfl | exact Or.inr rfl) rfl (by first | exact K.Base.le.refl _ | assumption) (H' := []) rfl ⟨rfl, rfl, _, _, rfl, fun e => absurd e k1, fun _ => ⟨i, rfl, hi, fun j x hj hx => by rw [← hcmp j x hx]; exact hlo j hj, fun j x hj hx => by rw [← hcmp j x hx]; exact hhi j hj (List.getElem?_eq_some_iff.1 hx).1, ?_⟩⟩
    rw [hb, dataAt]
    cases hci : p.cells[i]? with
    | none => exact decide_eq_false (fun e => by rw [List.getElem?_eq_getElem e.1] at hci; cases hci)
    | some x =>
      have hil := (List.getElem?_eq_some_iff.1 hci).1
      rw [hcmp i x hci]
      show decide _ = decide _
      rw [decide_eq_decide]
      exact ⟨fun e => K.cmp_zero e.2, fun e => ⟨hil, by rw [e]; exact K.cmp_refl _⟩⟩
end Go.Proofs.YtahdbncfegedjaaGreat.Pg
