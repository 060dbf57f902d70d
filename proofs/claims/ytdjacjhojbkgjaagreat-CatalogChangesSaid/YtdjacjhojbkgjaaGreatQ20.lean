/-
  Whether tables, indexes, schemas, lists of rows are the same: the document's. Conditions: each theorem's own.
-/
import Derived.Test.YtdjacjhojbkgjaaGreatQ18
import Derived.Test.YtdjacjhojbkgjaaGreatQ19
namespace Go.Proofs.YtdjacjhojbkgjaaGreat.Ct
open Go Go.K Go.Proofs Go.Proofs.YtdjacjhojbkgjaaGreat Go.Proofs.YtdjacjhojbkgjaaGreat.Rw
set_option linter.unusedVariables false
set_option linter.unusedSimpArgs false
set_option maxRecDepth 10000

theorem same_all {α : Type} {a b : List α} (hl : a.length = b.length) (hs : ∀ i, i < a.length → a[i]? = b[i]?) : a = b := List.ext_getElem? fun i => by
  by_cases hi : i < a.length
  · exact hs i hi
  · rw [List.getElem?_eq_none (by omega), List.getElem?_eq_none (by omega)]
theorem same_step {α : Type} {a b : List α} {j : Nat} {x y : α} (hs : ∀ i, i < j → a[i]? = b[i]?) (hx : a[j]? = some x) (hy : b[j]? = some y) (e : x = y) : ∀ i, i < j + 1 → a[i]? = b[i]? := fun i hi => by
  by_cases hij : i < j
  · exact hs i hij
  · obtain rfl : i = j := by omega
    rw [hx, hy, e]
set_option maxHeartbeats 1000000 in
theorem SameTable (h : Base) (p q : PTab) (c d : List Value) (hc : TabC h p c) (hd : TabC h q d) (hp : p.cols.length ≤ 4398046511104) (hq : q.cols.length ≤ 4398046511104) :
    TrV Tryz.prog 17 [.agg c.toArray, .agg d.toArray] h [] (.bool (decide (p = q))) [] := by
  obtain ⟨v1, rfl, hv⟩ := hc
  obtain ⟨v2, rfl, hu⟩ := hd
  have hlen : (p.cols.map cC).length = p.cols.length := List.length_map ..
  have hlen2 : (q.cols.map cC).length = q.cols.length := List.length_map ..
  obtain ⟨ao, ca, rfl⟩ := hv.len
  obtain ⟨ao2, ca2, rfl⟩ := hu.len
  rw [hlen] at hv ⊢
  rw [hlen2] at hu ⊢
  have heq : ∀ _ : Unit, p = q ↔ p.id = q.id ∧ p.name = q.name ∧ p.head = q.head ∧ p.cols = q.cols := fun _ => by
    obtain ⟨a, b, c, d⟩ := p
    obtain ⟨a2, b2, c2, d2⟩ := q
    simp only [PTab.mk.injEq]
    constructor
    · rintro ⟨h1, h2, h3, h4⟩; exact ⟨h1, h2, h4, h3⟩
    · rintro ⟨h1, h2, h3, h4⟩; exact ⟨h1, h2, h4, h3⟩
  refine K.enter Tryz.func17 rfl (Nat.le_of_ble_eq_true rfl) (fun F => ?_)
  simp only [List.nil_append, List.cons_append]
  by_cases hne : p.id = q.id ∧ p.name = q.name ∧ p.head = q.head ∧ p.cols.length = q.cols.length
  · obtain ⟨e1, e2, e3, e4⟩ := hne
    (repeat' (first | refine X.rq ?_ | (refine X.rc ?_ ?_ <;> intro hc <;> first | (exfalso; omega) | skip)))
    refine K.l_box rfl rfl rfl (fun B1 => ?_)
    refine K.l_box rfl rfl rfl (fun B2 => ?_)
    (repeat' (first | refine X.rq ?_ | (refine X.rc ?_ ?_ <;> intro hc <;> first | (exfalso; omega) | skip)))
    all_goals first | (exfalso; simp_all; done) | (exfalso; omega) | skip
    refine K.c_loop (σ := Nat) (fun j => [(2, .pointer (some ⟨B1, 0, none⟩)), (3, .pointer (some ⟨B2, 0, none⟩)), (5, .int .i64 j)]) (fun _ => h) (fun _ => blk B2 37 (cTab q (.slice ao2 q.cols.length ca2)) :: blk B1 37 (cTab p (.slice ao p.cols.length ca)) :: F) (fun j => j ≤ p.cols.length ∧ ∀ i, i < j → p.cols[i]? = q.cols[i]?) (fun j => p.cols.length - j) 0 ⟨Nat.zero_le _, fun i hi => by omega⟩ (by repeat (first | exact K.Sub.nil _ | refine K.Sub.cons rfl ?_)) rfl rfl ?_
    rintro j ⟨hj, hsame⟩ KL hKL
    by_cases hjl : j < p.cols.length
    · have hjb : j < q.cols.length := by omega
      have hc0 : (p.cols.map cC)[((j : Nat) : Int).toNat]? = some (cC p.cols[j]) := by rw [Int.toNat_natCast, List.getElem?_map, List.getElem?_eq_getElem hjl]; rfl
      have hd0 : (q.cols.map cC)[((j : Nat) : Int).toNat]? = some (cC q.cols[j]) := by rw [Int.toNat_natCast, List.getElem?_map, List.getElem?_eq_getElem hjb]; rfl
      have hc1 : p.cols[j]? = some p.cols[j] := List.getElem?_eq_getElem hjl
      have hd1 : q.cols[j]? = some q.cols[j] := List.getElem?_eq_getElem hjb
      generalize p.cols[j] = x at hc0 hc1
      generalize q.cols[j] = y at hd0 hd1
      (repeat' (first | refine X.rq ?_ | (refine X.rc ?_ ?_ <;> intro hc <;> first | (exfalso; omega) | skip)))
      refine X.draw ([blk B2 37 (cTab q (.slice ao2 q.cols.length ca2)), blk B1 37 (cTab p (.slice ao p.cols.length ca))]) [] (.pu 0 (.pu 2 (.pu 5 (.pu 7 (.st 1 (.st 3 (.st 4 (.st 6 (.st 8 (.st 9 (.pu 10 .nil))))))))))) ?_
      refine K.d_pu rfl (fun _ _ => X.fa) rfl ?_
      refine K.d_pu rfl (fun _ _ => X.mv) rfl ?_
      refine K.d_pu rfl (fun _ _ => X.fa) rfl ?_
      refine K.d_pu rfl (fun _ _ => X.mv) rfl ?_
      refine K.d_st rfl X.ld rfl ?_
      refine K.d_stE rfl (K.p_indexL hv (Fx.und rfl) (Fx.sz rfl) rfl rfl (by omega) hc0) rfl ?_
      rintro v2 ⟨b1, o1, rfl, hcel⟩
      refine K.d_st rfl (K.p_loadM (Fx.agg rfl) rfl (Cels.up hcel) (Fx.sz rfl) rfl) rfl ?_
      refine K.d_st rfl X.ld rfl ?_
      refine K.d_stE rfl (K.p_indexL hu (Fx.und rfl) (Fx.sz rfl) rfl rfl (by omega) hd0) rfl ?_
      rintro v3 ⟨b2, o2, rfl, hcel2⟩
      refine K.d_st rfl (K.p_loadM (Fx.agg rfl) rfl (Cels.up hcel2) (Fx.sz rfl) rfl) rfl ?_
      refine K.d_pu rfl (fun _ _ => X.bneq) rfl ?_
      rw [eqC]
      refine K.d_nil ?_
      by_cases hxy : x.name = y.name ∧ x.kind = y.kind ∧ x.need = y.need
      · rw [decide_eq_true hxy]
        (repeat' (first | refine X.rq ?_ | (refine X.rc ?_ ?_ <;> intro hc <;> first | (exfalso; omega) | skip)))
        refine K.a_round hKL (j + 1) ⟨by omega, same_step hsame hc1 hd1 (by obtain ⟨a, b, c⟩ := x; obtain ⟨a2, b2, c2⟩ := y; obtain ⟨h1, h2, h3⟩ := hxy; simp only at h1 h2 h3; rw [h1, h2, h3])⟩ (by repeat (first | exact K.Sub.nil _ | refine K.Sub.cons rfl ?_)) rfl rfl (by omega)
      · rw [decide_eq_false hxy]
        (repeat' (first | refine X.rq ?_ | (refine X.rc ?_ ?_ <;> intro hc <;> first | (exfalso; omega) | skip)))
        rw [decide_eq_false (fun e => hxy (by rw [e, hd1] at hc1; cases hc1; exact ⟨rfl, rfl, rfl⟩))]
        refine K.AT.sel [0, 0] rfl ?_
        refine K.done (by first | exact Or.inl rfl | exact Or.inr rfl) rfl (by first | exact K.Base.le.refl _ | assumption) (H' := []) rfl ⟨rfl, rfl, rfl⟩
    · obtain rfl : j = p.cols.length := by omega
      (repeat' (first | refine X.rq ?_ | (refine X.rc ?_ ?_ <;> intro hc <;> first | (exfalso; omega) | skip)))
      rw [decide_eq_true ((heq ()).2 ⟨e1, e2, e3, same_all e4 hsame⟩)]
      refine K.AT.sel [0, 0] rfl ?_
      refine K.done (by first | exact Or.inl rfl | exact Or.inr rfl) rfl (by first | exact K.Base.le.refl _ | assumption) (H' := []) rfl ⟨rfl, rfl, rfl⟩
  · rw [decide_eq_false (fun e => hne (by rw [e]; exact ⟨rfl, rfl, rfl, rfl⟩))]
    (repeat' (first | refine X.rq ?_ | (refine X.rc ?_ ?_ <;> intro hc <;> first | (exfalso; omega) | skip)))
    refine K.l_box rfl rfl rfl (fun B1 => ?_)
    refine K.l_box rfl rfl rfl (fun B2 => ?_)
    (repeat' (first | refine X.rq ?_ | (refine X.rc ?_ ?_ <;> intro hc <;> first | (exfalso; omega) | skip)))
    all_goals first | (exfalso; exact hne ⟨by omega, by first | assumption | (simp_all; done), by omega, by omega⟩) | skip
    all_goals
      refine K.AT.sel [0, 0] rfl ?_
      refine K.done (by first | exact Or.inl rfl | exact Or.inr rfl) rfl (by first | exact K.Base.le.refl _ | assumption) (H' := []) rfl ⟨rfl, rfl, rfl⟩
set_option maxHeartbeats 1000000 in
theorem SameIndex (h : Base) (p q : PIdx) (c d : List Value) (hc : IdxC h p c) (hd : IdxC h q d) (hp : p.cols.length ≤ 17592186044416) (hq : q.cols.length ≤ 17592186044416) :
    TrV Tryz.prog 44 [.agg c.toArray, .agg d.toArray] h [] (.bool (decide (p = q))) [] := by
  obtain ⟨v1, rfl, hv⟩ := hc
  obtain ⟨v2, rfl, hu⟩ := hd
  have hlen : (rowN p.cols).length = p.cols.length := List.length_map ..
  have hlen2 : (rowN q.cols).length = q.cols.length := List.length_map ..
  obtain ⟨ao, ca, rfl⟩ := hv.len
  obtain ⟨ao2, ca2, rfl⟩ := hu.len
  rw [hlen] at hv ⊢
  rw [hlen2] at hu ⊢
  have heq : ∀ _ : Unit, p = q ↔ p.id = q.id ∧ p.table = q.table ∧ p.name = q.name ∧ p.uniq = q.uniq ∧ p.root = q.root ∧ p.cols = q.cols := fun _ => by
    obtain ⟨a, b, c, d, e, f⟩ := p
    obtain ⟨a2, b2, c2, d2, e2, f2⟩ := q
    simp only [PIdx.mk.injEq]
    constructor
    · rintro ⟨h1, h2, h3, h4, h5, h6⟩; exact ⟨h1, h2, h3, h5, h6, h4⟩
    · rintro ⟨h1, h2, h3, h4, h5, h6⟩; exact ⟨h1, h2, h3, h6, h4, h5⟩
  refine K.enter Tryz.func44 rfl (Nat.le_of_ble_eq_true rfl) (fun F => ?_)
  simp only [List.nil_append, List.cons_append]
  by_cases hne : p.id = q.id ∧ p.table = q.table ∧ p.name = q.name ∧ p.uniq = q.uniq ∧ p.root = q.root ∧ p.cols.length = q.cols.length
  · obtain ⟨e1, e2, e3, e4, e5, e6⟩ := hne
    have hbb : (!(p.uniq == q.uniq)) = false := by rw [e4]; simp
    (repeat' (first | refine X.rq ?_ | (refine X.rc ?_ ?_ <;> intro hc <;> first | (exfalso; omega) | skip)))
    refine K.l_box rfl rfl rfl (fun B1 => ?_)
    refine K.l_box rfl rfl rfl (fun B2 => ?_)
    (repeat' (first | refine X.rq ?_ | (refine X.rc ?_ ?_ <;> intro hc <;> first | (exfalso; omega) | skip)))
    all_goals first | (exfalso; simp_all; done) | (exfalso; omega) | skip
    refine K.c_loop (σ := Nat) (fun j => [(2, .pointer (some ⟨B1, 0, none⟩)), (3, .pointer (some ⟨B2, 0, none⟩)), (5, .int .i64 j)]) (fun _ => h) (fun _ => blk B2 43 (cIdx q (.slice ao2 q.cols.length ca2)) :: blk B1 43 (cIdx p (.slice ao p.cols.length ca)) :: F) (fun j => j ≤ p.cols.length ∧ ∀ i, i < j → p.cols[i]? = q.cols[i]?) (fun j => p.cols.length - j) 0 ⟨Nat.zero_le _, fun i hi => by omega⟩ (by repeat (first | exact K.Sub.nil _ | refine K.Sub.cons rfl ?_)) rfl rfl ?_
    rintro j ⟨hj, hsame⟩ KL hKL
    by_cases hjl : j < p.cols.length
    · have hjb : j < q.cols.length := by omega
      have hc0 : (rowN p.cols)[((j : Nat) : Int).toNat]? = some [iV p.cols[j]] := by rw [Int.toNat_natCast, rowN, List.getElem?_map, List.getElem?_eq_getElem hjl]; rfl
      have hd0 : (rowN q.cols)[((j : Nat) : Int).toNat]? = some [iV q.cols[j]] := by rw [Int.toNat_natCast, rowN, List.getElem?_map, List.getElem?_eq_getElem hjb]; rfl
      have hc1 : p.cols[j]? = some p.cols[j] := List.getElem?_eq_getElem hjl
      have hd1 : q.cols[j]? = some q.cols[j] := List.getElem?_eq_getElem hjb
      generalize p.cols[j] = x at hc0 hc1
      generalize q.cols[j] = y at hd0 hd1
      (repeat' (first | refine X.rq ?_ | (refine X.rc ?_ ?_ <;> intro hc <;> first | (exfalso; omega) | skip)))
      refine X.draw ([blk B2 43 (cIdx q (.slice ao2 q.cols.length ca2)), blk B1 43 (cIdx p (.slice ao p.cols.length ca))]) [] (.pu 0 (.pu 2 (.pu 5 (.pu 7 (.st 1 (.st 3 (.st 4 (.st 6 (.st 8 (.st 9 (.pu 10 .nil))))))))))) ?_
      refine K.d_pu rfl (fun _ _ => X.fa) rfl ?_
      refine K.d_pu rfl (fun _ _ => X.mv) rfl ?_
      refine K.d_pu rfl (fun _ _ => X.fa) rfl ?_
      refine K.d_pu rfl (fun _ _ => X.mv) rfl ?_
      refine K.d_st rfl X.ld rfl ?_
      refine K.d_stE rfl (K.p_indexL hv (Fx.und rfl) (Fx.sz rfl) rfl rfl (by omega) hc0) rfl ?_
      rintro v2 ⟨b1, o1, rfl, hcel⟩
      refine K.d_st rfl (K.p_load (v := .int .i64 x) (Fx.agg rfl) rfl (Cels.up hcel).1) rfl ?_
      refine K.d_st rfl X.ld rfl ?_
      refine K.d_stE rfl (K.p_indexL hu (Fx.und rfl) (Fx.sz rfl) rfl rfl (by omega) hd0) rfl ?_
      rintro v3 ⟨b2, o2, rfl, hcel2⟩
      refine K.d_st rfl (K.p_load (v := .int .i64 y) (Fx.agg rfl) rfl (Cels.up hcel2).1) rfl ?_
      refine K.d_pu rfl (fun _ _ => X.bneq) rfl ?_
      refine K.d_nil ?_
      by_cases hxy : x = y
      · (repeat' (first | refine X.rq ?_ | (refine X.rc ?_ ?_ <;> intro hc <;> first | (exfalso; omega) | skip)))
        all_goals first | (exfalso; omega) | skip
        refine K.a_round hKL (j + 1) ⟨by omega, same_step hsame hc1 hd1 hxy⟩ (by repeat (first | exact K.Sub.nil _ | refine K.Sub.cons rfl ?_)) rfl rfl (by omega)
      · (repeat' (first | refine X.rq ?_ | (refine X.rc ?_ ?_ <;> intro hc <;> first | (exfalso; omega) | skip)))
        all_goals first | (exfalso; omega) | skip
        rw [decide_eq_false (fun e => hxy (by rw [e, hd1] at hc1; cases hc1; rfl))]
        refine K.AT.sel [0, 0] rfl ?_
        refine K.done (by first | exact Or.inl rfl | exact Or.inr rfl) rfl (by first | exact K.Base.le.refl _ | assumption) (H' := []) rfl ⟨rfl, rfl, rfl⟩
    · obtain rfl : j = p.cols.length := by omega
      (repeat' (first | refine X.rq ?_ | (refine X.rc ?_ ?_ <;> intro hc <;> first | (exfalso; omega) | skip)))
      rw [decide_eq_true ((heq ()).2 ⟨e1, e2, e3, e4, e5, same_all e6 hsame⟩)]
      refine K.AT.sel [0, 0] rfl ?_
      refine K.done (by first | exact Or.inl rfl | exact Or.inr rfl) rfl (by first | exact K.Base.le.refl _ | assumption) (H' := []) rfl ⟨rfl, rfl, rfl⟩
  · rw [decide_eq_false (fun e => hne (by rw [e]; exact ⟨rfl, rfl, rfl, rfl, rfl, rfl⟩))]
    have hbb : (!(p.uniq == q.uniq)) = false → p.uniq = q.uniq := by cases p.uniq <;> cases q.uniq <;> simp
    (repeat' (first | refine X.rq ?_ | (refine X.rc ?_ ?_ <;> intro hc <;> first | (exfalso; omega) | skip)))
    refine K.l_box rfl rfl rfl (fun B1 => ?_)
    refine K.l_box rfl rfl rfl (fun B2 => ?_)
    (repeat' (first | refine X.rq ?_ | (refine X.rc ?_ ?_ <;> intro hc <;> first | (exfalso; omega) | skip)))
    all_goals first | (exfalso; exact hne ⟨by omega, by omega, by first | assumption | (simp_all; done), by first | (apply hbb; assumption) | (simp_all; done), by omega, by omega⟩) | skip
    all_goals
      refine K.AT.sel [0, 0] rfl ?_
      refine K.done (by first | exact Or.inl rfl | exact Or.inr rfl) rfl (by first | exact K.Base.le.refl _ | assumption) (H' := []) rfl ⟨rfl, rfl, rfl⟩
set_option maxHeartbeats 1000000 in
theorem SameIndexes (h : Base) (v u : Value) (es fs : List (List Value)) (a b : List PIdx) (hv : SL h 6 v es) (he : Each (IdxC h) es a) (hu : SL h 6 u fs) (hf : Each (IdxC h) fs b) (ha : ∀ x ∈ a, x.cols.length ≤ 17592186044416) (hb : ∀ x ∈ b, x.cols.length ≤ 17592186044416) (hal : a.length ≤ 9223372036854775807) (hbl : b.length ≤ 9223372036854775807) :
    TrV Tryz.prog 18 [v, u] h [] (.bool (decide (a = b))) [] := by
  obtain ⟨ao, ca, rfl⟩ := hv.len
  obtain ⟨ao2, ca2, rfl⟩ := hu.len
  rw [he.len] at hv ⊢
  rw [hf.len] at hu ⊢
  refine K.enter Tryz.func18 rfl (Nat.le_of_ble_eq_true rfl) (fun F => ?_)
  simp only [List.nil_append, List.cons_append]
  by_cases hne : a.length = b.length
  · (repeat' (first | refine X.rq ?_ | (refine X.rc ?_ ?_ <;> intro hc <;> first | (exfalso; omega) | skip)))
    refine K.c_loop (σ := Nat) (fun j => [(0, .slice ao a.length ca), (1, .slice ao2 b.length ca2), (5, .int .i64 j)]) (fun _ => h) (fun _ => F) (fun j => j ≤ a.length ∧ ∀ i, i < j → a[i]? = b[i]?) (fun j => a.length - j) 0 ⟨Nat.zero_le _, fun i hi => by omega⟩ (by repeat (first | exact K.Sub.nil _ | refine K.Sub.cons rfl ?_)) rfl rfl ?_
    rintro j ⟨hj, hsame⟩ KL hKL
    by_cases hjl : j < a.length
    · have hjb : j < b.length := by omega
      have hc1 : a[j]? = some a[j] := List.getElem?_eq_getElem hjl
      have hd1 : b[j]? = some b[j] := List.getElem?_eq_getElem hjb
      have hxl := ha _ (List.getElem_mem hjl)
      have hyl := hb _ (List.getElem_mem hjb)
      generalize a[j] = x at hc1 hxl
      generalize b[j] = y at hd1 hyl
      obtain ⟨c, hc0, hxc⟩ := he.get hc1
      obtain ⟨d, hd0, hyc⟩ := hf.get hd1
      have hsm := SameIndex h x y c d hxc hyc hxl hyl
      obtain ⟨w1, rfl, hw1⟩ := hxc
      obtain ⟨w2, rfl, hw2⟩ := hyc
      obtain ⟨aw1, cw1, rfl⟩ := hw1.len
      obtain ⟨aw2, cw2, rfl⟩ := hw2.len
      (repeat' (first | refine X.rq ?_ | (refine X.rc ?_ ?_ <;> intro hc <;> first | (exfalso; omega) | skip)))
      refine X.draw ([]) [] (.pu 0 (.pu 1 (.pu 4 (.pu 5 (.st 2 (.st 3 (.st 6 (.st 7 (.on 8 (.pu 9 .nil)))))))))) ?_
      refine K.d_pu rfl (fun _ _ => X.mv) rfl ?_
      refine K.d_pu rfl (fun _ _ => X.mv) rfl ?_
      refine K.d_pu rfl (fun _ _ => X.mv) rfl ?_
      refine K.d_pu rfl (fun _ _ => X.mv) rfl ?_
      refine K.d_stE rfl (K.p_indexL hv (Fx.und rfl) (Fx.sz rfl) rfl rfl (by omega) (by rw [Int.toNat_natCast]; exact hc0)) rfl ?_
      rintro v2 ⟨b1, o1, rfl, hcel⟩
      refine K.d_st rfl (K.p_loadM (Fx.agg rfl) rfl (Cels.up hcel) (Fx.sz rfl) rfl) rfl ?_
      refine K.d_stE rfl (K.p_indexL hu (Fx.und rfl) (Fx.sz rfl) rfl rfl (by omega) (by rw [Int.toNat_natCast]; exact hd0)) rfl ?_
      rintro v3 ⟨b2, o2, rfl, hcel2⟩
      refine K.d_st rfl (K.p_loadM (Fx.agg rfl) rfl (Cels.up hcel2) (Fx.sz rfl) rfl) rfl ?_
      refine K.d_on rfl (fun KK hKK => ?_)
      refine K.l_callV (Fx.cal rfl) rfl hsm (K.pp [] rfl) rfl rfl ?_
      simp only [List.nil_append]
      generalize hdd : decide (x = y) = bb
      refine K.l_nil ?_
      refine X.onE hKK ?_
      refine K.d_pu rfl (fun _ _ => X.nt) rfl ?_
      refine K.d_nil ?_
      cases bb with
      | true =>
        have hxy : x = y := of_decide_eq_true hdd
        (repeat' (first | refine X.rq ?_ | (refine X.rc ?_ ?_ <;> intro hc <;> first | (exfalso; omega) | skip)))
        refine K.a_round hKL (j + 1) ⟨by omega, same_step hsame hc1 hd1 hxy⟩ (by repeat (first | exact K.Sub.nil _ | refine K.Sub.cons rfl ?_)) rfl rfl (by omega)
      | false =>
        have hxy : ¬ x = y := of_decide_eq_false hdd
        (repeat' (first | refine X.rq ?_ | (refine X.rc ?_ ?_ <;> intro hc <;> first | (exfalso; omega) | skip)))
        rw [decide_eq_false (fun e => hxy (by rw [e, hd1] at hc1; cases hc1; rfl))]
        refine K.done (by first | exact Or.inl rfl | exact Or.inr rfl) rfl (by first | exact K.Base.le.refl _ | assumption) (H' := []) rfl ⟨rfl, rfl, rfl⟩
    · obtain rfl : j = a.length := by omega
      (repeat' (first | refine X.rq ?_ | (refine X.rc ?_ ?_ <;> intro hc <;> first | (exfalso; omega) | skip)))
      rw [decide_eq_true (same_all hne hsame)]
      refine K.done (by first | exact Or.inl rfl | exact Or.inr rfl) rfl (by first | exact K.Base.le.refl _ | assumption) (H' := []) rfl ⟨rfl, rfl, rfl⟩
  · (repeat' (first | refine X.rq ?_ | (refine X.rc ?_ ?_ <;> intro hc <;> first | (exfalso; omega) | skip)))
    rw [decide_eq_false (fun e => hne (by rw [e]))]
    refine K.done (by first | exact Or.inl rfl | exact Or.inr rfl) rfl (by first | exact K.Base.le.refl _ | assumption) (H' := []) rfl ⟨rfl, rfl, rfl⟩
set_option maxHeartbeats 1000000 in
theorem SameS (h : Base) (cs ds : List Value) (p q : PSch) (hp : SchC h p cs) (hq : SchC h q ds) (hwp : wfS p) (hwq : wfS q) :
    TrV Tryz.prog 7 [.agg cs.toArray, .agg ds.toArray] h [] (.bool (decide (p = q))) [] := by
  obtain ⟨vt, vi, ts, is, rfl, hvt, ht, hvi, hi⟩ := hp
  obtain ⟨vt2, vi2, ts2, is2, rfl, hvt2, ht2, hvi2, hi2⟩ := hq
  have h1 := hwp.lt
  have h2 := hwp.li
  have h3 := hwq.lt
  have h4 := hwq.li
  have hsi := SameIndexes h vi vi2 is is2 p.idxs q.idxs hvi hi hvi2 hi2 (fun x hx => (hwp.idxs x hx).len) (fun x hx => (hwq.idxs x hx).len) (by omega) (by omega)
  obtain ⟨ao, ca, rfl⟩ := hvt.len
  obtain ⟨ao2, ca2, rfl⟩ := hvt2.len
  obtain ⟨ai, ci, rfl⟩ := hvi.len
  obtain ⟨ai2, ci2, rfl⟩ := hvi2.len
  rw [ht.len] at hvt ⊢
  rw [ht2.len] at hvt2 ⊢
  have heq : ∀ _ : Unit, p = q ↔ p.tabs = q.tabs ∧ p.idxs = q.idxs := fun _ => by
    obtain ⟨a, b⟩ := p
    obtain ⟨a2, b2⟩ := q
    simp only [PSch.mk.injEq]
  refine K.enter Tryz.func7 rfl (Nat.le_of_ble_eq_true rfl) (fun F => ?_)
  simp only [List.nil_append, List.cons_append]
  (repeat' (first | refine X.rq ?_ | (refine X.rc ?_ ?_ <;> intro hc <;> first | (exfalso; omega) | skip)))
  refine K.l_box rfl rfl rfl (fun B1 => ?_)
  refine K.l_box rfl rfl rfl (fun B2 => ?_)
  by_cases hne : p.tabs.length = q.tabs.length
  · (repeat' (first | refine X.rq ?_ | (refine X.rc ?_ ?_ <;> intro hc <;> first | (exfalso; omega) | skip)))
    refine K.c_loop (σ := Nat) (fun j => [(2, .pointer (some ⟨B1, 0, none⟩)), (3, .pointer (some ⟨B2, 0, none⟩)), (5, .int .i64 j)]) (fun _ => h) (fun _ => blk B2 25 [.slice ao2 q.tabs.length ca2, .slice ai2 is2.length ci2] :: blk B1 25 [.slice ao p.tabs.length ca, .slice ai is.length ci] :: F) (fun j => j ≤ p.tabs.length ∧ ∀ i, i < j → p.tabs[i]? = q.tabs[i]?) (fun j => p.tabs.length - j) 0 ⟨Nat.zero_le _, fun i hi => by omega⟩ (by repeat (first | exact K.Sub.nil _ | refine K.Sub.cons rfl ?_)) rfl rfl ?_
    rintro j ⟨hj, hsame⟩ KL hKL
    by_cases hjl : j < p.tabs.length
    · have hjb : j < q.tabs.length := by omega
      have hc1 : p.tabs[j]? = some p.tabs[j] := List.getElem?_eq_getElem hjl
      have hd1 : q.tabs[j]? = some q.tabs[j] := List.getElem?_eq_getElem hjb
      have hxl := (hwp.tabs _ (List.getElem_mem hjl)).len
      have hyl := (hwq.tabs _ (List.getElem_mem hjb)).len
      generalize p.tabs[j] = x at hc1 hxl
      generalize q.tabs[j] = y at hd1 hyl
      obtain ⟨c, hc0, hxc⟩ := ht.get hc1
      obtain ⟨d, hd0, hyc⟩ := ht2.get hd1
      have hsm := SameTable h x y c d hxc hyc hxl hyl
      obtain ⟨w1, rfl, hw1⟩ := hxc
      obtain ⟨w2, rfl, hw2⟩ := hyc
      obtain ⟨aw1, cw1, rfl⟩ := hw1.len
      obtain ⟨aw2, cw2, rfl⟩ := hw2.len
      (repeat' (first | refine X.rq ?_ | (refine X.rc ?_ ?_ <;> intro hc <;> first | (exfalso; omega) | skip)))
      refine X.draw ([blk B2 25 [.slice ao2 q.tabs.length ca2, .slice ai2 is2.length ci2], blk B1 25 [.slice ao p.tabs.length ca, .slice ai is.length ci]]) [] (.pu 0 (.pu 2 (.pu 5 (.pu 7 (.st 1 (.st 3 (.st 4 (.st 6 (.st 8 (.st 9 (.on 10 (.pu 11 .nil)))))))))))) ?_
      refine K.d_pu rfl (fun _ _ => X.fa) rfl ?_
      refine K.d_pu rfl (fun _ _ => X.mv) rfl ?_
      refine K.d_pu rfl (fun _ _ => X.fa) rfl ?_
      refine K.d_pu rfl (fun _ _ => X.mv) rfl ?_
      refine K.d_st rfl X.ld rfl ?_
      refine K.d_stE rfl (K.p_indexL hvt (Fx.und rfl) (Fx.sz rfl) rfl rfl (by omega) (by rw [Int.toNat_natCast]; exact hc0)) rfl ?_
      rintro v2 ⟨b1, o1, rfl, hcel⟩
      refine K.d_st rfl (K.p_loadM (Fx.agg rfl) rfl (Cels.up hcel) (Fx.sz rfl) rfl) rfl ?_
      refine K.d_st rfl X.ld rfl ?_
      refine K.d_stE rfl (K.p_indexL hvt2 (Fx.und rfl) (Fx.sz rfl) rfl rfl (by omega) (by rw [Int.toNat_natCast]; exact hd0)) rfl ?_
      rintro v3 ⟨b2, o2, rfl, hcel2⟩
      refine K.d_st rfl (K.p_loadM (Fx.agg rfl) rfl (Cels.up hcel2) (Fx.sz rfl) rfl) rfl ?_
      refine K.d_on rfl (fun KK hKK => ?_)
      refine K.l_callV (Fx.cal rfl) rfl hsm (K.pp [] rfl) rfl rfl ?_
      simp only [List.nil_append]
      generalize hdd : decide (x = y) = bb
      refine K.l_nil ?_
      refine X.onE hKK ?_
      refine K.d_pu rfl (fun _ _ => X.nt) rfl ?_
      refine K.d_nil ?_
      cases bb with
      | true =>
        have hxy : x = y := of_decide_eq_true hdd
        (repeat' (first | refine X.rq ?_ | (refine X.rc ?_ ?_ <;> intro hc <;> first | (exfalso; omega) | skip)))
        refine K.a_round hKL (j + 1) ⟨by omega, same_step hsame hc1 hd1 hxy⟩ (by repeat (first | exact K.Sub.nil _ | refine K.Sub.cons rfl ?_)) rfl rfl (by omega)
      | false =>
        have hxy : ¬ x = y := of_decide_eq_false hdd
        (repeat' (first | refine X.rq ?_ | (refine X.rc ?_ ?_ <;> intro hc <;> first | (exfalso; omega) | skip)))
        rw [decide_eq_false (fun e => hxy (by rw [e, hd1] at hc1; cases hc1; rfl))]
        refine K.AT.sel [0, 0] rfl ?_
        refine K.done (by first | exact Or.inl rfl | exact Or.inr rfl) rfl (by first | exact K.Base.le.refl _ | assumption) (H' := []) rfl ⟨rfl, rfl, rfl⟩
    · obtain rfl : j = p.tabs.length := by omega
      have ett := same_all hne hsame
      have hpq : decide (p = q) = decide (p.idxs = q.idxs) := by
        rw [decide_eq_decide, heq ()]
        exact ⟨fun e => e.2, fun e => ⟨ett, e⟩⟩
      rw [hpq]
      (repeat' (first | refine X.rq ?_ | (refine X.rc ?_ ?_ <;> intro hc <;> first | (exfalso; omega) | skip)))
      refine K.l_callV (Fx.cal rfl) rfl hsi (K.pp [] rfl) rfl rfl ?_
      simp only [List.nil_append]
      (repeat' (first | refine X.rq ?_ | (refine X.rc ?_ ?_ <;> intro hc <;> first | (exfalso; omega) | skip)))
      refine K.AT.sel [0, 0] rfl ?_
      refine K.done (by first | exact Or.inl rfl | exact Or.inr rfl) rfl (by first | exact K.Base.le.refl _ | assumption) (H' := []) rfl ⟨rfl, rfl, rfl⟩
  · (repeat' (first | refine X.rq ?_ | (refine X.rc ?_ ?_ <;> intro hc <;> first | (exfalso; omega) | skip)))
    all_goals first | (exfalso; omega) | skip
    rw [decide_eq_false (fun e => hne (by rw [e]))]
    refine K.AT.sel [0, 0] rfl ?_
    refine K.done (by first | exact Or.inl rfl | exact Or.inr rfl) rfl (by first | exact K.Base.le.refl _ | assumption) (H' := []) rfl ⟨rfl, rfl, rfl⟩
def RowC (h : Base) (r : List Val) (c : List Value) : Prop := ∃ v, c = [v] ∧ SL h 3 v (r.map cV)
end Go.Proofs.YtdjacjhojbkgjaaGreat.Ct
