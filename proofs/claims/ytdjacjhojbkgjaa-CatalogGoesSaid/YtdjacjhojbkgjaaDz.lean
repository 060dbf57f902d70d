/-
  Rows: are two rows the same, is what was lent kept. Conditions: each theorem's own.
-/
import Derived.Test.YtdjacjhojbkgjaaDd

namespace Go.Proofs.Ytdjacjhojbkgjaa.Rw
open Go Go.K Go.Proofs Go.Proofs.Ytdjacjhojbkgjaa
set_option linter.unusedVariables false
set_option linter.unusedSimpArgs false
set_option maxRecDepth 10000

theorem eqV (a b : Val) : (decide (a.kind = b.kind) && (decide (a.n = b.n) && (decide (a.s = b.s) && true))) = decide (a = b) := by
  rw [Bool.eq_iff_iff]
  simp only [Bool.and_eq_true, decide_eq_true_eq, and_true]
  cases a; cases b
  simp
theorem eqC (a b : Col) : (decide (a.name = b.name) && (decide (a.kind = b.kind) && (decide (a.need = b.need) && true))) = decide (a.name = b.name ∧ a.kind = b.kind ∧ a.need = b.need) := by
  rw [Bool.eq_iff_iff]
  simp only [Bool.and_eq_true, decide_eq_true_eq, and_true]

theorem Same (h : Base) (K0 : List Asrt) (v u : Value) (a b : List Val) (hv : SLK h K0 3 v (a.map cV)) (hu : SLK h K0 3 u (b.map cV)) (ha : a.length ≤ 9223372036854775807) (hb : b.length ≤ 9223372036854775807) :
    TrV Try.prog 47 [v, u] h K0 (.bool (decide (a = b))) K0 := by
  have hlen : (a.map cV).length = a.length := List.length_map ..
  have hlen2 : (b.map cV).length = b.length := List.length_map ..
  obtain ⟨ao, ca, rfl⟩ := hv.len
  obtain ⟨ao2, ca2, rfl⟩ := hu.len
  rw [hlen] at hv ⊢
  rw [hlen2] at hu ⊢
  refine K.enter Try.func47 rfl (Nat.le_of_ble_eq_true rfl) (fun F => ?_)
  by_cases hne : a.length = b.length
  · (repeat' (first | refine X.rq ?_ | (refine X.rc ?_ ?_ <;> intro hc <;> first | (exfalso; omega) | skip)))
    refine K.c_loop (σ := Nat) (fun j => [(0, .slice ao a.length ca), (1, .slice ao2 b.length ca2), (5, .int .i64 j)]) (fun _ => h) (fun _ => K0 ++ F) (fun j => j ≤ a.length ∧ ∀ i, i < j → a[i]? = b[i]?) (fun j => a.length - j) 0 ⟨Nat.zero_le _, fun i hi => by omega⟩ (by repeat (first | exact K.Sub.nil _ | refine K.Sub.cons rfl ?_)) rfl rfl ?_
    rintro j ⟨hj, hsame⟩ KL hKL
    by_cases hjl : j < a.length
    · have hjb : j < b.length := by omega
      have hc0 : (a.map cV)[((j : Nat) : Int).toNat]? = some (cV a[j]) := by rw [Int.toNat_natCast, List.getElem?_map, List.getElem?_eq_getElem hjl]; rfl
      have hd0 : (b.map cV)[((j : Nat) : Int).toNat]? = some (cV b[j]) := by rw [Int.toNat_natCast, List.getElem?_map, List.getElem?_eq_getElem hjb]; rfl
      have hc1 : a[j]? = some a[j] := List.getElem?_eq_getElem hjl
      have hd1 : b[j]? = some b[j] := List.getElem?_eq_getElem hjb
      generalize a[j] = x at hc0 hc1
      generalize b[j] = y at hd0 hd1
      (repeat' (first | refine X.rq ?_ | (refine X.rc ?_ ?_ <;> intro hc <;> first | (exfalso; omega) | skip)))
      refine X.draw (K0) [] (.pu 0 (.pu 1 (.pu 4 (.pu 5 (.st 2 (.st 3 (.st 6 (.st 7 (.pu 8 .nil))))))))) ?_
      refine K.d_pu rfl (fun _ _ => X.mv) rfl ?_
      refine K.d_pu rfl (fun _ _ => X.mv) rfl ?_
      refine K.d_pu rfl (fun _ _ => X.mv) rfl ?_
      refine K.d_pu rfl (fun _ _ => X.mv) rfl ?_
      refine K.d_stE rfl (K.p_indexK hv (Fx.und rfl) (Fx.sz rfl) rfl rfl (by omega) hc0) rfl ?_
      rintro v2 ⟨b1, o1, rfl, hcel⟩
      refine K.d_st rfl (K.p_loadM (Fx.agg rfl) rfl hcel (Fx.sz rfl) rfl) rfl ?_
      refine K.d_stE rfl (K.p_indexK hu (Fx.und rfl) (Fx.sz rfl) rfl rfl (by omega) hd0) rfl ?_
      rintro v3 ⟨b2, o2, rfl, hcel2⟩
      refine K.d_st rfl (K.p_loadM (Fx.agg rfl) rfl hcel2 (Fx.sz rfl) rfl) rfl ?_
      refine K.d_pu rfl (fun _ _ => X.bneq) rfl ?_
      rw [eqV]
      refine K.d_nil ?_
      by_cases hxy : x = y
      · rw [decide_eq_true hxy]
        (repeat' (first | refine X.rq ?_ | (refine X.rc ?_ ?_ <;> intro hc <;> first | (exfalso; omega) | skip)))
        refine K.a_round hKL (j + 1) ⟨by omega, fun i hi => ?_⟩ (by repeat (first | exact K.Sub.nil _ | refine K.Sub.cons rfl ?_)) rfl rfl (by omega)
        by_cases hij : i < j
        · exact hsame i hij
        · obtain rfl : i = j := by omega
          rw [hc1, hd1, hxy]
      · rw [decide_eq_false hxy]
        (repeat' (first | refine X.rq ?_ | (refine X.rc ?_ ?_ <;> intro hc <;> first | (exfalso; omega) | skip)))
        rw [decide_eq_false (fun e => hxy (by rw [e, hd1] at hc1; cases hc1; rfl))]
        refine K.done (by first | exact Or.inl rfl | exact Or.inr rfl) rfl (by first | exact K.Base.le.refl _ | assumption) (H' := K0) rfl ⟨rfl, rfl, rfl⟩
    · obtain rfl : j = a.length := by omega
      (repeat' (first | refine X.rq ?_ | (refine X.rc ?_ ?_ <;> intro hc <;> first | (exfalso; omega) | skip)))
      rw [decide_eq_true (List.ext_getElem? fun i => by
        by_cases hi : i < a.length
        · exact hsame i hi
        · rw [List.getElem?_eq_none (by omega), List.getElem?_eq_none (by omega)])]
      refine K.done (by first | exact Or.inl rfl | exact Or.inr rfl) rfl (by first | exact K.Base.le.refl _ | assumption) (H' := K0) rfl ⟨rfl, rfl, rfl⟩
  · (repeat' (first | refine X.rq ?_ | (refine X.rc ?_ ?_ <;> intro hc <;> first | (exfalso; omega) | skip)))
    rw [decide_eq_false (fun e => hne (by rw [e]))]
    refine K.done (by first | exact Or.inl rfl | exact Or.inr rfl) rfl (by first | exact K.Base.le.refl _ | assumption) (H' := K0) rfl ⟨rfl, rfl, rfl⟩
end Go.Proofs.Ytdjacjhojbkgjaa.Rw
