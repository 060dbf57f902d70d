/-
  Trees of pages: half of a row, both; cells that come up. Conditions: each theorem's own.
-/
import Derived.Test.YtahdbncfegedjaaXk

namespace Go.Proofs.Ytahdbncfegedjaa.Nd
open Go Go.K Go.Proofs Go.Proofs.Ytahdbncfegedjaa Go.Proofs.Ytahdbncfegedjaa.Pg
set_option linter.unusedVariables false
set_option linter.unusedSimpArgs false
set_option maxRecDepth 10000

def szW (x : PCell) : Nat := 6 + x.data.length
def sumW (l : List PCell) : Nat := (l.map szW).sum
theorem sumW_at {l : List PCell} {j : Nat} {x : PCell} (h : l[j]? = some x) : sumW (l.take (j + 1)) = sumW (l.take j) + szW x := by
  rw [List.take_add_one, h]; simp [sumW]
theorem sumW_le {l : List PCell} (h : ∀ x ∈ l, x.data.length ≤ 4000) : sumW l ≤ l.length * 4006 := by
  induction l with
  | nil => exact Nat.le_refl _
  | cons a l ih =>
    have := ih fun x hx => h x (List.mem_cons_of_mem _ hx)
    have := h a (List.mem_cons_self ..)
    simp only [sumW, List.map_cons, List.sum_cons, List.length_cons, szW] at *
    omega
theorem sumW_small {l : List PCell} (h : small l) (j : Nat) : sumW (l.take j) ≤ 1602400 := by
  have h1 := sumW_le (l := l.take j) fun x hx => h.2 x (List.mem_of_mem_take hx)
  have h2 : (l.take j).length ≤ 400 := by rw [List.length_take]; have := h.1; omega
  have h3 : (l.take j).length * 4006 ≤ 400 * 4006 := Nat.mul_le_mul_right _ h2
  omega
def kHF (all : Nat) : Nat → List PCell → Nat
  | _, [] => 0
  | left, x :: r => if all ≤ 2 * left then 0 else 1 + kHF all (left + szW x) r
def kH (row : List PCell) : Nat := kHF (sumW row) 0 row
def halfQ (kind : Int) (row : List PCell) : Nat := min (kH row) (row.length - if kind = 3 then 2 else 1)
theorem kHF_eq (all : Nat) : ∀ {l : List PCell} {left k : Nat}, k ≤ l.length → (∀ i, i < k → 2 * (left + sumW (l.take i)) < all) → all ≤ 2 * (left + sumW (l.take k)) → kHF all left l = k
  | [], left, k, hk, _, _ => by simp at hk; subst hk; rfl
  | x :: l, left, 0, _, _, h2 => by
    rw [kHF, if_pos (by simpa [sumW] using h2)]
  | x :: l, left, k + 1, hk, h1, h2 => by
    have h0 := h1 0 (by omega)
    rw [kHF, if_neg (by simp [sumW] at h0; omega), kHF_eq all (l := l) (left := left + szW x) (k := k) (by simpa using hk) (fun i hi => by
      have := h1 (i + 1) (by omega)
      simp only [List.take_succ_cons, sumW, List.map_cons, List.sum_cons] at this ⊢
      omega) (by
      simp only [List.take_succ_cons, sumW, List.map_cons, List.sum_cons] at h2 ⊢
      omega)]
    omega
theorem kH_eq {l : List PCell} {k : Nat} (hk : k ≤ l.length) (h1 : ∀ i, i < k → 2 * sumW (l.take i) < sumW l) (h2 : sumW l ≤ 2 * sumW (l.take k)) : kH l = k :=
  kHF_eq _ hk (by simpa using h1) (by simpa using h2)
theorem least {p : Nat → Prop} [DecidablePred p] : ∀ n, p n → ∃ k, k ≤ n ∧ p k ∧ ∀ i, i < k → ¬ p i
  | 0, h => ⟨0, Nat.le_refl _, h, fun i hi => by omega⟩
  | n + 1, h => by
    by_cases hn : ∃ k, k ≤ n ∧ p k
    · obtain ⟨m, hm, hp⟩ := hn
      obtain ⟨k, h1, h2, h3⟩ := least m hp
      exact ⟨k, by omega, h2, h3⟩
    · exact ⟨n + 1, Nat.le_refl _, h, fun i hi hpi => hn ⟨i, by omega, hpi⟩⟩
theorem kH_spec (l : List PCell) : kH l ≤ l.length ∧ sumW l ≤ 2 * sumW (l.take (kH l)) ∧ ∀ i, i < kH l → 2 * sumW (l.take i) < sumW l := by
  obtain ⟨k, h1, h2, h3⟩ := least (p := fun k => sumW l ≤ 2 * sumW (l.take k)) l.length (by rw [List.take_length]; omega)
  have hk := kH_eq h1 (fun i hi => by have := h3 i hi; omega) h2
  rw [hk]
  exact ⟨h1, h2, fun i hi => by have := h3 i hi; omega⟩
set_option maxHeartbeats 1000000 in
theorem Half (h : Base) (kind : Int) (v : Value) (l : List PCell) (hv : CellsV h v l) (hs : small l) (h2 : 2 ≤ l.length) :
    TrV Try.prog 86 [.int .i64 kind, v] h [] (.int .i64 (halfQ kind l)) [] := by
  obtain ⟨es, hsl, hrow⟩ := CellsV.row hv
  have hel := hrow.1
  obtain ⟨ao, ca, rfl⟩ := hsl.len
  rw [hel] at hsl ⊢
  have hl400 := hs.1
  refine K.enter Try.func86 rfl (Nat.le_of_ble_eq_true rfl) (fun F => ?_)
  simp only [List.nil_append]
  (repeat' (first | refine X.rq ?_ | (refine X.rc ?_ ?_ <;> intro hc <;> first | (exfalso; omega) | skip)))
  refine K.c_loop (σ := Nat) (fun j => [(0, .int .i64 kind), (1, .slice ao l.length ca), (5, .int .i64 (sumW (l.take j))), (6, .int .i64 0), (7, .int .i64 0), (10, .slice ao l.length ca), (11, .int .i64 l.length), (12, .int .i64 j)]) (fun _ => h) (fun _ => F)
    (fun j => j ≤ l.length) (fun j => l.length - j) 0 (Nat.zero_le _) (by repeat (first | exact K.Sub.nil _ | refine K.Sub.cons rfl ?_)) rfl rfl ?_
  rintro j hj KL hKL
  by_cases hjl : j < l.length
  · have hc1 : es[j]? = some (es[j]'(by omega)) := List.getElem?_eq_getElem (by omega)
    have hcz : es[((j : Nat) : Int).toNat]? = some (es[j]'(by omega)) := by rw [Int.toNat_natCast]; exact hc1
    have he1 : l[j]? = some l[j] := List.getElem?_eq_getElem hjl
    have hx4 := hs.2 _ (List.getElem_mem hjl)
    generalize es[j]'(by omega) = ec at hc1 hcz
    generalize l[j] = x at he1 hx4
    obtain ⟨hk2, hd2, ao4, ca4, rfl, hb2⟩ := hrow.2.2 j ec x hc1 he1
    have hsa := sumW_at he1
    have hss := sumW_small hs j
    (repeat' (first | refine X.rq ?_ | (refine X.rc ?_ ?_ <;> intro hc <;> first | (exfalso; omega) | skip)))
    refine K.s_pureE (K.p_indexL hsl (Fx.und rfl) (Fx.sz rfl) rfl rfl (by omega) hcz) rfl ?_
    rintro v2 ⟨b, o, rfl, hcel⟩
    refine K.s_pure (K.p_loadM (Fx.agg rfl) rfl (Cels.up hcel) (Fx.sz rfl) rfl) rfl ?_
    refine K.l_alloc (Fx.zr rfl) rfl rfl (fun B9 => ?_)
    refine X.stw ?_
    simp only [List.set_cons_zero, List.set_cons_succ, List.eraseIdx_cons_zero, List.eraseIdx_cons_succ, List.cons_append, List.nil_append]
    (repeat' (first | refine X.rq ?_ | (refine X.rc ?_ ?_ <;> intro hc <;> first | (exfalso; omega) | skip)))
    refine K.AT.drop ?_
    refine K.a_round hKL (j + 1) (by omega) (by rw [hsa, show ((sumW (l.take j) + szW x : Nat) : Int) = (sumW (l.take j) : Int) + (6 + (x.data.length : Int)) by unfold szW; omega]; exact (by repeat (first | exact K.Sub.nil _ | refine K.Sub.cons rfl ?_))) rfl rfl (by omega)
  · obtain rfl : j = l.length := by omega
    rw [List.take_length]
    have hall := sumW_small hs l.length
    rw [List.take_length] at hall
    (repeat' (first | refine X.rq ?_ | (refine X.rc ?_ ?_ <;> intro hc <;> first | (exfalso; omega) | skip)))
    refine K.c_loop (σ := Nat) (fun k => [(0, .int .i64 kind), (1, .slice ao l.length ca), (5, .int .i64 (sumW l)), (6, .int .i64 (sumW (l.take k))), (7, .int .i64 k)]) (fun _ => h) (fun _ => F)
      (fun k => k ≤ l.length ∧ ∀ i, i < k → 2 * sumW (l.take i) < sumW l) (fun k => l.length - k) 0 ⟨Nat.zero_le _, fun i hi => by omega⟩ (by repeat (first | exact K.Sub.nil _ | refine K.Sub.cons rfl ?_)) rfl rfl ?_
    rintro k ⟨hk, hno⟩ KM hKM
    have hss := sumW_small hs k
    by_cases hlt : 2 * sumW (l.take k) < sumW l
    · have hkl : k < l.length := by
        rcases Nat.lt_or_ge k l.length with h1 | h1
        · exact h1
        · rw [List.take_of_length_le h1] at hlt; omega
      have hc1 : es[k]? = some (es[k]'(by omega)) := List.getElem?_eq_getElem (by omega)
      have hcz : es[((k : Nat) : Int).toNat]? = some (es[k]'(by omega)) := by rw [Int.toNat_natCast]; exact hc1
      have he1 : l[k]? = some l[k] := List.getElem?_eq_getElem hkl
      have hx4 := hs.2 _ (List.getElem_mem hkl)
      generalize es[k]'(by omega) = ec at hc1 hcz
      generalize l[k] = x at he1 hx4
      obtain ⟨hk2, hd2, ao4, ca4, rfl, hb2⟩ := hrow.2.2 k ec x hc1 he1
      have hsa := sumW_at he1
      (repeat' (first | refine X.rq ?_ | (refine X.rc ?_ ?_ <;> intro hc <;> first | (exfalso; omega) | skip)))
      refine K.s_pureE (K.p_indexL hsl (Fx.und rfl) (Fx.sz rfl) rfl rfl (by omega) hcz) rfl ?_
      rintro v2 ⟨b, o, rfl, hcel⟩
      have hq1 := (Cels.up (K := F) hcel).2.2.1
      (repeat' (first | refine X.rq ?_ | (refine X.rc ?_ ?_ <;> intro hc <;> first | (exfalso; omega) | skip)))
      refine K.a_round hKM (k + 1) ⟨by omega, fun i hi => ?_⟩ (by rw [hsa, show ((sumW (l.take k) + szW x : Nat) : Int) = (sumW (l.take k) : Int) + (6 + (x.data.length : Int)) by unfold szW; omega]; exact (by repeat (first | exact K.Sub.nil _ | refine K.Sub.cons rfl ?_))) rfl rfl (by omega)
      by_cases hik : i < k
      · exact hno i hik
      · obtain rfl : i = k := by omega
        exact hlt
    · have hkk := kH_eq hk hno (by omega)
      (repeat' (first | refine X.rq ?_ | (refine X.rc ?_ ?_ <;> intro hc <;> first | (exfalso; omega) | skip)))
      · have h3 : kind = 3 := by assumption
        refine K.done (by first | exact Or.inl rfl | exact Or.inr rfl) rfl (by first | exact K.Base.le.refl _ | assumption) (H' := []) rfl ⟨?_, rfl, rfl⟩
        show Value.int _ _ = Value.int _ _
        rw [halfQ, hkk, if_pos h3]
        congr 1
        omega
      · have h3 : ¬ kind = 3 := by assumption
        refine K.done (by first | exact Or.inl rfl | exact Or.inr rfl) rfl (by first | exact K.Base.le.refl _ | assumption) (H' := []) rfl ⟨?_, rfl, rfl⟩
        show Value.int _ _ = Value.int _ _
        rw [halfQ, hkk, if_neg h3]
        congr 1
        omega
end Go.Proofs.Ytahdbncfegedjaa.Nd
