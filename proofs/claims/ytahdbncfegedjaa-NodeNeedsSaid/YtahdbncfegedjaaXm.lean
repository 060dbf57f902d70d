/-
  Trees of pages: half of a row, the document's; cells that come up. Conditions: each theorem's own.
-/
import Derived.Test.YtahdbncfegedjaaXl

namespace Go.Proofs.Ytahdbncfegedjaa.Nd
open Go Go.K Go.Proofs Go.Proofs.Ytahdbncfegedjaa Go.Proofs.Ytahdbncfegedjaa.Pg
set_option linter.unusedVariables false
set_option linter.unusedSimpArgs false
set_option maxRecDepth 10000

theorem sumW_pos {l : List PCell} (h : 0 < l.length) : 0 < sumW l := by
  cases l with
  | nil => cases h
  | cons a l => simp only [sumW, List.map_cons, List.sum_cons, szW]; omega
set_option maxHeartbeats 1000000 in
theorem RHalf (h : Base) (kind : Int) (v : Value) (l : List PCell) (hv : CellsV h v l) (hs : small l) (h2 : 2 ≤ l.length) :
    TrV Try.prog 91 [.int .i64 kind, v] h [] (.int .i64 (halfQ kind l)) [] := by
  obtain ⟨es, hsl, hrow⟩ := CellsV.row hv
  have hel := hrow.1
  obtain ⟨ao, ca, rfl⟩ := hsl.len
  rw [hel] at hsl ⊢
  have hl400 := hs.1
  have hpos := sumW_pos (show 0 < l.length by omega)
  refine K.enter Try.func91 rfl (Nat.le_of_ble_eq_true rfl) (fun F => ?_)
  simp only [List.nil_append]
  (repeat' (first | refine X.rq ?_ | (refine X.rc ?_ ?_ <;> intro hc <;> first | (exfalso; omega) | skip)))
  refine K.c_loop (σ := Nat) (fun j => [(0, .int .i64 kind), (1, .slice ao l.length ca), (5, .int .i64 (sumW (l.take j))), (6, .int .i64 j)]) (fun _ => h) (fun _ => F)
    (fun j => j ≤ l.length) (fun j => l.length - j) 0 (Nat.zero_le _) (by repeat (first | exact K.Sub.nil _ | refine K.Sub.cons rfl ?_)) rfl rfl ?_
  rintro j hj KL hKL
  have at_ : ∀ (j : Nat) (hjl : j < l.length), ∃ ec x, es[((j : Nat) : Int).toNat]? = some ec ∧ l[j]? = some x ∧ CellC h ec x ∧ x.data.length ≤ 4000 := fun j hjl => by
    have hc1 : es[j]? = some (es[j]'(by omega)) := List.getElem?_eq_getElem (by omega)
    have he1 : l[j]? = some l[j] := List.getElem?_eq_getElem hjl
    exact ⟨_, _, by rw [Int.toNat_natCast]; exact hc1, he1, hrow.2.2 j _ _ hc1 he1, hs.2 _ (List.getElem_mem hjl)⟩
  by_cases hjl : j < l.length
  · obtain ⟨ec, x, hcz, he1, hcc, hx4⟩ := at_ j hjl
    obtain ⟨hk2, hd2, ao4, ca4, rfl, hb2⟩ := hcc
    have hsa := sumW_at he1
    have hss := sumW_small hs j
    (repeat' (first | refine X.rq ?_ | (refine X.rc ?_ ?_ <;> intro hc <;> first | (exfalso; omega) | skip)))
    refine K.s_pureE (K.p_indexL hsl (Fx.und rfl) (Fx.sz rfl) rfl rfl (by omega) hcz) rfl ?_
    rintro v2 ⟨b, o, rfl, hcel⟩
    have hq1 := (Cels.up (K := F) hcel).2.2.1
    (repeat' (first | refine X.rq ?_ | (refine X.rc ?_ ?_ <;> intro hc <;> first | (exfalso; omega) | skip)))
    refine K.a_round hKL (j + 1) (by omega) (by rw [hsa, show ((sumW (l.take j) + szW x : Nat) : Int) = (sumW (l.take j) : Int) + 6 + (x.data.length : Int) by unfold szW; omega]; exact (by repeat (first | exact K.Sub.nil _ | refine K.Sub.cons rfl ?_))) rfl rfl (by omega)
  · obtain rfl : j = l.length := by omega
    rw [List.take_length]
    have hall := sumW_small hs l.length
    rw [List.take_length] at hall
    obtain ⟨st, hst⟩ : ∃ st : Nat, st = if kind = 3 then 2 else 1 := ⟨_, rfl⟩
    have hst2 : st = 2 ∨ st = 1 := by rw [hst]; split <;> simp
    have hstk : (kind = 3 → st = 2) ∧ (¬ kind = 3 → st = 1) := by rw [hst]; constructor <;> intro h <;> simp [h]
    have hq : halfQ kind l = min (kH l) (l.length - st) := by rw [halfQ, ← hst]
    obtain ⟨s1, s2, s3⟩ := kH_spec l
    have h00 : ∀ i, i ≤ 0 → 2 * sumW (l.take i) < sumW l := fun i hi => by
      obtain rfl : i = 0 := by omega
      simpa [sumW] using hpos
    (repeat' (first | refine X.rq ?_ | (refine X.rc ?_ ?_ <;> intro hc <;> first | (exfalso; omega) | skip)))
    · obtain rfl : st = 2 := hstk.1 (by assumption)
      refine K.c_loop (σ := Nat) (fun k => [(0, .int .i64 kind), (1, .slice ao l.length ca), (5, .int .i64 (sumW l)), (7, .int .i64 2), (8, .int .i64 (sumW (l.take k))), (9, .int .i64 k)]) (fun _ => h) (fun _ => F)
        (fun k => k ≤ l.length - 2 ∧ ∀ i, i ≤ k → 2 * sumW (l.take i) < sumW l) (fun k => l.length - k) 0 ⟨Nat.zero_le _, h00⟩ (by repeat (first | exact K.Sub.nil _ | refine K.Sub.cons rfl ?_)) rfl rfl ?_
      rintro k ⟨hk, hno⟩ KM hKM
      have hss := sumW_small hs k
      by_cases hlt : k < l.length - 2
      · obtain ⟨ec, x, hcz, he1, hcc, hx4⟩ := at_ k (by omega)
        obtain ⟨hk2, hd2, ao4, ca4, rfl, hb2⟩ := hcc
        have hsa := sumW_at he1
        have hsz : szW x = 6 + x.data.length := rfl
        by_cases hge : sumW l ≤ 2 * sumW (l.take (k + 1))
        · have hkk := kH_eq (l := l) (k := k + 1) (by omega) (fun i hi => hno i (by omega)) hge
          (repeat' (first | refine X.rq ?_ | (refine X.rc ?_ ?_ <;> intro hc <;> first | (exfalso; omega) | skip)))
          refine K.s_pureE (K.p_indexL hsl (Fx.und rfl) (Fx.sz rfl) rfl rfl (by omega) hcz) rfl ?_
          rintro v2 ⟨b, o, rfl, hcel⟩
          have hq1 := (Cels.up (K := F) hcel).2.2.1
          (repeat' (first | refine X.rq ?_ | (refine X.rc ?_ ?_ <;> intro hc <;> first | (exfalso; omega) | skip)))
          refine K.done (by first | exact Or.inl rfl | exact Or.inr rfl) rfl (by first | exact K.Base.le.refl _ | assumption) (H' := []) rfl ⟨?_, rfl, rfl⟩
          show Value.int _ _ = Value.int _ _
          rw [hq, hkk]
          congr 1
          omega
        · (repeat' (first | refine X.rq ?_ | (refine X.rc ?_ ?_ <;> intro hc <;> first | (exfalso; omega) | skip)))
          refine K.s_pureE (K.p_indexL hsl (Fx.und rfl) (Fx.sz rfl) rfl rfl (by omega) hcz) rfl ?_
          rintro v2 ⟨b, o, rfl, hcel⟩
          have hq1 := (Cels.up (K := F) hcel).2.2.1
          (repeat' (first | refine X.rq ?_ | (refine X.rc ?_ ?_ <;> intro hc <;> first | (exfalso; omega) | skip)))
          refine K.a_round hKM (k + 1) ⟨by omega, fun i hi => ?_⟩ (by rw [hsa, show ((sumW (l.take k) + szW x : Nat) : Int) = (sumW (l.take k) : Int) + 6 + (x.data.length : Int) by omega]; exact (by repeat (first | exact K.Sub.nil _ | refine K.Sub.cons rfl ?_))) rfl rfl (by omega)
          by_cases hik : i ≤ k
          · exact hno i hik
          · obtain rfl : i = k + 1 := by omega
            omega
      · obtain rfl : k = l.length - 2 := by omega
        have hkk : l.length - 2 ≤ kH l := by
          rcases Nat.lt_or_ge (kH l) (l.length - 2) with h1 | h1
          · have := hno (kH l) (by omega)
            omega
          · exact h1
        (repeat' (first | refine X.rq ?_ | (refine X.rc ?_ ?_ <;> intro hc <;> first | (exfalso; omega) | skip)))
        refine K.done (by first | exact Or.inl rfl | exact Or.inr rfl) rfl (by first | exact K.Base.le.refl _ | assumption) (H' := []) rfl ⟨?_, rfl, rfl⟩
        show Value.int _ _ = Value.int _ _
        rw [hq]
        congr 1
        omega
    · obtain rfl : st = 1 := hstk.2 (by assumption)
      refine K.c_loop (σ := Nat) (fun k => [(0, .int .i64 kind), (1, .slice ao l.length ca), (5, .int .i64 (sumW l)), (7, .int .i64 1), (8, .int .i64 (sumW (l.take k))), (9, .int .i64 k)]) (fun _ => h) (fun _ => F)
        (fun k => k ≤ l.length - 1 ∧ ∀ i, i ≤ k → 2 * sumW (l.take i) < sumW l) (fun k => l.length - k) 0 ⟨Nat.zero_le _, h00⟩ (by repeat (first | exact K.Sub.nil _ | refine K.Sub.cons rfl ?_)) rfl rfl ?_
      rintro k ⟨hk, hno⟩ KM hKM
      have hss := sumW_small hs k
      by_cases hlt : k < l.length - 1
      · obtain ⟨ec, x, hcz, he1, hcc, hx4⟩ := at_ k (by omega)
        obtain ⟨hk2, hd2, ao4, ca4, rfl, hb2⟩ := hcc
        have hsa := sumW_at he1
        have hsz : szW x = 6 + x.data.length := rfl
        by_cases hge : sumW l ≤ 2 * sumW (l.take (k + 1))
        · have hkk := kH_eq (l := l) (k := k + 1) (by omega) (fun i hi => hno i (by omega)) hge
          (repeat' (first | refine X.rq ?_ | (refine X.rc ?_ ?_ <;> intro hc <;> first | (exfalso; omega) | skip)))
          refine K.s_pureE (K.p_indexL hsl (Fx.und rfl) (Fx.sz rfl) rfl rfl (by omega) hcz) rfl ?_
          rintro v2 ⟨b, o, rfl, hcel⟩
          have hq1 := (Cels.up (K := F) hcel).2.2.1
          (repeat' (first | refine X.rq ?_ | (refine X.rc ?_ ?_ <;> intro hc <;> first | (exfalso; omega) | skip)))
          refine K.done (by first | exact Or.inl rfl | exact Or.inr rfl) rfl (by first | exact K.Base.le.refl _ | assumption) (H' := []) rfl ⟨?_, rfl, rfl⟩
          show Value.int _ _ = Value.int _ _
          rw [hq, hkk]
          congr 1
          omega
        · (repeat' (first | refine X.rq ?_ | (refine X.rc ?_ ?_ <;> intro hc <;> first | (exfalso; omega) | skip)))
          refine K.s_pureE (K.p_indexL hsl (Fx.und rfl) (Fx.sz rfl) rfl rfl (by omega) hcz) rfl ?_
          rintro v2 ⟨b, o, rfl, hcel⟩
          have hq1 := (Cels.up (K := F) hcel).2.2.1
          (repeat' (first | refine X.rq ?_ | (refine X.rc ?_ ?_ <;> intro hc <;> first | (exfalso; omega) | skip)))
          refine K.a_round hKM (k + 1) ⟨by omega, fun i hi => ?_⟩ (by rw [hsa, show ((sumW (l.take k) + szW x : Nat) : Int) = (sumW (l.take k) : Int) + 6 + (x.data.length : Int) by omega]; exact (by repeat (first | exact K.Sub.nil _ | refine K.Sub.cons rfl ?_))) rfl rfl (by omega)
          by_cases hik : i ≤ k
          · exact hno i hik
          · obtain rfl : i = k + 1 := by omega
            omega
      · obtain rfl : k = l.length - 1 := by omega
        have hkk : l.length - 1 ≤ kH l := by
          rcases Nat.lt_or_ge (kH l) (l.length - 1) with h1 | h1
          · have := hno (kH l) (by omega)
            omega
          · exact h1
        (repeat' (first | refine X.rq ?_ | (refine X.rc ?_ ?_ <;> intro hc <;> first | (exfalso; omega) | skip)))
        refine K.done (by first | exact Or.inl rfl | exact Or.inr rfl) rfl (by first | exact K.Base.le.refl _ | assumption) (H' := []) rfl ⟨?_, rfl, rfl⟩
        show Value.int _ _ = Value.int _ _
        rw [hq]
        congr 1
        omega
end Go.Proofs.Ytahdbncfegedjaa.Nd
