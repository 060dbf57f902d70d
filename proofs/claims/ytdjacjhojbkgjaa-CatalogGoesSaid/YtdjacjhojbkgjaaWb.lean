/-
  The order of values and of rows; rows sorted by it: the document's. Conditions: each theorem's own.
-/
import Derived.Test.YtdjacjhojbkgjaaWa

namespace Go.Proofs.Ytdjacjhojbkgjaa.Ct
open Go Go.K Go.Proofs Go.Proofs.Ytdjacjhojbkgjaa Go.Proofs.Ytdjacjhojbkgjaa.Rw
set_option linter.unusedVariables false
set_option linter.unusedSimpArgs false
set_option maxRecDepth 10000

/-- A kind's place. -/
def placeQ (k : Int) : Int := if k = 0 then 0 else if k = 3 then 1 else if k = 1 then 2 else 3
theorem Place (h : Base) (k : Int) : TrV Try.prog 114 [.int .i64 k] h [] (.int .i64 (placeQ k)) [] := by
  refine K.enter Try.func114 rfl (Nat.le_of_ble_eq_true rfl) (fun F => ?_)
  simp only [List.nil_append]
  (repeat' (first | refine X.rq ?_ | (refine X.rc ?_ ?_ <;> intro hc <;> first | (exfalso; omega) | skip)))
  all_goals
    refine K.done (by first | exact Or.inl rfl | exact Or.inr rfl) rfl (by first | exact K.Base.le.refl _ | assumption) (H' := []) rfl ⟨?_, rfl, rfl⟩
    show Value.int _ _ = Value.int _ _
    congr 1
    unfold placeQ
    split <;> (try split) <;> (try split) <;> omega
theorem RBytes (h : Base) (a b : ByteArray) (ha : a.size ≤ 9223372036854775807) (hb : b.size ≤ 9223372036854775807) : TrV Try.prog 115 [.string a, .string b] h [] (.int .i64 (Lib.compareBytes a.data.toList b.data.toList)) [] := by
  have hsa : a.data.toList.length = a.size := by simp
  have hsb : b.data.toList.length = b.size := by simp
  refine K.enter Try.func115 rfl (Nat.le_of_ble_eq_true rfl) (fun F => ?_)
  simp only [List.nil_append]
  (repeat' (first | refine X.rq ?_ | (refine X.rc ?_ ?_ <;> intro hc <;> first | (exfalso; omega) | skip)))
  refine K.c_loop (σ := Nat) (fun j => [(0, .string a), (1, .string b), (5, .int .i64 j)]) (fun _ => h) (fun _ => F) (fun j => j ≤ a.size ∧ j ≤ b.size ∧ ∀ i, i < j → ∃ c, a.data.toList[i]? = some c ∧ b.data.toList[i]? = some c) (fun j => a.size - j) 0 ⟨Nat.zero_le _, Nat.zero_le _, fun i hi => by omega⟩ (by repeat (first | exact K.Sub.nil _ | refine K.Sub.cons rfl ?_)) rfl rfl ?_
  rintro j ⟨hj1, hj2, hsame⟩ KL hKL
  by_cases hjl : j < a.data.toList.length ∧ j < b.data.toList.length
  · have hc0 : a.data.toList[((j : Nat) : Int).toNat]? = some (a.data.toList[j]'hjl.1) := by rw [Int.toNat_natCast]; exact List.getElem?_eq_getElem hjl.1
    have hc1 : a.data.toList[j]? = some (a.data.toList[j]'hjl.1) := List.getElem?_eq_getElem hjl.1
    have hd0 : b.data.toList[((j : Nat) : Int).toNat]? = some (b.data.toList[j]'hjl.2) := by rw [Int.toNat_natCast]; exact List.getElem?_eq_getElem hjl.2
    have hd1 : b.data.toList[j]? = some (b.data.toList[j]'hjl.2) := List.getElem?_eq_getElem hjl.2
    generalize a.data.toList[j]'hjl.1 = c at hc0 hc1
    generalize b.data.toList[j]'hjl.2 = d at hd0 hd1
    obtain ⟨hlt, hgt⟩ := cmp_head hsame hc1 hd1
    have hcl := c.toNat_lt
    have hdl := d.toNat_lt
    (repeat' (first | refine X.rq ?_ | (refine X.rc ?_ ?_ <;> intro hc <;> first | (exfalso; omega) | skip)))
    refine X.draw ([]) [] (.pu 0 (.pu 1 (.pu 2 (.pu 3 (.pu 4 (.pu 5 (.pu 6 .nil))))))) ?_
    refine K.d_pu rfl (fun _ _ => X.mv) rfl ?_
    refine K.d_pu rfl (fun _ _ => X.mv) rfl ?_
    refine K.d_pu rfl (fun _ _ => X.ix) rfl ?_
    refine K.d_pu rfl (fun _ _ => X.mv) rfl ?_
    refine K.d_pu rfl (fun _ _ => X.mv) rfl ?_
    refine K.d_pu rfl (fun _ _ => X.ix) rfl ?_
    refine K.d_pu rfl (fun _ _ => X.blss) rfl ?_
    refine K.d_nil ?_
    (repeat' (first | refine X.rq ?_ | (refine X.rc ?_ ?_ <;> intro hc <;> first | (exfalso; omega) | skip)))
    · rw [hlt (by omega)]
      refine K.done (by first | exact Or.inl rfl | exact Or.inr rfl) rfl (by first | exact K.Base.le.refl _ | assumption) (H' := []) rfl ⟨rfl, rfl, rfl⟩
    · refine X.draw ([]) [] (.pu 0 (.pu 1 (.pu 2 (.pu 3 (.pu 4 (.pu 5 (.pu 6 .nil))))))) ?_
      refine K.d_pu rfl (fun _ _ => X.mv) rfl ?_
      refine K.d_pu rfl (fun _ _ => X.mv) rfl ?_
      refine K.d_pu rfl (fun _ _ => X.ix) rfl ?_
      refine K.d_pu rfl (fun _ _ => X.mv) rfl ?_
      refine K.d_pu rfl (fun _ _ => X.mv) rfl ?_
      refine K.d_pu rfl (fun _ _ => X.ix) rfl ?_
      refine K.d_pu rfl (fun _ _ => X.bgtr) rfl ?_
      refine K.d_nil ?_
      (repeat' (first | refine X.rq ?_ | (refine X.rc ?_ ?_ <;> intro hc <;> first | (exfalso; omega) | skip)))
      · rw [hgt (by omega)]
        refine K.done (by first | exact Or.inl rfl | exact Or.inr rfl) rfl (by first | exact K.Base.le.refl _ | assumption) (H' := []) rfl ⟨rfl, rfl, rfl⟩
      · have hcd : c = d := UInt8.toNat_inj.1 (by omega)
        refine K.a_round hKL (j + 1) ⟨by omega, by omega, fun i hi => ?_⟩ (by repeat (first | exact K.Sub.nil _ | refine K.Sub.cons rfl ?_)) rfl rfl (by omega)
        by_cases hij : i < j
        · exact hsame i hij
        · obtain rfl : i = j := by omega
          exact ⟨c, hc1, by rw [hcd]; exact hd1⟩
  · have he := cmp_end (a := a.data.toList) (b := b.data.toList) fun i hi => hsame i (by omega)
    rw [he, hsa, hsb]
    (repeat' (first | refine X.rq ?_ | (refine X.rc ?_ ?_ <;> intro hc <;> first | (exfalso; omega) | skip)))
    all_goals
      refine K.done (by first | exact Or.inl rfl | exact Or.inr rfl) rfl (by first | exact K.Base.le.refl _ | assumption) (H' := []) rfl ⟨?_, rfl, rfl⟩
      show Value.int _ _ = Value.int _ _
      congr 1
      split <;> (try split) <;> omega
/-- The order of values. -/
def ordV (a b : Val) : Int := if placeQ a.kind < placeQ b.kind then -1 else if placeQ b.kind < placeQ a.kind then 1 else if a.kind = 2 then Lib.compareBytes a.s.data.toList b.s.data.toList else if a.n < b.n then -1 else if b.n < a.n then 1 else 0
def ordR : List Val → List Val → Int
  | [], [] => 0
  | [], _ :: _ => -1
  | _ :: _, [] => 1
  | a :: ar, b :: br => if ordV a b ≠ 0 then ordV a b else ordR ar br
theorem OrderV (h : Base) (a b : Val) (ha : wfV a) (hb : wfV b) : TrV Try.prog 108 [.agg (cV a).toArray, .agg (cV b).toArray] h [] (.int .i64 (ordV a b)) [] := by
  refine K.enter Try.func108 rfl (Nat.le_of_ble_eq_true rfl) (fun F => ?_)
  (repeat' (first | refine X.rq ?_ | (refine X.rc ?_ ?_ <;> intro hc <;> first | (exfalso; omega) | skip)))
  refine K.l_box rfl rfl rfl (fun B1 => ?_)
  refine K.l_box rfl rfl rfl (fun B2 => ?_)
  (repeat' (first | refine X.rq ?_ | (refine X.rc ?_ ?_ <;> intro hc <;> first | (exfalso; omega) | skip)))
  refine X.draw ([blk B2 89 (cV b), blk B1 89 (cV a)]) [] (.pu 0 (.pu 3 (.st 1 (.st 4 (.on 2 (.on 5 (.pu 6 (.pu 7 .nil)))))))) ?_
  refine K.d_pu rfl (fun _ _ => X.fa) rfl ?_
  refine K.d_pu rfl (fun _ _ => X.fa) rfl ?_
  refine K.d_st rfl X.ld rfl ?_
  refine K.d_st rfl X.ld rfl ?_
  refine K.d_on rfl (fun KK hKK => ?_)
  refine K.l_callV (Fx.cal rfl) rfl (Place h a.kind) (K.pp [] rfl) rfl rfl ?_
  simp only [List.nil_append]
  refine K.l_nil ?_
  refine X.onE hKK ?_
  refine K.d_on rfl (fun KK hKK => ?_)
  refine K.l_callV (Fx.cal rfl) rfl (Place h b.kind) (K.pp [] rfl) rfl rfl ?_
  simp only [List.nil_append]
  refine K.l_nil ?_
  refine X.onE hKK ?_
  refine K.d_pu rfl (fun _ _ => X.sg) rfl ?_
  refine K.d_pu rfl (fun _ _ => X.sg) rfl ?_
  refine K.d_nil ?_
  have hord : ordV a b = if placeQ a.kind < placeQ b.kind then -1 else if placeQ b.kind < placeQ a.kind then 1 else if a.kind = 2 then Lib.compareBytes a.s.data.toList b.s.data.toList else if a.n < b.n then -1 else if b.n < a.n then 1 else 0 := rfl
  by_cases h1 : placeQ a.kind < placeQ b.kind
  · rw [if_pos h1] at hord
    rw [hord]
    (repeat' (first | refine X.rq ?_ | (refine X.rc ?_ ?_ <;> intro hc <;> first | (exfalso; omega) | skip)))
    all_goals first | (exfalso; omega) | skip
    refine K.AT.sel [0, 0] rfl ?_
    refine K.done (by first | exact Or.inl rfl | exact Or.inr rfl) rfl (by first | exact K.Base.le.refl _ | assumption) (H' := []) rfl ⟨rfl, rfl, rfl⟩
  rw [if_neg h1] at hord
  by_cases h2 : placeQ b.kind < placeQ a.kind
  · rw [if_pos h2] at hord
    rw [hord]
    (repeat' (first | refine X.rq ?_ | (refine X.rc ?_ ?_ <;> intro hc <;> first | (exfalso; omega) | skip)))
    all_goals first | (exfalso; omega) | skip
    refine K.AT.sel [0, 0] rfl ?_
    refine K.done (by first | exact Or.inl rfl | exact Or.inr rfl) rfl (by first | exact K.Base.le.refl _ | assumption) (H' := []) rfl ⟨rfl, rfl, rfl⟩
  rw [if_neg h2] at hord
  by_cases h3 : a.kind = 2
  · rw [if_pos h3] at hord
    rw [hord]
    (repeat' (first | refine X.rq ?_ | (refine X.rc ?_ ?_ <;> intro hc <;> first | (exfalso; omega) | skip)))
    all_goals first | (exfalso; omega) | skip
    refine K.l_callV (Fx.cal rfl) rfl (RBytes h a.s b.s ha.s hb.s) (K.pp [] rfl) rfl rfl ?_
    simp only [List.nil_append]
    (repeat' (first | refine X.rq ?_ | (refine X.rc ?_ ?_ <;> intro hc <;> first | (exfalso; omega) | skip)))
    refine K.AT.sel [0, 0] rfl ?_
    refine K.done (by first | exact Or.inl rfl | exact Or.inr rfl) rfl (by first | exact K.Base.le.refl _ | assumption) (H' := []) rfl ⟨rfl, rfl, rfl⟩
  rw [if_neg h3] at hord
  rw [hord]
  (repeat' (first | refine X.rq ?_ | (refine X.rc ?_ ?_ <;> intro hc <;> first | (exfalso; omega) | skip)))
  all_goals first | (exfalso; omega) | skip
  all_goals
    refine K.AT.sel [0, 0] rfl ?_
    refine K.done (by first | exact Or.inl rfl | exact Or.inr rfl) rfl (by first | exact K.Base.le.refl _ | assumption) (H' := []) rfl ⟨?_, rfl, rfl⟩
    show Value.int _ _ = Value.int _ _
    congr 1
    split <;> (try split) <;> first | omega | rfl
theorem ordR_drop : ∀ (j : Nat) (a b : List Val), j ≤ a.length → j ≤ b.length → (∀ i x y, i < j → a[i]? = some x → b[i]? = some y → ordV x y = 0) → ordR a b = ordR (a.drop j) (b.drop j)
  | 0, a, b, _, _, _ => rfl
  | j + 1, [], b, h, _, _ => by simp at h
  | j + 1, a :: ar, [], _, h, _ => by simp at h
  | j + 1, a :: ar, b :: br, h1, h2, h3 => by
    have := h3 0 a b (by omega) rfl rfl
    rw [ordR, if_neg (fun h => h this), List.drop_succ_cons, List.drop_succ_cons]
    exact ordR_drop j ar br (by simpa using h1) (by simpa using h2) fun i x y hi hx hy => h3 (i + 1) x y (by omega) (by simpa using hx) (by simpa using hy)
set_option maxHeartbeats 1000000 in
theorem OrderR (h : Base) (v u : Value) (a b : List Val) (hv : SL h 3 v (a.map cV)) (hu : SL h 3 u (b.map cV)) (ha : a.length ≤ 9223372036854775807) (hb : b.length ≤ 9223372036854775807) (hwa : ∀ x ∈ a, wfV x) (hwb : ∀ x ∈ b, wfV x) :
    TrV Try.prog 92 [v, u] h [] (.int .i64 (ordR a b)) [] := by
  have hlen : (a.map cV).length = a.length := List.length_map ..
  have hlen2 : (b.map cV).length = b.length := List.length_map ..
  obtain ⟨ao, ca, rfl⟩ := hv.len
  obtain ⟨ao2, ca2, rfl⟩ := hu.len
  rw [hlen] at hv ⊢
  rw [hlen2] at hu ⊢
  refine K.enter Try.func92 rfl (Nat.le_of_ble_eq_true rfl) (fun F => ?_)
  simp only [List.nil_append]
  (repeat' (first | refine X.rq ?_ | (refine X.rc ?_ ?_ <;> intro hc <;> first | (exfalso; omega) | skip)))
  refine K.c_loop (σ := Nat) (fun j => [(0, .slice ao a.length ca), (1, .slice ao2 b.length ca2), (5, .int .i64 j)]) (fun _ => h) (fun _ => F) (fun j => j ≤ a.length ∧ j ≤ b.length ∧ ∀ (i : Nat) (x y : Val), i < j → a[i]? = some x → b[i]? = some y → ordV x y = 0) (fun j => a.length - j) 0 ⟨Nat.zero_le _, Nat.zero_le _, fun i x y hi => by omega⟩ (by repeat (first | exact K.Sub.nil _ | refine K.Sub.cons rfl ?_)) rfl rfl ?_
  rintro j ⟨hj, hj2, hz⟩ KL hKL
  have hdr := ordR_drop j a b hj hj2 hz
  by_cases hjl : j < a.length ∧ j < b.length
  · obtain ⟨hja, hjb⟩ := hjl
    have hc0 : (a.map cV)[((j : Nat) : Int).toNat]? = some (cV a[j]) := by rw [Int.toNat_natCast, List.getElem?_map, List.getElem?_eq_getElem hja]; rfl
    have hd0 : (b.map cV)[((j : Nat) : Int).toNat]? = some (cV b[j]) := by rw [Int.toNat_natCast, List.getElem?_map, List.getElem?_eq_getElem hjb]; rfl
    have hc1 : a[j]? = some a[j] := List.getElem?_eq_getElem hja
    have hd1 : b[j]? = some b[j] := List.getElem?_eq_getElem hjb
    have hwx := hwa _ (List.getElem_mem hja)
    have hwy := hwb _ (List.getElem_mem hjb)
    rw [List.drop_eq_getElem_cons hja, List.drop_eq_getElem_cons hjb] at hdr
    generalize a[j] = x at hc0 hc1 hwx hdr
    generalize b[j] = y at hd0 hd1 hwy hdr
    (repeat' (first | refine X.rq ?_ | (refine X.rc ?_ ?_ <;> intro hc <;> first | (exfalso; omega) | skip)))
    refine X.draw ([]) [] (.pu 0 (.pu 1 (.pu 4 (.pu 5 (.st 2 (.st 3 (.st 6 (.st 7 (.on 8 (.pu 9 .nil)))))))))) ?_
    refine K.d_pu rfl (fun _ _ => X.mv) rfl ?_
    refine K.d_pu rfl (fun _ _ => X.mv) rfl ?_
    refine K.d_pu rfl (fun _ _ => X.mv) rfl ?_
    refine K.d_pu rfl (fun _ _ => X.mv) rfl ?_
    refine K.d_stE rfl (K.p_indexL hv (Fx.und rfl) (Fx.sz rfl) rfl rfl (by omega) hc0) rfl ?_
    rintro v2 ⟨b1, o1, rfl, hcel⟩
    refine K.d_st rfl (K.p_loadM (Fx.agg rfl) rfl (Cels.up hcel) (Fx.sz rfl) rfl) rfl ?_
    refine K.d_stE rfl (K.p_indexL hu (Fx.und rfl) (Fx.sz rfl) rfl rfl (by omega) hd0) rfl ?_
    rintro v3 ⟨b2, o2, rfl, hcel2⟩
    refine K.d_st rfl (K.p_loadM (Fx.agg rfl) rfl (Cels.up hcel2) (Fx.sz rfl) rfl) rfl ?_
    refine K.d_on rfl (fun KK hKK => ?_)
    refine K.l_callV (Fx.cal rfl) rfl (OrderV h x y hwx hwy) (K.pp [] rfl) rfl rfl ?_
    simp only [List.nil_append]
    refine K.l_nil ?_
    refine X.onE hKK ?_
    refine K.d_pu rfl (fun _ _ => X.sg) rfl ?_
    refine K.d_nil ?_
    rw [ordR] at hdr
    generalize hov : ordV x y = ov at hdr ⊢
    by_cases h0 : ov = 0
    · (repeat' (first | refine X.rq ?_ | (refine X.rc ?_ ?_ <;> intro hc <;> first | (exfalso; omega) | skip)))
      all_goals first | (exfalso; omega) | skip
      refine K.a_round hKL (j + 1) ⟨by omega, by omega, fun i x' y' hi hx hy => ?_⟩ (by repeat (first | exact K.Sub.nil _ | refine K.Sub.cons rfl ?_)) rfl rfl (by omega)
      by_cases hij : i < j
      · exact hz i x' y' hij hx hy
      · obtain rfl : i = j := by omega
        rw [hc1] at hx; rw [hd1] at hy
        cases hx; cases hy
        rw [hov]; exact h0
    · rw [if_pos h0] at hdr
      rw [hdr]
      (repeat' (first | refine X.rq ?_ | (refine X.rc ?_ ?_ <;> intro hc <;> first | (exfalso; omega) | skip)))
      all_goals first | (exfalso; omega) | skip
      refine K.done (by first | exact Or.inl rfl | exact Or.inr rfl) rfl (by first | exact K.Base.le.refl _ | assumption) (H' := []) rfl ⟨rfl, rfl, rfl⟩
  · by_cases hja : j < a.length
    · have e : ordR a b = 1 := by
        rw [hdr, List.drop_eq_getElem_cons hja, List.drop_eq_nil_of_le (by omega : b.length ≤ j)]
        rw [ordR]
      rw [e]
      (repeat' (first | refine X.rq ?_ | (refine X.rc ?_ ?_ <;> intro hc <;> first | (exfalso; omega) | skip)))
      all_goals first | (exfalso; omega) | skip
      refine K.done (by first | exact Or.inl rfl | exact Or.inr rfl) rfl (by first | exact K.Base.le.refl _ | assumption) (H' := []) rfl ⟨rfl, rfl, rfl⟩
    · by_cases hjb : j < b.length
      · have e : ordR a b = -1 := by
          rw [hdr, List.drop_eq_getElem_cons hjb, List.drop_eq_nil_of_le (by omega : a.length ≤ j)]
          rw [ordR]
        rw [e]
        (repeat' (first | refine X.rq ?_ | (refine X.rc ?_ ?_ <;> intro hc <;> first | (exfalso; omega) | skip)))
        all_goals first | (exfalso; omega) | skip
        refine K.done (by first | exact Or.inl rfl | exact Or.inr rfl) rfl (by first | exact K.Base.le.refl _ | assumption) (H' := []) rfl ⟨rfl, rfl, rfl⟩
      · have e : ordR a b = 0 := by
          rw [hdr, List.drop_eq_nil_of_le (by omega : b.length ≤ j), List.drop_eq_nil_of_le (by omega : a.length ≤ j)]
          rw [ordR]
        rw [e]
        (repeat' (first | refine X.rq ?_ | (refine X.rc ?_ ?_ <;> intro hc <;> first | (exfalso; omega) | skip)))
        all_goals first | (exfalso; omega) | skip
        refine K.done (by first | exact Or.inl rfl | exact Or.inr rfl) rfl (by first | exact K.Base.le.refl _ | assumption) (H' := []) rfl ⟨rfl, rfl, rfl⟩
end Go.Proofs.Ytdjacjhojbkgjaa.Ct
