/-
  Contains, ContainsFunc; whether numbers are some places of so many columns: the code's. Conditions: each theorem's own.
-/
import Derived.Test.YtdjacjhojbkgjaaGreatQ14
namespace Go.Proofs.YtdjacjhojbkgjaaGreat.Ct
open Go Go.K Go.Proofs Go.Proofs.YtdjacjhojbkgjaaGreat Go.Proofs.YtdjacjhojbkgjaaGreat.Rw
set_option linter.unusedVariables false
set_option linter.unusedSimpArgs false
set_option maxRecDepth 10000

def FirstK (p : Nat → Bool) (n : Nat) (i : Int) : Prop := (i = -1 ∧ ∀ j, j < n → p j = false) ∨ ∃ j : Nat, i = j ∧ j < n ∧ p j = true ∧ ∀ k, k < j → p k = false
theorem first_any {α : Type} {l : List α} {q : α → Bool} {i : Int} (hi : FirstK (fun j => ((l[j]?).map q).getD false) l.length i) : decide (i ≥ 0) = l.any q := by
  rcases hi with ⟨rfl, hno⟩ | ⟨j, rfl, hj, hpj, _⟩
  · refine (List.any_eq_false.2 fun x hx => ?_).symm ▸ rfl
    obtain ⟨k, hk⟩ := List.mem_iff_getElem?.1 hx
    have := hno k (List.getElem?_eq_some_iff.1 hk).1
    dsimp only at this
    rw [hk] at this
    simpa using this
  · rw [List.any_eq_true.2 ⟨l[j], List.getElem_mem hj, by
      dsimp only at hpj
      rw [List.getElem?_eq_getElem hj] at hpj
      simpa using hpj⟩]
    exact decide_eq_true (by omega)
theorem IdxT (h : Base) (KK : List Asrt) (f : FuncId) (caps : List Value) (hcal : Callable Tryz.prog f) (v : Value) (ts : List (List Value)) (l : List PTab) (p : Nat → Bool) (hv : SL h 4 v ts) (ht : Each (TabC h) ts l) (hl : l.length ≤ 9223372036854775807)
    (hp : ∀ j x c, l[j]? = some x → TabC h x c → TrV Tryz.prog f (.agg c.toArray :: caps) h KK (.bool (p j)) KK) :
    Tr Tryz.prog 83 [v, .func (.func f) #[] caps.toArray] h KK (fun u h' H' => ∃ i : Int, u = .int .i64 i ∧ FirstK p l.length i ∧ h' = h ∧ H' = KK) := by
  obtain ⟨ao, ca, rfl⟩ := hv.len
  rw [ht.len] at hv ⊢
  refine K.enter Tryz.func83 rfl (Nat.le_of_ble_eq_true rfl) (fun F => ?_)
  (repeat' (first | refine X.rq ?_ | (refine X.rc ?_ ?_ <;> intro hc <;> first | (exfalso; omega) | skip)))
  refine K.c_loop (σ := Nat) (fun j => [(0, .slice ao l.length ca), (1, .func (.func f) #[] caps.toArray), (6, .slice ao l.length ca), (7, .int .i64 l.length), (8, .int .i64 j)]) (fun _ => h) (fun _ => KK ++ F)
    (fun j => j ≤ l.length ∧ ∀ i, i < j → p i = false) (fun j => l.length - j) 0 ⟨Nat.zero_le _, fun i hi => by omega⟩ (by repeat (first | exact K.Sub.nil _ | refine K.Sub.cons rfl ?_)) rfl rfl ?_
  rintro j ⟨hj, hno⟩ KL hKL
  by_cases hjl : j < l.length
  · have hx1 : l[j]? = some l[j] := List.getElem?_eq_getElem hjl
    generalize l[j] = x at hx1
    obtain ⟨c, hc0, htc⟩ := ht.get hx1
    have hpx := hp j x c hx1 htc
    obtain ⟨v1, rfl, hcv⟩ := htc
    obtain ⟨av, cv, rfl⟩ := hcv.len
    obtain ⟨bb, oo, rfl, hcx⟩ := hv.at hc0
    (repeat' (first | refine X.rq ?_ | (refine X.rc ?_ ?_ <;> intro hc <;> first | (exfalso; omega) | skip)))
    refine K.s_pure (K.p_loadM (Fx.agg rfl) rfl (Cels.up hcx) (Fx.sz rfl) rfl) rfl ?_
    (repeat' (first | refine X.rq ?_ | (refine X.rc ?_ ?_ <;> intro hc <;> first | (exfalso; omega) | skip)))
    refine K.l_callF (vals := [.agg (cTab x (.slice av (x.cols.map cC).length cv)).toArray]) hcal rfl rfl hpx (List.Perm.refl _) rfl ?_
    rintro u h' H' - ⟨rfl, e, rfl⟩
    obtain rfl := e.symm
    cases hpj : p j with
    | true =>
      (repeat' (first | refine X.rq ?_ | (refine X.rc ?_ ?_ <;> intro hc <;> first | (exfalso; omega) | skip)))
      refine K.done (by first | exact Or.inl rfl | exact Or.inr rfl) rfl (by first | exact K.Base.le.refl _ | assumption) (H' := H') rfl ⟨j, rfl, .inr ⟨j, rfl, hjl, hpj, hno⟩, rfl, rfl⟩
    | false =>
      (repeat' (first | refine X.rq ?_ | (refine X.rc ?_ ?_ <;> intro hc <;> first | (exfalso; omega) | skip)))
      refine K.a_round hKL (j + 1) ⟨by omega, fun i hi => ?_⟩ (by repeat (first | exact K.Sub.nil _ | refine K.Sub.cons rfl ?_)) rfl rfl (by omega)
      by_cases hij : i < j
      · exact hno i hij
      · obtain rfl : i = j := by omega
        exact hpj
  · obtain rfl : j = l.length := by omega
    (repeat' (first | refine X.rq ?_ | (refine X.rc ?_ ?_ <;> intro hc <;> first | (exfalso; omega) | skip)))
    refine K.done (by first | exact Or.inl rfl | exact Or.inr rfl) rfl (by first | exact K.Base.le.refl _ | assumption) (H' := KK) rfl ⟨-1, rfl, .inl ⟨rfl, hno⟩, rfl, rfl⟩
theorem CtnT (h : Base) (KK : List Asrt) (f : FuncId) (caps : List Value) (hcal : Callable Tryz.prog f) (v : Value) (ts : List (List Value)) (l : List PTab) (q : PTab → Bool) (hv : SL h 4 v ts) (ht : Each (TabC h) ts l) (hl : l.length ≤ 9223372036854775807)
    (hp : ∀ x c, x ∈ l → TabC h x c → TrV Tryz.prog f (.agg c.toArray :: caps) h KK (.bool (q x)) KK) :
    TrV Tryz.prog 60 [v, .func (.func f) #[] caps.toArray] h KK (.bool (l.any q)) KK := by
  refine K.enter Tryz.func60 rfl (Nat.le_of_ble_eq_true rfl) (fun F => ?_)
  (repeat' (first | refine X.rq ?_ | (refine X.rc ?_ ?_ <;> intro hc <;> first | (exfalso; omega) | skip)))
  refine K.l_call (Fx.cal rfl) rfl (IdxT h KK f caps hcal v ts l (fun j => ((l[j]?).map q).getD false) hv ht hl fun j x c hx hc => by
    rw [hx]
    exact hp x c (List.mem_of_getElem? hx) hc) (List.Perm.refl _) rfl ?_
  rintro u h' H' - ⟨i, rfl, hi, e, rfl⟩
  obtain rfl := e.symm
  have hany := first_any hi
  (repeat' (first | refine X.rq ?_ | (refine X.rc ?_ ?_ <;> intro hc <;> first | (exfalso; omega) | skip)))
  refine K.done (by first | exact Or.inl rfl | exact Or.inr rfl) rfl (by first | exact K.Base.le.refl _ | assumption) (H' := H') rfl ⟨?_, rfl, rfl⟩
  rw [← hany]
  rfl
theorem IdxI (h : Base) (KK : List Asrt) (f : FuncId) (caps : List Value) (hcal : Callable Tryz.prog f) (v : Value) (ts : List (List Value)) (l : List PIdx) (p : Nat → Bool) (hv : SL h 6 v ts) (ht : Each (IdxC h) ts l) (hl : l.length ≤ 9223372036854775807)
    (hp : ∀ j x c, l[j]? = some x → IdxC h x c → TrV Tryz.prog f (.agg c.toArray :: caps) h KK (.bool (p j)) KK) :
    Tr Tryz.prog 85 [v, .func (.func f) #[] caps.toArray] h KK (fun u h' H' => ∃ i : Int, u = .int .i64 i ∧ FirstK p l.length i ∧ h' = h ∧ H' = KK) := by
  obtain ⟨ao, ca, rfl⟩ := hv.len
  rw [ht.len] at hv ⊢
  refine K.enter Tryz.func85 rfl (Nat.le_of_ble_eq_true rfl) (fun F => ?_)
  (repeat' (first | refine X.rq ?_ | (refine X.rc ?_ ?_ <;> intro hc <;> first | (exfalso; omega) | skip)))
  refine K.c_loop (σ := Nat) (fun j => [(0, .slice ao l.length ca), (1, .func (.func f) #[] caps.toArray), (6, .slice ao l.length ca), (7, .int .i64 l.length), (8, .int .i64 j)]) (fun _ => h) (fun _ => KK ++ F)
    (fun j => j ≤ l.length ∧ ∀ i, i < j → p i = false) (fun j => l.length - j) 0 ⟨Nat.zero_le _, fun i hi => by omega⟩ (by repeat (first | exact K.Sub.nil _ | refine K.Sub.cons rfl ?_)) rfl rfl ?_
  rintro j ⟨hj, hno⟩ KL hKL
  by_cases hjl : j < l.length
  · have hx1 : l[j]? = some l[j] := List.getElem?_eq_getElem hjl
    generalize l[j] = x at hx1
    obtain ⟨c, hc0, htc⟩ := ht.get hx1
    have hpx := hp j x c hx1 htc
    obtain ⟨v1, rfl, hcv⟩ := htc
    obtain ⟨av, cv, rfl⟩ := hcv.len
    obtain ⟨bb, oo, rfl, hcx⟩ := hv.at hc0
    (repeat' (first | refine X.rq ?_ | (refine X.rc ?_ ?_ <;> intro hc <;> first | (exfalso; omega) | skip)))
    refine K.s_pure (K.p_loadM (Fx.agg rfl) rfl (Cels.up hcx) (Fx.sz rfl) rfl) rfl ?_
    (repeat' (first | refine X.rq ?_ | (refine X.rc ?_ ?_ <;> intro hc <;> first | (exfalso; omega) | skip)))
    refine K.l_callF (vals := [.agg (cIdx x (.slice av (rowN x.cols).length cv)).toArray]) hcal rfl rfl hpx (List.Perm.refl _) rfl ?_
    rintro u h' H' - ⟨rfl, e, rfl⟩
    obtain rfl := e.symm
    cases hpj : p j with
    | true =>
      (repeat' (first | refine X.rq ?_ | (refine X.rc ?_ ?_ <;> intro hc <;> first | (exfalso; omega) | skip)))
      refine K.done (by first | exact Or.inl rfl | exact Or.inr rfl) rfl (by first | exact K.Base.le.refl _ | assumption) (H' := H') rfl ⟨j, rfl, .inr ⟨j, rfl, hjl, hpj, hno⟩, rfl, rfl⟩
    | false =>
      (repeat' (first | refine X.rq ?_ | (refine X.rc ?_ ?_ <;> intro hc <;> first | (exfalso; omega) | skip)))
      refine K.a_round hKL (j + 1) ⟨by omega, fun i hi => ?_⟩ (by repeat (first | exact K.Sub.nil _ | refine K.Sub.cons rfl ?_)) rfl rfl (by omega)
      by_cases hij : i < j
      · exact hno i hij
      · obtain rfl : i = j := by omega
        exact hpj
  · obtain rfl : j = l.length := by omega
    (repeat' (first | refine X.rq ?_ | (refine X.rc ?_ ?_ <;> intro hc <;> first | (exfalso; omega) | skip)))
    refine K.done (by first | exact Or.inl rfl | exact Or.inr rfl) rfl (by first | exact K.Base.le.refl _ | assumption) (H' := KK) rfl ⟨-1, rfl, .inl ⟨rfl, hno⟩, rfl, rfl⟩
theorem CtnI (h : Base) (KK : List Asrt) (f : FuncId) (caps : List Value) (hcal : Callable Tryz.prog f) (v : Value) (ts : List (List Value)) (l : List PIdx) (q : PIdx → Bool) (hv : SL h 6 v ts) (ht : Each (IdxC h) ts l) (hl : l.length ≤ 9223372036854775807)
    (hp : ∀ x c, x ∈ l → IdxC h x c → TrV Tryz.prog f (.agg c.toArray :: caps) h KK (.bool (q x)) KK) :
    TrV Tryz.prog 63 [v, .func (.func f) #[] caps.toArray] h KK (.bool (l.any q)) KK := by
  refine K.enter Tryz.func63 rfl (Nat.le_of_ble_eq_true rfl) (fun F => ?_)
  (repeat' (first | refine X.rq ?_ | (refine X.rc ?_ ?_ <;> intro hc <;> first | (exfalso; omega) | skip)))
  refine K.l_call (Fx.cal rfl) rfl (IdxI h KK f caps hcal v ts l (fun j => ((l[j]?).map q).getD false) hv ht hl fun j x c hx hc => by
    rw [hx]
    exact hp x c (List.mem_of_getElem? hx) hc) (List.Perm.refl _) rfl ?_
  rintro u h' H' - ⟨i, rfl, hi, e, rfl⟩
  obtain rfl := e.symm
  have hany := first_any hi
  (repeat' (first | refine X.rq ?_ | (refine X.rc ?_ ?_ <;> intro hc <;> first | (exfalso; omega) | skip)))
  refine K.done (by first | exact Or.inl rfl | exact Or.inr rfl) rfl (by first | exact K.Base.le.refl _ | assumption) (H' := H') rfl ⟨?_, rfl, rfl⟩
  rw [← hany]
  rfl
theorem May1 (h : Base) (B7 : Nat) (t : PTab) (av : Option Addr) (k cv : Nat) (x : PTab) (c : List Value) (hc : TabC h x c) : TrV Tryz.prog 61 [.agg c.toArray, .pointer (some ⟨B7, 0, none⟩)] h [blk B7 37 (cTab t (.slice av k cv))] (.bool (decide (x.name = t.name))) [blk B7 37 (cTab t (.slice av k cv))] := by
  obtain ⟨v, rfl, hv⟩ := hc
  obtain ⟨av1, cv1, rfl⟩ := hv.len
  refine K.enter Tryz.func61 rfl (Nat.le_of_ble_eq_true rfl) (fun F => ?_)
  simp only [List.nil_append, List.cons_append]
  (repeat' (first | refine X.rq ?_ | (refine X.rc ?_ ?_ <;> intro hc <;> first | (exfalso; omega) | skip)))
  refine K.l_box rfl rfl rfl (fun B2 => ?_)
  (repeat' (first | refine X.rq ?_ | (refine X.rc ?_ ?_ <;> intro hc <;> first | (exfalso; omega) | skip)))
  refine K.AT.sel [0] rfl ?_
  refine K.done (by first | exact Or.inl rfl | exact Or.inr rfl) rfl (by first | exact K.Base.le.refl _ | assumption) (H' := [_]) rfl ⟨rfl, rfl, rfl⟩
theorem May2 (h : Base) (B7 : Nat) (t : PIdx) (av : Option Addr) (k cv : Nat) (x : PIdx) (c : List Value) (hc : IdxC h x c) : TrV Tryz.prog 64 [.agg c.toArray, .pointer (some ⟨B7, 0, none⟩)] h [blk B7 43 (cIdx t (.slice av k cv))] (.bool (decide (x.name = t.name))) [blk B7 43 (cIdx t (.slice av k cv))] := by
  obtain ⟨v, rfl, hv⟩ := hc
  obtain ⟨av1, cv1, rfl⟩ := hv.len
  refine K.enter Tryz.func64 rfl (Nat.le_of_ble_eq_true rfl) (fun F => ?_)
  simp only [List.nil_append, List.cons_append]
  (repeat' (first | refine X.rq ?_ | (refine X.rc ?_ ?_ <;> intro hc <;> first | (exfalso; omega) | skip)))
  refine K.l_box rfl rfl rfl (fun B2 => ?_)
  (repeat' (first | refine X.rq ?_ | (refine X.rc ?_ ?_ <;> intro hc <;> first | (exfalso; omega) | skip)))
  refine K.AT.sel [0] rfl ?_
  refine K.done (by first | exact Or.inl rfl | exact Or.inr rfl) rfl (by first | exact K.Base.le.refl _ | assumption) (H' := [_]) rfl ⟨rfl, rfl, rfl⟩
theorem CtnN (h : Base) (v : Value) (l : List Int) (a : Int) (hv : SL h 1 v (rowN l)) (hl : l.length ≤ 9223372036854775807) :
    TrV Tryz.prog 68 [v, .int .i64 a] h [] (.bool (l.any fun x => decide (x = a))) [] := by
  have hlen : (rowN l).length = l.length := List.length_map ..
  have hIdx : Tr Tryz.prog 86 [v, .int .i64 a] h [] (fun u h' H' => ∃ i : Int, u = .int .i64 i ∧ FirstK (fun j => ((l[j]?).map fun x => decide (x = a)).getD false) l.length i ∧ h' = h ∧ H' = []) := by
    obtain ⟨ao, ca, rfl⟩ := hv.len
    rw [hlen] at hv ⊢
    refine K.enter Tryz.func86 rfl (Nat.le_of_ble_eq_true rfl) (fun F => ?_)
    (repeat' (first | refine X.rq ?_ | (refine X.rc ?_ ?_ <;> intro hc <;> first | (exfalso; omega) | skip)))
    refine K.c_loop (σ := Nat) (fun j => [(0, .slice ao l.length ca), (1, .int .i64 a), (6, .slice ao l.length ca), (7, .int .i64 l.length), (8, .int .i64 j)]) (fun _ => h) (fun _ => F)
      (fun j => j ≤ l.length ∧ ∀ i, i < j → ((l[i]?).map fun x => decide (x = a)).getD false = false) (fun j => l.length - j) 0 ⟨Nat.zero_le _, fun i hi => by omega⟩ (by repeat (first | exact K.Sub.nil _ | refine K.Sub.cons rfl ?_)) rfl rfl ?_
    rintro j ⟨hj, hno⟩ KL hKL
    by_cases hjl : j < l.length
    · have hx1 : l[j]? = some l[j] := List.getElem?_eq_getElem hjl
      generalize l[j] = x at hx1
      have hc0 : (rowN l)[((j : Nat) : Int).toNat]? = some [iV x] := by rw [Int.toNat_natCast, rowN, List.getElem?_map, hx1]; rfl
      obtain ⟨bb, oo, rfl, hcx⟩ := hv.at hc0
      (repeat' (first | refine X.rq ?_ | (refine X.rc ?_ ?_ <;> intro hc <;> first | (exfalso; omega) | skip)))
      refine K.s_pure (K.p_load (v := .int .i64 x) (Fx.agg rfl) rfl (Cels.up hcx).1) rfl ?_
      have hpj : ((l[j]?).map fun x => decide (x = a)).getD false = decide (x = a) := by rw [hx1]; rfl
      by_cases hxa : x = a
      · (repeat' (first | refine X.rq ?_ | (refine X.rc ?_ ?_ <;> intro hc <;> first | (exfalso; omega) | skip)))
        all_goals first | (exfalso; omega) | skip
        refine K.done (by first | exact Or.inl rfl | exact Or.inr rfl) rfl (by first | exact K.Base.le.refl _ | assumption) (H' := []) rfl ⟨j, rfl, .inr ⟨j, rfl, hjl, by dsimp only; rw [hpj]; exact decide_eq_true hxa, hno⟩, rfl, rfl⟩
      · (repeat' (first | refine X.rq ?_ | (refine X.rc ?_ ?_ <;> intro hc <;> first | (exfalso; omega) | skip)))
        all_goals first | (exfalso; omega) | skip
        refine K.a_round hKL (j + 1) ⟨by omega, fun i hi => ?_⟩ (by repeat (first | exact K.Sub.nil _ | refine K.Sub.cons rfl ?_)) rfl rfl (by omega)
        by_cases hij : i < j
        · exact hno i hij
        · obtain rfl : i = j := by omega
          rw [hpj]; exact decide_eq_false hxa
    · obtain rfl : j = l.length := by omega
      (repeat' (first | refine X.rq ?_ | (refine X.rc ?_ ?_ <;> intro hc <;> first | (exfalso; omega) | skip)))
      refine K.done (by first | exact Or.inl rfl | exact Or.inr rfl) rfl (by first | exact K.Base.le.refl _ | assumption) (H' := []) rfl ⟨-1, rfl, .inl ⟨rfl, hno⟩, rfl, rfl⟩
  refine K.enter Tryz.func68 rfl (Nat.le_of_ble_eq_true rfl) (fun F => ?_)
  (repeat' (first | refine X.rq ?_ | (refine X.rc ?_ ?_ <;> intro hc <;> first | (exfalso; omega) | skip)))
  refine K.l_call (Fx.cal rfl) rfl hIdx (List.Perm.refl _) rfl ?_
  rintro u h' H' - ⟨i, rfl, hi, e, rfl⟩
  obtain rfl := e.symm
  have hany := first_any hi
  (repeat' (first | refine X.rq ?_ | (refine X.rc ?_ ?_ <;> intro hc <;> first | (exfalso; omega) | skip)))
  refine K.done (by first | exact Or.inl rfl | exact Or.inr rfl) rfl (by first | exact K.Base.le.refl _ | assumption) (H' := []) rfl ⟨?_, rfl, rfl⟩
  rw [← hany]
  rfl
def placesB (n : Nat) (l : List Int) : Bool := decide (0 < l.length) && (decide (l.length ≤ 16) && (decide (∀ c ∈ l, 0 ≤ c ∧ c < n) && decide l.Nodup))
theorem any_mem {l : List Int} {a : Int} : (l.any fun x => decide (x = a)) = decide (a ∈ l) := by
  rw [Bool.eq_iff_iff, List.any_eq_true, decide_eq_true_eq]
  constructor
  · rintro ⟨x, hx, e⟩; rw [← of_decide_eq_true e]; exact hx
  · intro hx; exact ⟨a, hx, decide_eq_true rfl⟩
def PlOk (n : Nat) (l : List Int) (j : Nat) : Prop := (∀ c ∈ l.take j, 0 ≤ c ∧ c < n) ∧ (l.take j).Nodup
theorem PlOk.step {n : Nat} {l : List Int} {j : Nat} {c : Int} (h : PlOk n l j) (hc : l[j]? = some c) (h0 : 0 ≤ c) (h1 : c < n) (h2 : c ∉ l.take j) : PlOk n l (j + 1) := by
  obtain ⟨e, _⟩ := take_at hc
  refine ⟨fun x hx => ?_, ?_⟩
  · rw [e] at hx
    rcases List.mem_append.1 hx with hx | hx
    · exact h.1 x hx
    · rw [List.mem_singleton.1 hx]; exact ⟨h0, h1⟩
  · rw [e]
    exact List.nodup_append.2 ⟨h.2, by simp, fun x hx y hy => by rw [List.mem_singleton.1 hy]; exact fun e => h2 (e ▸ hx)⟩
theorem PlOk.no {n : Nat} {l : List Int} {j : Nat} {c : Int} (hc : l[j]? = some c) (hb : ¬ (0 ≤ c ∧ c < n ∧ c ∉ l.take j)) : placesB n l = false := by
  obtain ⟨e, r, hr⟩ := take_at hc
  simp only [placesB, Bool.and_eq_false_iff, decide_eq_false_iff_not]
  by_cases h : 0 ≤ c ∧ c < n
  · refine .inr (.inr (.inr fun hn => hb ⟨h.1, h.2, fun hm => ?_⟩))
    rw [hr, List.nodup_append] at hn
    exact hn.2.2 c hm c List.mem_cons_self rfl
  · exact .inr (.inr (.inl fun ha => h (ha c (List.mem_of_getElem? hc))))
theorem PlOk.yes {n : Nat} {l : List Int} (h : PlOk n l l.length) (h0 : 0 < l.length) (h1 : l.length ≤ 16) : placesB n l = true := by
  unfold PlOk at h
  rw [List.take_length] at h
  simp only [placesB, Bool.and_eq_true, decide_eq_true_eq]
  exact ⟨h0, h1, h.1, h.2⟩
set_option maxHeartbeats 2000000 in
theorem Places (h : Base) (t : PTab) (c : List Value) (v : Value) (l : List Int) (ht : TabC h t c) (hw : t.cols.length ≤ 4398046511104) (hv : SL h 1 v (rowN l)) (hl : l.length ≤ 9223372036854775807) :
    TrV Tryz.prog 32 [.agg c.toArray, v] h [] (.bool (placesB t.cols.length l)) [] := by
  have hlen : (rowN l).length = l.length := List.length_map ..
  have hlc : (t.cols.map cC).length = t.cols.length := List.length_map ..
  obtain ⟨v1, rfl, hcv⟩ := ht
  obtain ⟨av, cv, rfl⟩ := hcv.len
  obtain ⟨ao, ca, rfl⟩ := hv.len
  rw [hlen] at hv ⊢
  rw [hlc]
  refine K.enter Tryz.func32 rfl (Nat.le_of_ble_eq_true rfl) (fun F => ?_)
  simp only [List.nil_append, List.cons_append]
  (repeat' (first | refine X.rq ?_ | (refine X.rc ?_ ?_ <;> intro hc <;> first | (exfalso; omega) | skip)))
  refine K.l_box rfl rfl rfl (fun B2 => ?_)
  by_cases hb : 0 < l.length ∧ l.length ≤ 16
  · (repeat' (first | refine X.rq ?_ | (refine X.rc ?_ ?_ <;> intro hc <;> first | (exfalso; omega) | skip)))
    all_goals first | (exfalso; simp_all; omega) | (exfalso; omega) | skip
    refine K.c_loop (σ := Nat) (fun j => [(1, .slice ao l.length ca), (2, .pointer (some ⟨B2, 0, none⟩)), (15, .slice ao l.length ca), (16, .int .i64 l.length), (17, .int .i64 j)]) (fun _ => h) (fun _ => blk B2 37 (cTab t (.slice av t.cols.length cv)) :: F)
      (fun j => j ≤ l.length ∧ PlOk t.cols.length l j) (fun j => l.length - j) 0 ⟨Nat.zero_le _, fun c hc => by simp at hc, by simp⟩ (by repeat (first | exact K.Sub.nil _ | refine K.Sub.cons rfl ?_)) rfl rfl ?_
    rintro j ⟨hj, hok⟩ KL hKL
    by_cases hjl : j < l.length
    · have hx1 : l[j]? = some l[j] := List.getElem?_eq_getElem hjl
      generalize l[j] = x at hx1
      have hc0 : (rowN l)[((j : Nat) : Int).toNat]? = some [iV x] := by rw [Int.toNat_natCast, rowN, List.getElem?_map, hx1]; rfl
      have hcnt := CtnN h (.slice ao j ca) (l.take j) x (by
        have := hv.take (q := j) (by rw [hlen]; omega)
        rw [rowN, ← List.map_take] at this
        exact this) (by simp; omega)
      have hcap := hv.cap (by rw [hlen]; omega)
      rw [hlen] at hcap
      rw [any_mem] at hcnt
      obtain ⟨bb, oo, rfl, hcx⟩ := hv.at hc0
      have no : ¬ (0 ≤ x ∧ x < t.cols.length ∧ x ∉ l.take j) → placesB t.cols.length l = false := PlOk.no hx1
      have bad : ¬ (0 ≤ x ∧ x < t.cols.length ∧ x ∉ l.take j) → ∀ E, AT Tryz.prog Tryz.f32.ntmps (K.post Tryz.prog Tryz.f32 fun v w' => ∃ h' H', h.le h' ∧ (v = Value.bool (placesB t.cols.length l) ∧ h' = h ∧ H' = []) ∧ Ok h' (H' ++ F) w') .ret ((4, .bool false) :: E) h (blk B2 37 (cTab t (.slice av t.cols.length cv)) :: F) := fun hb E => by
        rw [no hb]
        refine K.AT.sel [0] rfl ?_
        refine K.done (by first | exact Or.inl rfl | exact Or.inr rfl) rfl (by first | exact K.Base.le.refl _ | assumption) (H' := []) rfl ⟨rfl, rfl, rfl⟩
      (repeat' (first | refine X.rq ?_ | (refine X.rc ?_ ?_ <;> intro hc <;> first | (exfalso; omega) | skip)))
      refine K.s_pure (K.p_load (v := .int .i64 x) (Fx.agg rfl) rfl (Cels.up hcx).1) rfl ?_
      by_cases h0 : x < 0
      · (repeat' (first | refine X.rq ?_ | (refine X.rc ?_ ?_ <;> intro hc <;> first | (exfalso; omega) | skip)))
        all_goals first | (exfalso; omega) | exact bad (fun h => by omega) _ | skip
      by_cases h1 : (t.cols.length : Int) ≤ x
      · (repeat' (first | refine X.rq ?_ | (refine X.rc ?_ ?_ <;> intro hc <;> first | (exfalso; omega) | skip)))
        all_goals first | (exfalso; omega) | exact bad (fun h => by omega) _ | skip
      (repeat' (first | refine X.rq ?_ | (refine X.rc ?_ ?_ <;> intro hc <;> first | (exfalso; omega) | skip)))
      all_goals first | (exfalso; omega) | skip
      refine K.s_pure (K.p_sliceU (q := j) (Fx.und rfl) (Fx.sz rfl) rfl rfl rfl (by omega)) rfl ?_
      (repeat' (first | refine X.rq ?_ | (refine X.rc ?_ ?_ <;> intro hc <;> first | (exfalso; omega) | skip)))
      refine K.l_call (Fx.cal rfl) rfl hcnt (K.pp [] rfl) rfl ?_
      rintro u h' H' - ⟨rfl, e, rfl⟩
      obtain rfl := e.symm
      simp only [List.set_cons_zero, List.set_cons_succ, List.eraseIdx_cons_zero, List.eraseIdx_cons_succ, List.cons_append, List.nil_append]
      by_cases h2 : x ∈ l.take j
      · rw [decide_eq_true h2]
        (repeat' (first | refine X.rq ?_ | (refine X.rc ?_ ?_ <;> intro hc <;> first | (exfalso; omega) | skip)))
        exact bad (fun h => h.2.2 h2) _
      · rw [decide_eq_false h2]
        (repeat' (first | refine X.rq ?_ | (refine X.rc ?_ ?_ <;> intro hc <;> first | (exfalso; omega) | skip)))
        refine K.a_round hKL (j + 1) ⟨by omega, hok.step hx1 (by omega) (by omega) h2⟩ (by repeat (first | exact K.Sub.nil _ | refine K.Sub.cons rfl ?_)) rfl rfl (by omega)
    · obtain rfl : j = l.length := by omega
      (repeat' (first | refine X.rq ?_ | (refine X.rc ?_ ?_ <;> intro hc <;> first | (exfalso; omega) | skip)))
      refine K.AT.sel [0] rfl ?_
      refine K.done (by first | exact Or.inl rfl | exact Or.inr rfl) rfl (by first | exact K.Base.le.refl _ | assumption) (H' := []) rfl ⟨by rw [hok.yes hb.1 hb.2]; rfl, rfl, rfl⟩
  · have hno : placesB t.cols.length l = false := by
      simp only [placesB, Bool.and_eq_false_iff, decide_eq_false_iff_not]
      by_cases h1 : 0 < l.length
      · exact .inr (.inl fun h2 => hb ⟨h1, h2⟩)
      · exact .inl h1
    rw [hno]
    (repeat' (first | refine X.rq ?_ | (refine X.rc ?_ ?_ <;> intro hc <;> first | (exfalso; omega) | skip)))
    all_goals first | (exfalso; simp_all; omega) | (exfalso; omega) | skip
    all_goals
      refine K.AT.sel [0] rfl ?_
      refine K.done (by first | exact Or.inl rfl | exact Or.inr rfl) rfl (by first | exact K.Base.le.refl _ | assumption) (H' := []) rfl ⟨rfl, rfl, rfl⟩
end Go.Proofs.YtdjacjhojbkgjaaGreat.Ct
