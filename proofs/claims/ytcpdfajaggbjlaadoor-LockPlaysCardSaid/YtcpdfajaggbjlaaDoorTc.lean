/-
  A lock is looked for in rows that the call owns, or in the base. Conditions: each theorem's own.
-/
import Derived.Test.YtcpdfajaggbjlaaDoorTb

namespace Go.Proofs.YtcpdfajaggbjlaaDoor.Lk
open Go Go.K Go.Proofs Go.Proofs.YtcpdfajaggbjlaaDoor
set_option linter.unusedVariables false
set_option linter.unusedSimpArgs false
set_option maxRecDepth 10000

/-- The first one that is so. -/
def FirstK (p : Nat → Bool) (n : Nat) (i : Int) : Prop := (i = -1 ∧ ∀ j, j < n → p j = false) ∨ ∃ j : Nat, i = j ∧ j < n ∧ p j = true ∧ ∀ k, k < j → p k = false
theorem IdxL (h : Base) (KK : List Asrt) (f : FuncId) (caps : List Value) (hcal : Callable Tryd.prog f) (v : Value) (l : List PLock) (p : Nat → Bool) (hv : SLK h KK 7 v (l.map cK)) (hl : l.length ≤ 9223372036854775807)
    (hp : ∀ j x, l[j]? = some x → TrV Tryd.prog f (.agg (cK x).toArray :: caps) h KK (.bool (p j)) KK) :
    Tr Tryd.prog 59 [v, .func (.func f) #[] caps.toArray] h KK (fun u h' H' => ∃ i : Int, u = .int .i64 i ∧ FirstK p l.length i ∧ h' = h ∧ H' = KK) := by
  have hlen : (l.map cK).length = l.length := List.length_map ..
  obtain ⟨ao, ca, rfl⟩ := hv.len
  rw [hlen] at hv ⊢
  refine K.enter Tryd.func59 rfl (Nat.le_of_ble_eq_true rfl) (fun F => ?_)
  (repeat' (first | refine X.rq ?_ | (refine X.rc ?_ ?_ <;> intro hc <;> first | (exfalso; omega) | skip)))
  refine K.c_loop (σ := Nat) (fun j => [(0, .slice ao l.length ca), (1, .func (.func f) #[] caps.toArray), (6, .slice ao l.length ca), (7, .int .i64 l.length), (8, .int .i64 j)]) (fun _ => h) (fun _ => KK ++ F)
    (fun j => j ≤ l.length ∧ ∀ i, i < j → p i = false) (fun j => l.length - j) 0 ⟨Nat.zero_le _, fun i hi => by omega⟩ (by repeat (first | exact K.Sub.nil _ | refine K.Sub.cons rfl ?_)) rfl rfl ?_
  rintro j ⟨hj, hno⟩ KL hKL
  by_cases hjl : j < l.length
  · have hx1 : l[j]? = some l[j] := List.getElem?_eq_getElem hjl
    generalize l[j] = x at hx1
    have hc0 : (l.map cK)[((j : Nat) : Int).toNat]? = some (cK x) := by rw [Int.toNat_natCast, List.getElem?_map, hx1]; rfl
    (repeat' (first | refine X.rq ?_ | (refine X.rc ?_ ?_ <;> intro hc <;> first | (exfalso; omega) | skip)))
    refine K.s_pureE (K.p_indexK hv (Fx.und rfl) (Fx.sz rfl) rfl rfl (by omega) hc0) rfl ?_
    rintro v2 ⟨b, o, rfl, hcel⟩
    refine K.s_pure (K.p_loadM (Fx.agg rfl) rfl (K.Cels.sub hcel fun A hA => List.mem_append_left _ hA) (Fx.sz rfl) rfl) rfl ?_
    refine K.l_callF (vals := [.agg (cK x).toArray]) hcal rfl rfl (hp j x hx1) (List.Perm.refl _) rfl ?_
    rintro u h' H' - ⟨rfl, e, rfl⟩
    obtain rfl := e.symm
    cases hpj : p j with
    | true =>
      (repeat' (first | refine X.rq ?_ | (refine X.rc ?_ ?_ <;> intro hc <;> first | (exfalso; omega) | skip)))
      refine K.done (by first | exact Or.inl rfl | exact Or.inr rfl) rfl (by first | exact K.Base.le.refl _ | assumption) (H' := H') rfl ⟨j, rfl, .inr ⟨j, rfl, hjl, hpj, hno⟩, rfl, rfl⟩
    | false =>
      (repeat' (first | refine X.rq ?_ | (refine X.rc ?_ ?_ <;> intro hc <;> first | (exfalso; omega) | skip)))
      refine K.a_round hKL (j + 1) ⟨by omega, fun i hi => ?_⟩ (by repeat (first | exact K.Sub.nil _ | refine K.Sub.cons rfl ?_)) rfl rfl (by omega)
      by_cases hij : i < j
      · exact hno i hij
      · obtain rfl : i = j := by omega
        exact hpj
  · obtain rfl : j = l.length := by omega
    (repeat' (first | refine X.rq ?_ | (refine X.rc ?_ ?_ <;> intro hc <;> first | (exfalso; omega) | skip)))
    refine K.done (by first | exact Or.inl rfl | exact Or.inr rfl) rfl (by first | exact K.Base.le.refl _ | assumption) (H' := KK) rfl ⟨-1, rfl, .inl ⟨rfl, hno⟩, rfl, rfl⟩
theorem CtnL (h : Base) (KK : List Asrt) (f : FuncId) (caps : List Value) (hcal : Callable Tryd.prog f) (v : Value) (l : List PLock) (q : PLock → Bool) (hv : SLK h KK 7 v (l.map cK)) (hl : l.length ≤ 9223372036854775807)
    (hp : ∀ x ∈ l, TrV Tryd.prog f (.agg (cK x).toArray :: caps) h KK (.bool (q x)) KK) :
    TrV Tryd.prog 43 [v, .func (.func f) #[] caps.toArray] h KK (.bool (l.any q)) KK := by
  refine K.enter Tryd.func43 rfl (Nat.le_of_ble_eq_true rfl) (fun F => ?_)
  (repeat' (first | refine X.rq ?_ | (refine X.rc ?_ ?_ <;> intro hc <;> first | (exfalso; omega) | skip)))
  refine K.l_call (Fx.cal rfl) rfl (IdxL h KK f caps hcal v l (fun j => ((l[j]?).map q).getD false) hv hl fun j x hx => by
    rw [hx]
    exact hp x (List.mem_of_getElem? hx)) (List.Perm.refl _) rfl ?_
  rintro u h' H' - ⟨i, rfl, hi, e, rfl⟩
  obtain rfl := e.symm
  have hany : decide (i ≥ 0) = l.any q := by
    rcases hi with ⟨rfl, hno⟩ | ⟨j, rfl, hj, hpj, _⟩
    · refine (List.any_eq_false.2 fun x hx => ?_).symm ▸ rfl
      obtain ⟨k, hk⟩ := List.mem_iff_getElem?.1 hx
      have := hno k (List.getElem?_eq_some_iff.1 hk).1
      dsimp only at this
      rw [hk] at this
      simpa using this
    · rw [List.any_eq_true.2 ⟨l[j], List.getElem_mem hj, by
        dsimp only at hpj
        rw [List.getElem?_eq_getElem hj] at hpj
        simpa using hpj⟩]
      exact decide_eq_true (by omega)
  (repeat' (first | refine X.rq ?_ | (refine X.rc ?_ ?_ <;> intro hc <;> first | (exfalso; omega) | skip)))
  refine K.done (by first | exact Or.inl rfl | exact Or.inr rfl) rfl (by first | exact K.Base.le.refl _ | assumption) (H' := H') rfl ⟨?_, rfl, rfl⟩
  rw [← hany]
  rfl
end Go.Proofs.YtcpdfajaggbjlaaDoor.Lk
