/-
  Pages: the room that is left. Conditions: each theorem's own.
-/
import Derived.Test.YtahdbncfegedjaaFg

namespace Go.Proofs.Ytahdbncfegedjaa.Pg
open Go Go.K Go.Proofs Go.Proofs.Ytahdbncfegedjaa
set_option linter.unusedVariables false
set_option linter.unusedSimpArgs false
set_option maxRecDepth 10000

theorem SL.lens {h : Base} {sz : Nat} {v : Value} {es : List (List Value)} (hv : SL h sz v es) : ∀ c ∈ es, c.length = sz := fun c hc => by
  rcases hv with ⟨_, _, _, rfl⟩ | ⟨b, o, ca, _, _, hcs⟩
  · cases hc
  · obtain ⟨j, hj, e⟩ := List.getElem_of_mem hc
    rw [← e]; exact (hcs j hj).1
theorem IdxC (h : Base) (KK : List Asrt) (f : FuncId) (caps : List Value) (hcal : Callable Try.prog f) (v : Value) (es : List (List Value)) (p : Nat → Bool) (hv : SL h 3 v es) (hl : es.length ≤ 9223372036854775807)
    (hz : ∀ c ∈ es, c.length = 3) (hp : ∀ j cs, es[j]? = some cs → TrV Try.prog f (.agg cs.toArray :: caps) h KK (.bool (p j)) KK) :
    Tr Try.prog 33 [v, .func (.func f) #[] caps.toArray] h KK (fun u h' H' => ∃ i : Int, u = .int .i64 i ∧ decide (0 ≤ i) = (List.range es.length).any p ∧ h' = h ∧ H' = KK) := by
  obtain ⟨ao, ca, rfl⟩ := hv.len
  refine K.enter Try.func33 rfl (Nat.le_of_ble_eq_true rfl) (fun F => ?_)
  (repeat' (first | refine X.rq ?_ | (refine X.rc ?_ ?_ <;> intro hc <;> first | (exfalso; omega) | skip)))
  refine K.c_loop (σ := Nat) (fun j => [(0, .slice ao es.length ca), (1, .func (.func f) #[] caps.toArray), (6, .slice ao es.length ca), (7, .int .i64 es.length), (8, .int .i64 j)]) (fun _ => h) (fun _ => KK ++ F)
    (fun j => j ≤ es.length ∧ ∀ i, i < j → p i = false) (fun j => es.length - j) 0 ⟨Nat.zero_le _, fun i hi => by omega⟩ (by repeat (first | exact K.Sub.nil _ | refine K.Sub.cons rfl ?_)) rfl rfl ?_
  rintro j ⟨hj, hno⟩ KL hKL
  by_cases hjl : j < es.length
  · have hc1 : es[j]? = some es[j] := List.getElem?_eq_getElem hjl
    have hc0 : es[((j : Nat) : Int).toNat]? = some es[j] := by rw [Int.toNat_natCast]; exact hc1
    have hzj : es[j].length = 3 := hz _ (List.getElem_mem hjl)
    generalize es[j] = c at hc0 hc1 hzj
    (repeat' (first | refine X.rq ?_ | (refine X.rc ?_ ?_ <;> intro hc <;> first | (exfalso; omega) | skip)))
    refine K.s_pureE (K.p_indexL hv (Fx.und rfl) (Fx.sz rfl) rfl rfl (by omega) hc0) rfl ?_
    rintro v2 ⟨b, o, rfl, hcel⟩
    refine K.s_pure (K.p_loadM (Fx.agg rfl) rfl (Cels.up hcel) (Fx.sz rfl) hzj) rfl ?_
    refine K.l_callF (vals := [.agg c.toArray]) hcal rfl rfl (hp j c hc1) (List.Perm.refl _) rfl ?_
    rintro u h' H' - ⟨rfl, e, rfl⟩
    obtain rfl := e.symm
    cases hpj : p j with
    | true =>
      (repeat' (first | refine X.rq ?_ | (refine X.rc ?_ ?_ <;> intro hc <;> first | (exfalso; omega) | skip)))
      refine K.done (by first | exact Or.inl rfl | exact Or.inr rfl) rfl (by first | exact K.Base.le.refl _ | assumption) (H' := H') rfl ⟨j, rfl, ?_, rfl, rfl⟩
      rw [List.any_eq_true.2 ⟨j, List.mem_range.2 hjl, hpj⟩]
      exact decide_eq_true (by omega)
    | false =>
      (repeat' (first | refine X.rq ?_ | (refine X.rc ?_ ?_ <;> intro hc <;> first | (exfalso; omega) | skip)))
      refine K.a_round hKL (j + 1) ⟨by omega, fun i hi => ?_⟩ (by repeat (first | exact K.Sub.nil _ | refine K.Sub.cons rfl ?_)) rfl rfl (by omega)
      by_cases hij : i < j
      · exact hno i hij
      · obtain rfl : i = j := by omega
        exact hpj
  · obtain rfl : j = es.length := by omega
    (repeat' (first | refine X.rq ?_ | (refine X.rc ?_ ?_ <;> intro hc <;> first | (exfalso; omega) | skip)))
    refine K.done (by first | exact Or.inl rfl | exact Or.inr rfl) rfl (by first | exact K.Base.le.refl _ | assumption) (H' := KK) rfl ⟨-1, rfl, ?_, rfl, rfl⟩
    rw [List.any_eq_false.2 fun i hi => by rw [hno i (List.mem_range.1 hi)]; decide]
    exact decide_eq_false (by omega)
theorem CtnC (h : Base) (KK : List Asrt) (f : FuncId) (caps : List Value) (hcal : Callable Try.prog f) (v : Value) (es : List (List Value)) (p : Nat → Bool) (hv : SL h 3 v es) (hl : es.length ≤ 9223372036854775807)
    (hz : ∀ c ∈ es, c.length = 3) (hp : ∀ j cs, es[j]? = some cs → TrV Try.prog f (.agg cs.toArray :: caps) h KK (.bool (p j)) KK) :
    TrV Try.prog 61 [v, .func (.func f) #[] caps.toArray] h KK (.bool ((List.range es.length).any p)) KK := by
  refine K.enter Try.func61 rfl (Nat.le_of_ble_eq_true rfl) (fun F => ?_)
  (repeat' (first | refine X.rq ?_ | (refine X.rc ?_ ?_ <;> intro hc <;> first | (exfalso; omega) | skip)))
  refine K.l_call (Fx.cal rfl) rfl (IdxC h KK f caps hcal v es p hv hl hz hp) (List.Perm.refl _) rfl ?_
  rintro u h' H' - ⟨i, rfl, hi, e, rfl⟩
  obtain rfl := e.symm
  rw [← hi]
  (repeat' (first | refine X.rq ?_ | (refine X.rc ?_ ?_ <;> intro hc <;> first | (exfalso; omega) | skip)))
  refine K.done (by first | exact Or.inl rfl | exact Or.inr rfl) rfl (by first | exact K.Base.le.refl _ | assumption) (H' := H') rfl ⟨rfl, rfl, rfl⟩
def freeQ (l : List PCell) : Bool := l.any (fun x => !x.used)
def freeAt (l : List PCell) (j : Nat) : Bool := match l[j]? with
  | some x => !x.used
  | none => false
theorem any_free (l : List PCell) : (List.range l.length).any (freeAt l) = freeQ l := by
  rw [Bool.eq_iff_iff, List.any_eq_true, freeQ, List.any_eq_true]
  constructor
  · rintro ⟨i, hi, h⟩
    have hlt := List.mem_range.1 hi
    rw [freeAt, List.getElem?_eq_getElem hlt] at h
    exact ⟨_, List.getElem_mem hlt, h⟩
  · rintro ⟨x, hx, h⟩
    obtain ⟨i, hi, e⟩ := List.getElem_of_mem hx
    exact ⟨i, List.mem_range.2 hi, by rw [freeAt, List.getElem?_eq_getElem hi, e]; exact h⟩
/-- The room that is left. -/
def roomN (l : List PCell) : Int := if freeQ l = true then 508 - sizeQ l else if l.length = 60 then 0 else 506 - sizeQ l
def roomQ (p : Pag) : Int := if mayQ p = true ∧ p.kind ≠ 3 then max 0 (min (roomN p.cells) 180) else 0
end Go.Proofs.Ytahdbncfegedjaa.Pg
