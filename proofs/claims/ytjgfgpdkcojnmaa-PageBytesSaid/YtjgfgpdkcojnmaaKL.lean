/-
  KL: what came in, with the reach of all its parts. Generic over the program. Conditions: none.
-/
import Derived.Test.YtjgfgpdkcojnmaaKG
import Derived.SizedLaws
namespace Go.K
set_option linter.unusedVariables false
set_option linter.unusedSimpArgs false
open Go.ChangeShapes Go.WideShapes Go.ChangeAt Go.RowKit
section
variable {H : Type} {enc : TypeId × Value → H} {P : Program} {W : World} {base : Nat} {spare : Nat → Bool} {held : Bool}
/-- No part is greater than this. -/
def Upto {H : Type} (P : Program) (t : TypeId) (d : DataW H) : Prop := ∀ n ∈ d.weights P t, n ≤ reachBytes
theorem upto_arg {ts : List TypeId} {ds : List (DataW H)} {j : Nat} {t : TypeId} {d : DataW H} (hsz : (DataW.weightsEach P ts ds).all (· ≤ reachBytes) = true) (ht : ts[j]? = some t) (hd : ds[j]? = some d) : Upto P t d := fun n hn => by
  have := List.all_eq_true.1 hsz n (DataW.weights_mem_each ht hd n hn)
  simpa using this
theorem weights_all {e : TypeId} : ∀ {l : List (DataW H)} {d : DataW H}, d ∈ l → ∀ n ∈ d.weights P e, n ∈ DataW.weightsAll P e l
  | x :: l, d, hd, n, hn => by
    rw [DataW.weightsAll, List.mem_append]
    rcases List.mem_cons.1 hd with rfl | hd
    · exact .inl hn
    · exact .inr (weights_all hd n hn)
theorem upto_field {t : TypeId} {fs : Array Field} {parts : List (DataW H)} {i : Nat} {f : Field} {d : DataW H} (hu : P.underlying t = some (.struct fs)) (h : Upto P t (.agg parts)) (hf : fs[i]? = some f) (hd : parts[i]? = some d) : Upto P f.type d := fun n hn => by
  refine h n ?_
  rw [DataW.weights, hu]
  exact DataW.weights_mem_each (j := i) (by simpa using congrArg (Option.map Field.type) hf) hd n hn
/-- A slice whose elements hold slices again. -/
theorem slu_of {t e : TypeId} {sz : Nat} {fuel : Nat} {v : Value} {x : DataW H × List MemPlace} (ht : P.underlying t = some (.slice e)) (hsz : P.cellsOf e = sz) (hpos : 0 < sz) (h : DataW.trod enc P W base spare held fuel t v.cells.toList = some x) (hv : ∃ a l c, v = .slice a l c) (hR : Upto P t x.1) :
    ∃ (es : List (List Value)) (n : Nat), (es ≠ [] → fuel = n + 1) ∧ SL (Base.of W) sz v es ∧ (∀ cs ∈ es, ∃ y, DataW.trod enc P W base spare held n e cs = some y ∧ Upto P e y.1) ∧ es.length ≤ maxLen ∧ es.length * P.bytesOf e ≤ reachBytes := by
  obtain ⟨av, lv, cv, rfl⟩ := hv
  rcases DataW.trod_slice ht h with ⟨hcs, hx⟩ | ⟨a, len, cap, elems, rest, n, hfu, hcs, rfl, hb, hl, hm, hlen, hel, hsp, hns⟩
  · simp [Value.cells] at hcs
    obtain ⟨rfl, rfl, rfl⟩ := hcs
    exact ⟨[], 0, fun h => absurd rfl h, .inl ⟨_, _, rfl, rfl⟩, by simp, by simp, by simp⟩
  · simp [Value.cells] at hcs
    obtain ⟨rfl, rfl, rfl⟩ := hcs
    subst hsz
    have hup : ∀ d ∈ elems, Upto P e d.1 := fun d hd n hn => hR n (by
      rw [DataW.weights, ht]
      exact List.mem_cons_of_mem _ (List.mem_append_left _ (weights_all (List.mem_map.2 ⟨d, hd, rfl⟩) n hn)))
    have hlb : lv * P.bytesOf e ≤ reachBytes := by
      have := hR ((elems.length + rest.length) * P.bytesOf e) (by rw [DataW.weights, ht]; simp)
      rw [hlen] at this
      exact Nat.le_trans (Nat.mul_le_mul_right _ (Nat.le_add_right ..)) this
    obtain ⟨l, hll, hp⟩ := list_of (p := fun i (y : List Value) => W.cells? base (a.add (i * P.cellsOf e)) (P.cellsOf e) = some y ∧ ∃ z, DataW.trod enc P W base spare held n e y = some z ∧ Upto P e z.1) lv fun i hi => by
      have h1 := hel i hi
      rw [List.getElem?_eq_getElem (by omega)] at h1
      obtain ⟨cs', h2, h3⟩ := Option.bind_eq_some_iff.1 h1
      exact ⟨cs', h2, _, h3, hup _ (List.getElem_mem _)⟩
    have hsize : ∀ j (hj : j < l.length), l[j].length = P.cellsOf e := fun j hj => (World.cells?_some (hp j hj).1).2.1
    refine ⟨l, n, fun _ => hfu, ?_, fun i hi => ?_, by omega, by rw [hll]; exact hlb⟩
    · by_cases h0 : lv = 0
      · subst h0
        obtain rfl := List.length_eq_zero_iff.1 hll
        exact .inl ⟨_, _, rfl, rfl⟩
      · obtain ⟨b, off, spot⟩ := a
        have hc := (World.cells?_some (hp 0 (by omega)).1).2.2 0 hpos
        have hspot : spot = none := by
          have h1 : ∃ u, W.cell? ⟨b, off, spot⟩ = some u := ⟨_, by simpa [Addr.add, List.getElem?_eq_getElem (show 0 < (l[0]'(by omega)).length by rw [hsize]; exact hpos)] using hc⟩
          obtain ⟨u, hu⟩ := h1
          simpa using World.cell?_spot hu
        subst hspot
        refine .inr ⟨b, off, cv, by simp [hll], by omega, fun j hj => ⟨hsize j hj, ?_⟩⟩
        refine wcels_of _ _ fun i hi => ?_
        have hi' : i < P.cellsOf e := by rw [← hsize j hj]; exact hi
        have := (World.cells?_some (hp j hj).1).2.2 i hi'
        rw [show (Addr.add (Addr.add ⟨b, off, none⟩ (j * P.cellsOf e)) i) = ⟨b, off + j * P.cellsOf e + i, none⟩ from by unfold Addr.add; split <;> split <;> simp_all] at this
        exact this
    · obtain ⟨k, hk, rfl⟩ := List.getElem_of_mem hi
      exact (hp k hk).2
end
end Go.K
