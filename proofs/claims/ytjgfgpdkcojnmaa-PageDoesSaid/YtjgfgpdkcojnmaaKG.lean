/-
  KG: what a slice that came in reads as, where its elements hold slices again. Generic over the program. Conditions: none.
-/
import Derived.Test.YtjgfgpdkcojnmaaK9
namespace Go.K
set_option linter.unusedVariables false
set_option linter.unusedSimpArgs false
open Go.ChangeShapes Go.WideShapes Go.ChangeAt Go.RowKit
section
variable {H : Type} {enc : TypeId × Value → H} {P : Program} {W : World} {base : Nat} {spare : Nat → Bool} {held : Bool}
theorem slf_of {t e : TypeId} {sz : Nat} {fuel : Nat} {v : Value} {x : DataW H × List MemPlace} (ht : P.underlying t = some (.slice e)) (hsz : P.cellsOf e = sz) (hpos : 0 < sz) (h : DataW.trod enc P W base spare held fuel t v.cells.toList = some x) (hv : ∃ a l c, v = .slice a l c) :
    ∃ (es : List (List Value)) (n : Nat), (es ≠ [] → fuel = n + 1) ∧ SL (Base.of W) sz v es ∧ (∀ cs ∈ es, ∃ y, DataW.trod enc P W base spare held n e cs = some y) ∧ es.length ≤ maxLen := by
  obtain ⟨av, lv, cv, rfl⟩ := hv
  rcases DataW.trod_slice ht h with ⟨hcs, _⟩ | ⟨a, len, cap, elems, rest, n, hfu, hcs, rfl, hb, hl, hm, hlen, hel, hsp, hns⟩
  · simp [Value.cells] at hcs
    obtain ⟨rfl, rfl, rfl⟩ := hcs
    exact ⟨[], 0, fun h => absurd rfl h, .inl ⟨_, _, rfl, rfl⟩, by simp, by simp⟩
  · simp [Value.cells] at hcs
    obtain ⟨rfl, rfl, rfl⟩ := hcs
    subst hsz
    obtain ⟨l, hll, hp⟩ := list_of (p := fun i (y : List Value) => W.cells? base (a.add (i * P.cellsOf e)) (P.cellsOf e) = some y ∧ ∃ z, DataW.trod enc P W base spare held n e y = some z) lv fun i hi => by
      have h1 := hel i hi
      rw [List.getElem?_eq_getElem (by omega)] at h1
      obtain ⟨cs', h2, h3⟩ := Option.bind_eq_some_iff.1 h1
      exact ⟨cs', h2, _, h3⟩
    have hsize : ∀ j (hj : j < l.length), l[j].length = P.cellsOf e := fun j hj => (World.cells?_some (hp j hj).1).2.1
    refine ⟨l, n, fun _ => hfu, ?_, fun i hi => ?_, by omega⟩
    · by_cases h0 : lv = 0
      · subst h0
        obtain rfl := List.length_eq_zero_iff.1 hll
        exact .inl ⟨_, _, rfl, rfl⟩
      · obtain ⟨b, off, spot⟩ := a
        have hc := (World.cells?_some (hp 0 (by omega)).1).2.2 0 hpos
        have hspot : spot = none := by
          have h1 : ∃ u, W.cell? ⟨b, off, spot⟩ = some u := ⟨_, by simpa [Addr.add, List.getElem?_eq_getElem (show 0 < (l[0]'(by omega)).length by rw [hsize]; exact hpos)] using hc⟩
          obtain ⟨u, hu⟩ := h1
          simpa using World.cell?_spot hu
        subst hspot
        refine .inr ⟨b, off, cv, by simp [hll], by omega, fun j hj => ⟨hsize j hj, ?_⟩⟩
        refine wcels_of _ _ fun i hi => ?_
        have hi' : i < P.cellsOf e := by rw [← hsize j hj]; exact hi
        have := (World.cells?_some (hp j hj).1).2.2 i hi'
        rw [show (Addr.add (Addr.add ⟨b, off, none⟩ (j * P.cellsOf e)) i) = ⟨b, off + j * P.cellsOf e + i, none⟩ from by unfold Addr.add; split <;> split <;> simp_all] at this
        exact this
    · obtain ⟨k, hk, rfl⟩ := List.getElem_of_mem hi
      exact (hp k hk).2
end
end Go.K
