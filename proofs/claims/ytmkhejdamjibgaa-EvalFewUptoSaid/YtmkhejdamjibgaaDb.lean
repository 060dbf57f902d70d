/-
  Rows: which columns may be. Conditions: each theorem's own.
-/
import Derived.Test.YtmkhejdamjibgaaDa

namespace Go.Proofs.Ytmkhejdamjibgaa.Rw
open Go Go.K Go.Proofs Go.Proofs.Ytmkhejdamjibgaa
set_option linter.unusedVariables false
set_option linter.unusedSimpArgs false
set_option maxRecDepth 10000

def okC (c : Col) : Bool := nameB c.name.data.toList && decide (1 ≤ c.kind ∧ c.kind ≤ 3)
/-- May the columns be? -/
def mayB (l : List Col) : Bool := decide (1 ≤ l.length) && decide (l.length ≤ 16) && l.all okC && decide ((l.map Col.name).Nodup)
theorem mayB_yes {l : List Col} (h1 : 1 ≤ l.length) (h2 : l.length ≤ 16) (h3 : ∀ (j : Nat) (c : Col), l[j]? = some c → okC c = true) (h4 : ∀ (i j : Nat) (ci cj : Col), i < j → l[i]? = some ci → l[j]? = some cj → ci.name ≠ cj.name) : mayB l = true := by
  have e3 : l.all okC = true := List.all_eq_true.2 fun c hc => by
    obtain ⟨j, hj, e⟩ := List.getElem_of_mem hc
    exact h3 j c (by rw [List.getElem?_eq_getElem hj, e])
  have e4 : (l.map Col.name).Nodup := List.pairwise_iff_getElem.2 fun i j hi hj hij => by
    rw [List.getElem_map, List.getElem_map]
    rw [List.length_map] at hi hj
    exact h4 i j _ _ hij (List.getElem?_eq_getElem hi) (List.getElem?_eq_getElem hj)
  rw [mayB, decide_eq_true h1, decide_eq_true h2, e3, decide_eq_true e4]; rfl
theorem mayB_len {l : List Col} (h : l.length < 1 ∨ 16 < l.length) : mayB l = false := by
  rcases h with h | h
  · rw [mayB, decide_eq_false (show ¬ 1 ≤ l.length by omega)]; simp
  · rw [mayB, decide_eq_false (show ¬ l.length ≤ 16 by omega)]; simp
theorem mayB_no1 {l : List Col} {j : Nat} {c : Col} (hc : l[j]? = some c) (h : okC c = false) : mayB l = false := by
  have e3 : l.all okC = false := List.all_eq_false.2 ⟨c, List.mem_of_getElem? hc, by rw [h]; decide⟩
  rw [mayB, e3]; simp
theorem mayB_no2 {l : List Col} {i j : Nat} {ci cj : Col} (hij : i < j) (hi : l[i]? = some ci) (hj : l[j]? = some cj) (h : ci.name = cj.name) : mayB l = false := by
  have e4 : ¬ (l.map Col.name).Nodup := fun hn => by
    obtain ⟨a1, e1⟩ := List.getElem?_eq_some_iff.1 hi
    obtain ⟨a2, e2⟩ := List.getElem?_eq_some_iff.1 hj
    have := List.pairwise_iff_getElem.1 hn i j (by simpa using a1) (by simpa using a2) hij
    rw [List.getElem_map, List.getElem_map, e1, e2] at this
    exact this h
  rw [mayB, decide_eq_false e4]; simp
theorem mayB_len16 {l : List Col} (h : mayB l = true) : 1 ≤ l.length ∧ l.length ≤ 16 := by
  simp only [mayB, Bool.and_eq_true, decide_eq_true_eq] at h
  exact ⟨h.1.1.1, h.1.1.2⟩
end Go.Proofs.Ytmkhejdamjibgaa.Rw
