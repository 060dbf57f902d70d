/-
  Memory that came up behind a base, taken back: numbers and texts may turn. Conditions: each theorem's own.
-/
import Derived.Test.YtdjacjhojbkgjaaWi
namespace Go.Proofs.Ytdjacjhojbkgjaa.Ct
open Go Go.K Go.Proofs Go.Proofs.Ytdjacjhojbkgjaa Go.Proofs.Ytdjacjhojbkgjaa.Rw
set_option linter.unusedVariables false
set_option linter.unusedSimpArgs false
set_option maxRecDepth 10000

def cmp2 (u v : Value) : Prop := u = v ∨ (∃ k a b, u = .int k a ∧ v = .int k b) ∨ ∃ a b, u = .string a ∧ v = .string b
theorem cmp2.trans {u v w : Value} (h1 : cmp2 u v) (h2 : cmp2 v w) : cmp2 u w := by
  rcases h1 with rfl | ⟨k, a, b, rfl, rfl⟩ | ⟨a, b, rfl, rfl⟩
  · exact h2
  · rcases h2 with rfl | ⟨k2, a2, b2, e, rfl⟩ | ⟨_, _, e, _⟩
    · exact .inr (.inl ⟨_, _, _, rfl, rfl⟩)
    · cases e; exact .inr (.inl ⟨_, _, _, rfl, rfl⟩)
    · cases e
  · rcases h2 with rfl | ⟨_, _, _, e, _⟩ | ⟨a2, b2, e, rfl⟩
    · exact .inr (.inr ⟨_, _, rfl, rfl⟩)
    · cases e
    · cases e; exact .inr (.inr ⟨_, _, rfl, rfl⟩)
theorem cmp2_slice {ao : Option Addr} {n c : Nat} {u : Value} (hc : cmp2 (.slice ao n c) u) : u = .slice ao n c := by
  rcases hc with rfl | ⟨_, _, _, e, _⟩ | ⟨_, _, e, _⟩
  · rfl
  · cases e
  · cases e
theorem cmp2_bool {b : Bool} {u : Value} (hc : cmp2 (.bool b) u) : u = .bool b := by
  rcases hc with rfl | ⟨_, _, _, e, _⟩ | ⟨_, _, e, _⟩
  · rfl
  · cases e
  · cases e
theorem cmp2_int {k : IntKind} {a : Int} {u : Value} (hc : cmp2 (.int k a) u) : ∃ c, u = .int k c := by
  rcases hc with rfl | ⟨_, _, _, e, rfl⟩ | ⟨_, _, e, _⟩
  · exact ⟨_, rfl⟩
  · cases e; exact ⟨_, rfl⟩
  · cases e
theorem cmp2_string {a : ByteArray} {u : Value} (hc : cmp2 (.string a) u) : ∃ c, u = .string c := by
  rcases hc with rfl | ⟨_, _, _, e, _⟩ | ⟨_, _, e, rfl⟩
  · exact ⟨_, rfl⟩
  · cases e
  · exact ⟨_, rfl⟩
def Cmp2 (h' : Base) (L : List Nat) (g : Nat → List Value) : Prop := ∀ b ∈ L, ∀ arr T fz, h'.mem b = some (.cells arr T fz) → (g b).length = arr.size ∧ ∀ (i : Nat) u, arr[i]? = some u → ∃ u', (g b)[i]? = some u' ∧ cmp2 u u'
theorem Cmp2.of {h' : Base} {L : List Nat} {g : Nat → List Value} (hc : Cmp h' L g) : Cmp2 h' L g := fun b hb arr T fz hm => by
  obtain ⟨h1, h2⟩ := hc b hb arr T fz hm
  refine ⟨h1, fun i u hu => ?_⟩
  obtain ⟨u', h3, h4⟩ := h2 i u hu
  refine ⟨u', h3, ?_⟩
  rcases h4 with rfl | ⟨k, a, b, rfl, rfl⟩
  · exact .inl rfl
  · exact .inr (.inl ⟨_, _, _, rfl, rfl⟩)
theorem Cmp2.upd {h' : Base} {L : List Nat} {gg : Nat → List Value} {b o : Nat} {u0 u1 : Value} (hc : Cmp2 h' L gg) (hg : (gg b)[o]? = some u0) (h01 : cmp2 u0 u1) : Cmp2 h' L (K.upd gg b o u1) := fun x hx arr T fz hm => by
  obtain ⟨h1, h2⟩ := hc x hx arr T fz hm
  unfold K.upd
  by_cases e : x = b
  · subst e
    rw [if_pos rfl]
    refine ⟨by simpa using h1, fun i u hu => ?_⟩
    obtain ⟨u', hu1, hu2⟩ := h2 i u hu
    by_cases ei : i = o
    · subst ei
      rw [hg] at hu1
      cases hu1
      exact ⟨u1, by simp [(List.getElem?_eq_some_iff.1 hg).1], hu2.trans h01⟩
    · exact ⟨u', by rw [List.getElem?_set_ne (fun e => ei e.symm)]; exact hu1, hu2⟩
  · rw [if_neg e]
    exact ⟨h1, h2⟩
theorem row_lt2 {j n sz i : Nat} (hj : j < n) (hi : i < sz) : j * sz + i < n * sz := by
  have : (j + 1) * sz ≤ n * sz := Nat.mul_le_mul_right _ hj
  rw [Nat.add_mul, Nat.one_mul] at this
  omega
/-- One element of such a row. -/
theorem spR2 {h h' : Base} {L : List Nat} {sz n c : Nat} {ao : Option Addr} {es : List (List Value)} (hw : ∃ w, Sat h' [] w) (hL : ∀ b arr T fz, h.mem b = none → h'.mem b = some (.cells arr T fz) → b ∈ L) (hv : SL h' sz (.slice ao n c) es) (hf : Fsh h h' sz (.slice ao n c)) {j : Nat} {e : List Value} (hj : es[j]? = some e) (hjn : j < n) :
    ∃ b arr T fz, ao = some ⟨b, 0, none⟩ ∧ b ∈ L ∧ h'.mem b = some (.cells arr T fz) ∧ (∀ i, i < sz → (decide (fz.1 ≤ j * sz + i) && decide (j * sz + i < fz.2)) = false) ∧ ∀ g, Cmp2 h' L g → ∀ (i : Nat) u, e[i]? = some u → ∃ u', (g b)[j * sz + i]? = some u' ∧ cmp2 u u' := by
  obtain ⟨b, arr, T, fz, e1, e2, e3, e4⟩ := hf _ _ _ rfl (by omega)
  refine ⟨b, arr, T, fz, e1, hL b arr T fz e2 e3, e3, fun i hi => e4 _ (row_lt2 hjn hi), fun g hg i u hu => ?_⟩
  rcases hv with ⟨_, _, _, rfl⟩ | ⟨b', o, c', hve, _, hall⟩
  · simp at hj
  · injection hve with e5 _ _
    rw [e1] at e5
    injection e5 with e5
    injection e5 with e6 e7 _
    subst e6 e7
    obtain ⟨hlt, rfl⟩ := List.getElem?_eq_some_iff.1 hj
    have hc := (hall j hlt).2.get i u hu
    have ha := cel_arr hw e3 hc
    rw [show 0 + j * sz + i = j * sz + i by omega] at ha
    exact (hg b (hL b arr T fz e2 e3) arr T fz e3).2 _ _ ha
end Go.Proofs.Ytdjacjhojbkgjaa.Ct
