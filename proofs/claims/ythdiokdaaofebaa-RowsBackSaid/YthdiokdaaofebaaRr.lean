/-
  What the statements' arguments read as: columns, values, how great they may be. Conditions: each theorem's own.
-/
import Derived.Test.YthdiokdaaofebaaK9
import Derived.Test.YthdiokdaaofebaaDa
import Derived.SizedLaws
namespace Go.Proofs.Ythdiokdaaofebaa.Rd
open Go Go.K Go.Proofs Go.Proofs.Ythdiokdaaofebaa Go.Proofs.Ythdiokdaaofebaa.Rw
open Go.ChangeShapes Go.WideShapes Go.ChangeAt Go.RowKit
set_option linter.unusedVariables false
set_option linter.unusedSimpArgs false
set_option maxRecDepth 10000

section
variable {H : Type} {enc : TypeId × Value → H} {P : Program} {W : World} {base : Nat} {spare : Nat → Bool} {held : Bool}
/-- How long a slice may be that came in. -/
theorem len_reach {ts : List TypeId} {ds : List (DataW H)} {j fuel : Nat} {t e : TypeId} {d : DataW H} {p : List MemPlace} {a : Option Addr} {l c : Nat} (hsz : (DataW.weightsEach P ts ds).all (· ≤ reachBytes) = true) (ht' : ts[j]? = some t) (hd : ds[j]? = some d)
    (ht : P.underlying t = some (.slice e)) (h : DataW.trod enc P W base spare held fuel t [.slice a l c] = some (d, p)) : l * P.bytesOf e ≤ reachBytes := by
  rcases Go.Deep.open_slice ht h with ⟨hcs, _⟩ | ⟨a', len, cap, m, n, D, Pl, hcs, _, _, _, _, hx, _⟩
  · simp at hcs
    obtain ⟨-, rfl, -⟩ := hcs
    simp
  · simp at hcs
    obtain ⟨-, rfl, -⟩ := hcs
    have e1 : d = .slice ((List.range l).map D) ((List.range (m - l)).map fun j => D (l + j)) := congrArg Prod.fst hx
    have := sized_slice hsz ht' (by rw [hd, e1]) ht
    simp only [List.length_map, List.length_range] at this
    exact Nat.le_trans (Nat.mul_le_mul_right _ (Nat.le_add_right ..)) this
theorem col_of (cs : List Value) (n : Nat) (y : DataW H × List MemPlace) (h : DataW.trod enc Try.prog W base spare held n 44 cs = some y) : ∃ i : Col, cs = cC i ∧ wfC i := by
  obtain ⟨xs, k, rfl, rfl, hl, hlen, hf⟩ := DataW.trod_struct Try.underlying44 h
  have hl4 : cs.length = 3 := hl.trans (by kernel_rfl)
  have c3 : Try.prog.cellsOf 3 = 1 := by kernel_rfl
  have c4 : Try.prog.cellsOf 4 = 1 := by kernel_rfl
  have c9 : Try.prog.cellsOf 9 = 1 := by kernel_rfl
  match cs, hl4, xs, hlen with
  | [v0, v1, v2], _, [x0, x1, x2], _ =>
    have f0 := hf 0 _ rfl
    have f1 := hf 1 _ rfl
    have f2 := hf 2 _ rfl
    simp [c3, c4, c9] at f0 f1 f2
    obtain ⟨s0, e0, _, w0⟩ := DataW.trod_string Try.underlying9 f0
    obtain ⟨n1, e1, _, w1⟩ := DataW.trod_int Try.underlying3 f1
    obtain ⟨b2, e2, _⟩ := DataW.trod_bool Try.underlying4 f2
    simp at e0 e1 e2
    subst e0 e1 e2
    have b1 := bounds_i64 w1
    exact ⟨⟨s0, n1, b2⟩, rfl, ⟨b1.1, b1.2, w0⟩⟩
theorem val_of (cs : List Value) (n : Nat) (y : DataW H × List MemPlace) (h : DataW.trod enc Try.prog W base spare held n 40 cs = some y) : ∃ i : Val, cs = cV i ∧ wfV i := by
  obtain ⟨xs, k, rfl, rfl, hl, hlen, hf⟩ := DataW.trod_struct Try.underlying40 h
  have hl4 : cs.length = 3 := hl.trans (by kernel_rfl)
  have c3 : Try.prog.cellsOf 3 = 1 := by kernel_rfl
  have c4 : Try.prog.cellsOf 2 = 1 := by kernel_rfl
  have c9 : Try.prog.cellsOf 9 = 1 := by kernel_rfl
  match cs, hl4, xs, hlen with
  | [v0, v1, v2], _, [x0, x1, x2], _ =>
    have f0 := hf 0 _ rfl
    have f1 := hf 1 _ rfl
    have f2 := hf 2 _ rfl
    simp [c3, c4, c9] at f0 f1 f2
    obtain ⟨n0, e0, _, w0⟩ := DataW.trod_int Try.underlying3 f0
    obtain ⟨n1, e1, _, w1⟩ := DataW.trod_int Try.underlying2 f1
    obtain ⟨s2, e2, _, w2⟩ := DataW.trod_string Try.underlying9 f2
    simp at e0 e1 e2
    subst e0 e1 e2
    have b0 := bounds_i64 w0
    have b1 := bounds_i64 w1
    exact ⟨⟨n0, n1, s2⟩, rfl, ⟨b0.1, b0.2, b1.1, b1.2, w2⟩⟩
theorem cols_of {fuel : Nat} {x : DataW H × List MemPlace} {a : Option Addr} {len cap : Nat} (h : DataW.trod enc Try.prog W base spare held fuel 22 [Value.slice a len cap] = some x) :
    ∃ l : List Col, SL (Base.of W) 3 (.slice a len cap) (l.map cC) ∧ (∀ i ∈ l, wfC i) ∧ l.length = len := by
  obtain ⟨l, h1, h2, _⟩ := sl_of (sz := 3) (f := cC) (wf := wfC) (v := .slice a len cap) Try.underlying22 (by kernel_rfl) (by decide) col_of (fun _ => rfl) h ⟨_, _, _, rfl⟩
  obtain ⟨ao, c, e⟩ := h1.len
  rw [List.length_map] at e
  cases e
  exact ⟨l, h1, h2, rfl⟩
theorem vals_of {fuel : Nat} {x : DataW H × List MemPlace} {a : Option Addr} {len cap : Nat} (h : DataW.trod enc Try.prog W base spare held fuel 28 [Value.slice a len cap] = some x) :
    ∃ l : List Val, SL (Base.of W) 3 (.slice a len cap) (l.map cV) ∧ (∀ i ∈ l, wfV i) ∧ l.length = len := by
  obtain ⟨l, h1, h2, _⟩ := sl_of (sz := 3) (f := cV) (wf := wfV) (v := .slice a len cap) Try.underlying28 (by kernel_rfl) (by decide) val_of (fun _ => rfl) h ⟨_, _, _, rfl⟩
  obtain ⟨ao, c, e⟩ := h1.len
  rw [List.length_map] at e
  cases e
  exact ⟨l, h1, h2, rfl⟩
end
end Go.Proofs.Ythdiokdaaofebaa.Rd
