/-
  What the statements' arguments read as: items. Conditions: each theorem's own.
-/
import Derived.Test.YtgglpkboijjoiaaK9
import Derived.Test.YtgglpkboijjoiaaLa
namespace Go.Proofs.Ytgglpkboijjoiaa.Rd
open Go Go.K Go.Proofs Go.Proofs.Ytgglpkboijjoiaa Go.Proofs.Ytgglpkboijjoiaa.La
open Go.ChangeShapes Go.WideShapes Go.ChangeAt Go.RowKit
set_option linter.unusedVariables false
set_option linter.unusedSimpArgs false
set_option maxRecDepth 10000

section
variable {H : Type} {enc : TypeId × Value → H} {W : World} {base : Nat} {spare : Nat → Bool} {held : Bool}
theorem bounds_u64 {n : Int} (h : (Lit.int .u64 n).wf = true) : 0 ≤ n ∧ n ≤ 18446744073709551615 := by
  simpa [Lit.wf, IntKind.min, IntKind.max, IntKind.signed, IntKind.bits] using h
theorem item_of (cs : List Value) (n : Nat) (y : DataW H × List MemPlace) (h : DataW.trod enc Try.prog W base spare held n 31 cs = some y) : ∃ i : It, cs = cI i ∧ wfI i := by
  obtain ⟨xs, k, rfl, rfl, hl, hlen, hf⟩ := DataW.trod_struct Try.underlying31 h
  have hl4 : cs.length = 4 := hl.trans (by kernel_rfl)
  have c3 : Try.prog.cellsOf 3 = 1 := by kernel_rfl
  have c29 : Try.prog.cellsOf 29 = 1 := by kernel_rfl
  have c9 : Try.prog.cellsOf 9 = 1 := by kernel_rfl
  match cs, hl4, xs, hlen with
  | [v0, v1, v2, v3], _, [x0, x1, x2, x3], _ =>
    have f0 := hf 0 _ rfl
    have f1 := hf 1 _ rfl
    have f2 := hf 2 _ rfl
    have f3 := hf 3 _ rfl
    simp [c3, c29, c9] at f0 f1 f2 f3
    obtain ⟨n0, e0, _, w0⟩ := DataW.trod_int Try.underlying3 f0
    obtain ⟨n1, e1, _, w1⟩ := DataW.trod_int Try.underlying29 f1
    obtain ⟨s2, e2, _, w2⟩ := DataW.trod_string Try.underlying9 f2
    obtain ⟨n3, e3, _, w3⟩ := DataW.trod_int Try.underlying3 f3
    simp at e0 e1 e2 e3
    subst e0 e1 e2 e3
    have b0 := bounds_i64 w0
    have b1 := bounds_u64 w1
    have b3 := bounds_i64 w3
    exact ⟨⟨n0, n1.toNat, s2, n3⟩, by simp only [cI]; rw [Int.toNat_of_nonneg b1.1], ⟨b0.1, b0.2, by simp only; omega, w2, b3.1, b3.2⟩⟩

/-- A slice of items that came in. -/
theorem items_of {fuel : Nat} {x : DataW H × List MemPlace} {a : Option Addr} {len cap : Nat} (h : DataW.trod enc Try.prog W base spare held fuel 22 [Value.slice a len cap] = some x) :
    ∃ l : List It, SL (Base.of W) 4 (.slice a len cap) (l.map cI) ∧ (∀ i ∈ l, wfI i) ∧ l.length ≤ 9223372036854775807 :=
  sl_of (f := cI) (wf := wfI) Try.underlying22 (by kernel_rfl) (by decide) item_of (fun _ => rfl) h ⟨_, _, _, rfl⟩
theorem item_val {fuel : Nat} {x : DataW H × List MemPlace} {v : Value} {w : World} {r : Reach} {b0 : Nat} (hval : Value.okWide Try.prog w r b0 31 v)
    (h : DataW.trod enc Try.prog W base spare held fuel 31 v.cells.toList = some x) : ∃ i : It, v = .agg (cI i).toArray ∧ wfI i := by
  obtain ⟨cs, rfl, -⟩ := okWide_struct Try.underlying31 hval
  obtain ⟨i, e, hw⟩ := item_of _ _ _ h
  refine ⟨i, ?_, hw⟩
  rw [← e]
  rfl
end
end Go.Proofs.Ytgglpkboijjoiaa.Rd
