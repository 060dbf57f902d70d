/-
  What the statements' arguments read as: changes, with the reach of all their parts. Conditions: each theorem's own.
-/
import Derived.Test.YtdjacjhojbkgjaaRu
import Derived.Test.YtdjacjhojbkgjaaWm
namespace Go.Proofs.Ytdjacjhojbkgjaa.Rd
open Go Go.K Go.Proofs Go.Proofs.Ytdjacjhojbkgjaa Go.Proofs.Ytdjacjhojbkgjaa.Rw Go.Proofs.Ytdjacjhojbkgjaa.Ct
open Go.ChangeShapes Go.WideShapes Go.ChangeAt Go.RowKit
set_option linter.unusedVariables false
set_option linter.unusedSimpArgs false
set_option maxRecDepth 10000

section
variable {H : Type} {enc : TypeId × Value → H} {P : Program} {W : World} {base : Nat} {spare : Nat → Bool} {held : Bool}
theorem chg_upto (cs : List Value) (n : Nat) (y : DataW H × List MemPlace) (h : DataW.trod enc Try.prog W base spare held n 64 cs = some y) (hR : Upto Try.prog 64 y.1) : ∃ t : PChg, ChgC (Base.of W) t cs ∧ wfG t := by
  obtain ⟨xs, k, rfl, rfl, hl, hlen, hf⟩ := DataW.trod_struct Try.underlying64 h
  have hl4 : cs.length = 7 := hl.trans (by kernel_rfl)
  have c0 : Try.prog.cellsOf 3 = 1 := by kernel_rfl
  have c1 : Try.prog.cellsOf 9 = 1 := by kernel_rfl
  have c2 : Try.prog.cellsOf 33 = 1 := by kernel_rfl
  have c3 : Try.prog.cellsOf 51 = 1 := by kernel_rfl
  have c4 : Try.prog.cellsOf 4 = 1 := by kernel_rfl
  have c5 : Try.prog.cellsOf 44 = 1 := by kernel_rfl
  match cs, hl4, xs, hlen with
  | [v0, v1, v2, v3, v4, v5, v6], _, [x0, x1, x2, x3, x4, x5, x6], _ =>
    have f0 := hf 0 _ rfl
    have f1 := hf 1 _ rfl
    have f2 := hf 2 _ rfl
    have f3 := hf 3 _ rfl
    have f4 := hf 4 _ rfl
    have f5 := hf 5 _ rfl
    have f6 := hf 6 _ rfl
    clear hf h
    simp [c0, c1, c2, c3, c4, c5] at f0 f1 f2 f3 f4 f5 f6
    obtain ⟨l3, h31, h32, h33⟩ := colsU f3 (upto_field (i := 3) (d := x3.1) Try.underlying64 hR rfl rfl)
    obtain ⟨l4, h41, h42, h43⟩ := numsU f4 (upto_field (i := 4) (d := x4.1) Try.underlying64 hR rfl rfl)
    obtain ⟨n0, e0, _, w0⟩ := DataW.trod_int Try.underlying3 f0
    obtain ⟨s1, e1, _, w1⟩ := DataW.trod_string Try.underlying9 f1
    obtain ⟨s2, e2, _, w2⟩ := DataW.trod_string Try.underlying9 f2
    obtain ⟨b5, e5, _⟩ := DataW.trod_bool Try.underlying4 f5
    obtain ⟨n6, e6, _, w6⟩ := DataW.trod_int Try.underlying44 f6
    simp at e0 e1 e2 e5 e6
    subst e0 e1 e2 e5 e6
    have b0 := bounds_i64 w0
    have b6 := bounds_u32 w6
    exact ⟨⟨n0, s1, s2, l3, l4, b5, n6.toNat⟩, ⟨v3, v4, by simp only [cChg]; rw [Int.toNat_of_nonneg b6.1], h31, h41⟩, ⟨b0.1, b0.2⟩, w1, w2, h32, h33, h42, h43, by show n6.toNat < _; omega⟩
theorem chgs_val {fuel : Nat} {x : DataW H × List MemPlace} {v : Value} {w : World} {r : Reach} {b0 : Nat} (hval : Value.okWide Try.prog w r b0 60 v)
    (h : DataW.trod enc Try.prog W base spare held fuel 60 v.cells.toList = some x) (hR : Upto Try.prog 60 x.1) : ∃ (es : List (List Value)) (l : List PChg), SL (Base.of W) 7 v es ∧ Each (ChgC (Base.of W)) es l ∧ (∀ c ∈ l, wfG c) ∧ l.length ≤ 9223372036854775807 := by
  obtain ⟨a3, l3, q3, rfl⟩ := okWide_slice Try.underlying60 hval
  obtain ⟨es, l, h1, h2, h3, h4⟩ := each_upto (sz := 7) Try.underlying60 (by kernel_rfl) (by decide) (fun cs n y a b => chg_upto cs n y a b) h hR
  rw [show Try.prog.bytesOf 64 = 96 from by kernel_rfl] at h4
  unfold reachBytes at h4
  exact ⟨es, l, h1, h2, h3, by omega⟩
end
end Go.Proofs.Ytdjacjhojbkgjaa.Rd
