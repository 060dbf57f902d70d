/-
  What the statements' arguments read as: records. Conditions: each theorem's own.
-/
import Derived.Test.YtihambjhlhgaeaaRp
import Derived.Test.YtihambjhlhgaeaaHa
namespace Go.Proofs.Ytihambjhlhgaeaa.Rd
open Go Go.K Go.Proofs Go.Proofs.Ytihambjhlhgaeaa Go.Proofs.Ytihambjhlhgaeaa.Pg Go.Proofs.Ytihambjhlhgaeaa.Rc
open Go.ChangeShapes Go.WideShapes Go.ChangeAt Go.RowKit
set_option linter.unusedVariables false
set_option linter.unusedSimpArgs false
set_option maxRecDepth 10000

section
variable {H : Type} {enc : TypeId × Value → H} {P : Program} {W : World} {base : Nat} {spare : Nat → Bool} {held : Bool}
theorem image_of (cs : List Value) (n : Nat) (y : DataW H × List MemPlace) (h : DataW.trod enc Try.prog W base spare held n 53 cs = some y) : ∃ x : PImg, ImgC (Base.of W) cs x := by
  obtain ⟨xs, k, rfl, rfl, hl, hlen, hf⟩ := DataW.trod_struct Try.underlying53 h
  have hl4 : cs.length = 5 := hl.trans (by kernel_rfl)
  have c0 : Try.prog.cellsOf 23 = 1 := by kernel_rfl
  have c1 : Try.prog.cellsOf 51 = 4 := by kernel_rfl
  match cs, hl4, xs, hlen with
  | [v0, v1, v2, v3, v4], _, [x0, x1], _ =>
    have f0 := hf 0 _ rfl
    have f1 := hf 1 _ rfl
    simp [c0, c1] at f0 f1
    obtain ⟨n0, e0, _, w0⟩ := DataW.trod_int Try.underlying23 f0
    obtain ⟨p, hp⟩ := page_of _ _ _ f1
    simp at e0
    subst e0
    have b0 := bounds_u32 w0
    exact ⟨⟨n0.toNat, p⟩, by show n0.toNat < 4294967296; omega, _, by rw [Int.toNat_of_nonneg b0.1], hp⟩
theorem live_of (cs : List Value) (n : Nat) (y : DataW H × List MemPlace) (h : DataW.trod enc Try.prog W base spare held n 70 cs = some y) : ∃ x : PLive, cs = Rc.cL x ∧ wfL x := by
  obtain ⟨xs, k, rfl, rfl, hl, hlen, hf⟩ := DataW.trod_struct Try.underlying70 h
  have hl4 : cs.length = 4 := hl.trans (by kernel_rfl)
  have c0 : Try.prog.cellsOf 23 = 1 := by kernel_rfl
  have c1 : Try.prog.cellsOf 22 = 1 := by kernel_rfl
  have c3 : Try.prog.cellsOf 4 = 1 := by kernel_rfl
  match cs, hl4, xs, hlen with
  | [v0, v1, v2, v3], _, [x0, x1, x2, x3], _ =>
    have f0 := hf 0 _ rfl
    have f1 := hf 1 _ rfl
    have f2 := hf 2 _ rfl
    have f3 := hf 3 _ rfl
    simp [c0, c1, c3] at f0 f1 f2 f3
    obtain ⟨n0, e0, _, w0⟩ := DataW.trod_int Try.underlying23 f0
    obtain ⟨n1, e1, _, w1⟩ := DataW.trod_int Try.underlying22 f1
    obtain ⟨n2, e2, _, w2⟩ := DataW.trod_int Try.underlying22 f2
    obtain ⟨b3, e3, _⟩ := DataW.trod_bool Try.underlying4 f3
    simp at e0 e1 e2 e3
    subst e0 e1 e2 e3
    have b0 := bounds_u32 w0
    have b1 := bounds_u64 w1
    have b2 := bounds_u64 w2
    exact ⟨⟨n0.toNat, n1.toNat, n2.toNat, b3⟩, by simp only [Rc.cL]; rw [Int.toNat_of_nonneg b0.1, Int.toNat_of_nonneg b1.1, Int.toNat_of_nonneg b2.1], by show n0.toNat < 4294967296; omega, by show n1.toNat < 18446744073709551616; omega, by show n2.toNat < 18446744073709551616; omega⟩
theorem dirty_of (cs : List Value) (n : Nat) (y : DataW H × List MemPlace) (h : DataW.trod enc Try.prog W base spare held n 74 cs = some y) : ∃ x : PDirty, cs = Rc.cD x ∧ wfD x := by
  obtain ⟨xs, k, rfl, rfl, hl, hlen, hf⟩ := DataW.trod_struct Try.underlying74 h
  have hl4 : cs.length = 2 := hl.trans (by kernel_rfl)
  have c0 : Try.prog.cellsOf 23 = 1 := by kernel_rfl
  have c1 : Try.prog.cellsOf 22 = 1 := by kernel_rfl
  match cs, hl4, xs, hlen with
  | [v0, v1], _, [x0, x1], _ =>
    have f0 := hf 0 _ rfl
    have f1 := hf 1 _ rfl
    simp [c0, c1] at f0 f1
    obtain ⟨n0, e0, _, w0⟩ := DataW.trod_int Try.underlying23 f0
    obtain ⟨n1, e1, _, w1⟩ := DataW.trod_int Try.underlying22 f1
    simp at e0 e1
    subst e0 e1
    have b0 := bounds_u32 w0
    have b1 := bounds_u64 w1
    exact ⟨⟨n0.toNat, n1.toNat⟩, by simp only [Rc.cD]; rw [Int.toNat_of_nonneg b0.1, Int.toNat_of_nonneg b1.1], by show n0.toNat < 4294967296; omega, by show n1.toNat < 18446744073709551616; omega⟩
theorem record_of (cs : List Value) (n : Nat) (y : DataW H × List MemPlace) (h : DataW.trod enc Try.prog W base spare held n 31 cs = some y) : ∃ r : Recd, RecC (Base.of W) cs r := by
  obtain ⟨xs, k, rfl, rfl, hl, hlen, hf⟩ := DataW.trod_struct Try.underlying31 h
  have hl4 : cs.length = 15 := hl.trans (by kernel_rfl)
  have c0 : Try.prog.cellsOf 3 = 1 := by kernel_rfl
  have c1 : Try.prog.cellsOf 22 = 1 := by kernel_rfl
  have c2 : Try.prog.cellsOf 23 = 1 := by kernel_rfl
  have c7 : Try.prog.cellsOf 26 = 4 := by kernel_rfl
  have c8 : Try.prog.cellsOf 27 = 1 := by kernel_rfl
  have c9 : Try.prog.cellsOf 28 = 1 := by kernel_rfl
  have c10 : Try.prog.cellsOf 29 = 1 := by kernel_rfl
  match cs, hl4, xs, hlen with
  | [v0, v1, v2, v3, v4, v5, v6, v7, v8, v9, v10, v11, v12, v13, v14], _, [x0, x1, x2, x3, x4, x5, x6, x7, x8, x9, x10, x11], _ =>
    have f0 := hf 0 _ rfl
    have f1 := hf 1 _ rfl
    have f2 := hf 2 _ rfl
    have f3 := hf 3 _ rfl
    have f4 := hf 4 _ rfl
    have f5 := hf 5 _ rfl
    have f6 := hf 6 _ rfl
    have f7 := hf 7 _ rfl
    have f8 := hf 8 _ rfl
    have f9 := hf 9 _ rfl
    have f10 := hf 10 _ rfl
    have f11 := hf 11 _ rfl
    clear hf h
    simp [c0, c1, c2, c7, c8, c9, c10] at f0 f1 f2 f3 f4 f5 f6 f7 f8 f9 f10 f11
    obtain ⟨n0, e0, _, w0⟩ := DataW.trod_int Try.underlying3 f0
    obtain ⟨n1, e1, _, w1⟩ := DataW.trod_int Try.underlying22 f1
    obtain ⟨n2, e2, _, w2⟩ := DataW.trod_int Try.underlying23 f2
    obtain ⟨n3, e3, _, w3⟩ := DataW.trod_int Try.underlying22 f3
    obtain ⟨n4, e4, _, w4⟩ := DataW.trod_int Try.underlying22 f4
    obtain ⟨n5, e5, _, w5⟩ := DataW.trod_int Try.underlying23 f5
    obtain ⟨n6, e6, _, w6⟩ := DataW.trod_int Try.underlying23 f6
    obtain ⟨o, ho⟩ := op_of _ _ _ f7
    obtain ⟨a8, l8, q8, rfl⟩ := slice_form Try.underlying27 f8
    obtain ⟨es, m, hm, hsl, hel, hlen8⟩ := slf_of (sz := 5) (v := .slice a8 l8 q8) Try.underlying27 (by kernel_rfl) (by decide) f8 ⟨_, _, _, rfl⟩
    obtain ⟨il, hi1, hi2⟩ := list_of (p := fun i (x : PImg) => ∀ c, es[i]? = some c → ImgC (Base.of W) c x) es.length fun i hi => by
      obtain ⟨y, hy⟩ := hel _ (List.getElem_mem hi)
      obtain ⟨x, hx⟩ := image_of _ _ _ hy
      exact ⟨x, fun c hc => by rw [List.getElem?_eq_getElem hi] at hc; cases hc; exact hx⟩
    obtain ⟨a9, l9, q9, rfl⟩ := slice_form Try.underlying28 f9
    obtain ⟨ll, hl1, hl2, hl3⟩ := sl_of (f := Rc.cL) (wf := wfL) (sz := 4) (v := .slice a9 l9 q9) Try.underlying28 (by kernel_rfl) (by decide) (fun cs n y hy => live_of cs n y hy) (fun x => rfl) f9 ⟨_, _, _, rfl⟩
    obtain ⟨a10, l10, q10, rfl⟩ := slice_form Try.underlying29 f10
    obtain ⟨dl, hd1, hd2, hd3⟩ := sl_of (f := Rc.cD) (wf := wfD) (sz := 2) (v := .slice a10 l10 q10) Try.underlying29 (by kernel_rfl) (by decide) (fun cs n y hy => dirty_of cs n y hy) (fun x => rfl) f10 ⟨_, _, _, rfl⟩
    obtain ⟨n11, e11, _, w11⟩ := DataW.trod_int Try.underlying23 f11
    obtain ⟨wo, ao, ca, hoc, hob⟩ := ho
    simp at e0 e1 e2 e3 e4 e5 e6 e11
    subst e0 e1 e2 e3 e4 e5 e6 e11
    simp only [cO, List.cons.injEq, and_true] at hoc
    obtain ⟨rfl, rfl, rfl, rfl⟩ := hoc
    have b0 := bounds_i64 w0
    have b1 := bounds_u64 w1
    have b2 := bounds_u32 w2
    have b3 := bounds_u64 w3
    have b4 := bounds_u64 w4
    have b5 := bounds_u32 w5
    have b6 := bounds_u32 w6
    have b11 := bounds_u32 w11
    unfold maxLen at hlen8 hl3 hd3
    refine ⟨⟨n0, n1.toNat, n2.toNat, n3.toNat, n4.toNat, n5.toNat, n6.toNat, o, il, ll, dl, n11.toNat⟩, ?_, ao, ca, .slice a8 l8 q8, .slice a9 l9 q9, .slice a10 l10 q10, ?_, hob, ⟨es, hsl, hi1.symm, fun j c x hj hx => ?_⟩, hl1, hd1⟩
    · exact ⟨b0, by show n1.toNat < _; omega, by show n2.toNat < _; omega, by show n3.toNat < _; omega, by show n4.toNat < _; omega, by show n5.toNat < _; omega, by show n6.toNat < _; omega, wo, by show n11.toNat < _; omega, by show il.length ≤ _; omega, by show ll.length ≤ _; omega, by show dl.length ≤ _; omega, hl2, hd2⟩
    · simp only [cR]
      rw [Int.toNat_of_nonneg b1.1, Int.toNat_of_nonneg b2.1, Int.toNat_of_nonneg b3.1, Int.toNat_of_nonneg b4.1, Int.toNat_of_nonneg b5.1, Int.toNat_of_nonneg b6.1, Int.toNat_of_nonneg b11.1]
    · obtain ⟨hlt, e⟩ := List.getElem?_eq_some_iff.1 hx
      rw [← e]; exact hi2 j hlt c hj
theorem record_val {fuel : Nat} {x : DataW H × List MemPlace} {v : Value} {w : World} {r : Reach} {b0 : Nat} (hval : Value.okWide Try.prog w r b0 31 v)
    (h : DataW.trod enc Try.prog W base spare held fuel 31 v.cells.toList = some x) : ∃ cs e, v = .agg (cs : List Value).toArray ∧ RecC (Base.of W) cs e := by
  obtain ⟨cs, rfl, -⟩ := okWide_struct Try.underlying31 hval
  obtain ⟨e, hw⟩ := record_of _ _ _ h
  exact ⟨_, e, rfl, hw⟩
end
section
variable {H : Type} {enc : TypeId × Value → H} {P : Program} {W : World} {base : Nat} {spare : Nat → Bool} {held : Bool}
theorem records_val {fuel : Nat} {x : DataW H × List MemPlace} {v : Value} {w : World} {r : Reach} {b0 : Nat} (hval : Value.okWide Try.prog w r b0 47 v)
    (h : DataW.trod enc Try.prog W base spare held fuel 47 v.cells.toList = some x) : ∃ (es : List (List Value)) (l : List Recd), SL (Base.of W) 15 v es ∧ es.length = l.length ∧ l.length ≤ 9223372036854775807 ∧ ∀ (j : Nat) c o, es[j]? = some c → l[j]? = some o → RecC (Base.of W) c o := by
  obtain ⟨a3, l3, q3, rfl⟩ := okWide_slice Try.underlying47 hval
  obtain ⟨es, m, hm, hsl, hel, hlen⟩ := slf_of (sz := 15) (v := .slice a3 l3 q3) Try.underlying47 (by kernel_rfl) (by decide) h ⟨_, _, _, rfl⟩
  obtain ⟨l, hl1, hl2⟩ := list_of (p := fun i (x : Recd) => ∀ c, es[i]? = some c → RecC (Base.of W) c x) es.length fun i hi => by
    obtain ⟨y, hy⟩ := hel _ (List.getElem_mem hi)
    obtain ⟨x, hx⟩ := record_of _ _ _ hy
    exact ⟨x, fun c hc => by rw [List.getElem?_eq_getElem hi] at hc; cases hc; exact hx⟩
  refine ⟨es, l, hsl, hl1.symm, by unfold maxLen at hlen; omega, fun j c x hj hx => ?_⟩
  obtain ⟨hlt, e⟩ := List.getElem?_eq_some_iff.1 hx
  rw [← e]; exact hl2 j hlt c hj
end
end Go.Proofs.Ytihambjhlhgaeaa.Rd
