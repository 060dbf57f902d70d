/-
  What the statements' arguments read as: schemas, rows, with the reach of all their parts. Conditions: each theorem's own.
-/
import Derived.Test.YtdjacjhojbkgjaaGreatQ1
import Derived.Test.YtdjacjhojbkgjaaGreatQ25
namespace Go.Proofs.YtdjacjhojbkgjaaGreat.Rd
open Go Go.K Go.Proofs Go.Proofs.YtdjacjhojbkgjaaGreat Go.Proofs.YtdjacjhojbkgjaaGreat.Rw Go.Proofs.YtdjacjhojbkgjaaGreat.Ct
open Go.ChangeShapes Go.WideShapes Go.ChangeAt Go.RowKit
set_option linter.unusedVariables false
set_option linter.unusedSimpArgs false
set_option maxRecDepth 10000

section
variable {H : Type} {enc : TypeId × Value → H} {P : Program} {W : World} {base : Nat} {spare : Nat → Bool} {held : Bool}
theorem bounds_u32 {n : Int} (h : (Lit.int .u32 n).wf = true) : 0 ≤ n ∧ n ≤ 4294967295 := by
  simpa [Lit.wf, IntKind.min, IntKind.max, IntKind.signed, IntKind.bits] using h
theorem slice_form {t e : TypeId} {fuel : Nat} {v : Value} {x : DataW H × List MemPlace} (ht : P.underlying t = some (.slice e)) (h : DataW.trod enc P W base spare held fuel t [v] = some x) : ∃ a l c, v = .slice a l c := by
  rcases DataW.trod_slice ht h with ⟨hcs, _⟩ | ⟨a, len, cap, elems, rest, n, hfu, hcs, _⟩
  · simp at hcs; exact ⟨_, _, _, hcs⟩
  · simp at hcs; exact ⟨_, _, _, hcs⟩
theorem col_of (cs : List Value) (n : Nat) (y : DataW H × List MemPlace) (h : DataW.trod enc Tryz.prog W base spare held n 39 cs = some y) : ∃ i : Col, cs = cC i ∧ wfC i := by
  obtain ⟨xs, k, rfl, rfl, hl, hlen, hf⟩ := DataW.trod_struct Tryz.underlying39 h
  have hl4 : cs.length = 3 := hl.trans (by kernel_rfl)
  have c3 : Tryz.prog.cellsOf 3 = 1 := by kernel_rfl
  have c4 : Tryz.prog.cellsOf 4 = 1 := by kernel_rfl
  have c9 : Tryz.prog.cellsOf 9 = 1 := by kernel_rfl
  match cs, hl4, xs, hlen with
  | [v0, v1, v2], _, [x0, x1, x2], _ =>
    have f0 := hf 0 _ rfl
    have f1 := hf 1 _ rfl
    have f2 := hf 2 _ rfl
    simp [c3, c4, c9] at f0 f1 f2
    obtain ⟨s0, e0, _, w0⟩ := DataW.trod_string Tryz.underlying9 f0
    obtain ⟨n1, e1, _, w1⟩ := DataW.trod_int Tryz.underlying3 f1
    obtain ⟨b2, e2, _⟩ := DataW.trod_bool Tryz.underlying4 f2
    simp at e0 e1 e2
    subst e0 e1 e2
    have b1 := bounds_i64 w1
    exact ⟨⟨s0, n1, b2⟩, rfl, ⟨b1.1, b1.2, w0⟩⟩
theorem num_of (cs : List Value) (n : Nat) (y : DataW H × List MemPlace) (h : DataW.trod enc Tryz.prog W base spare held n 3 cs = some y) : ∃ i : Int, cs = [iV i] ∧ (-9223372036854775808 ≤ i ∧ i ≤ 9223372036854775807) := by
  obtain ⟨n0, e0, _, w0⟩ := DataW.trod_int Tryz.underlying3 h
  exact ⟨n0, e0, bounds_i64 w0⟩
theorem colsU {fuel : Nat} {x : DataW H × List MemPlace} {v : Value} (h : DataW.trod enc Tryz.prog W base spare held fuel 26 [v] = some x) (hR : Upto Tryz.prog 26 x.1) : ∃ l : List Col, SL (Base.of W) 3 v (l.map cC) ∧ (∀ i ∈ l, wfC i) ∧ l.length ≤ 4398046511104 := by
  obtain ⟨a, n, c, rfl⟩ := slice_form Tryz.underlying26 h
  obtain ⟨l, h1, h2, _⟩ := sl_of (sz := 3) (f := cC) (wf := wfC) (v := .slice a n c) Tryz.underlying26 (by kernel_rfl) (by decide) col_of (fun _ => rfl) h ⟨_, _, _, rfl⟩
  obtain ⟨es, m, _, hsl, _, _, hn⟩ := slu_of (sz := 3) (v := .slice a n c) Tryz.underlying26 (by kernel_rfl) (by decide) h ⟨_, _, _, rfl⟩ hR
  obtain ⟨_, _, e⟩ := hsl.len
  obtain ⟨_, _, e2⟩ := h1.len
  rw [List.length_map] at e2
  injection e with _ e3 _
  injection e2 with _ e4 _
  rw [show Tryz.prog.bytesOf 39 = 32 from by kernel_rfl] at hn
  unfold reachBytes at hn
  exact ⟨l, h1, h2, by omega⟩
theorem numsU {fuel : Nat} {x : DataW H × List MemPlace} {v : Value} (h : DataW.trod enc Tryz.prog W base spare held fuel 27 [v] = some x) (hR : Upto Tryz.prog 27 x.1) : ∃ l : List Int, SL (Base.of W) 1 v (l.map (fun i => [iV i])) ∧ (∀ i ∈ l, (fun i => -9223372036854775808 ≤ i ∧ i ≤ 9223372036854775807) i) ∧ l.length ≤ 17592186044416 := by
  obtain ⟨a, n, c, rfl⟩ := slice_form Tryz.underlying27 h
  obtain ⟨l, h1, h2, _⟩ := sl_of (sz := 1) (f := (fun i => [iV i])) (wf := (fun i => -9223372036854775808 ≤ i ∧ i ≤ 9223372036854775807)) (v := .slice a n c) Tryz.underlying27 (by kernel_rfl) (by decide) num_of (fun _ => rfl) h ⟨_, _, _, rfl⟩
  obtain ⟨es, m, _, hsl, _, _, hn⟩ := slu_of (sz := 1) (v := .slice a n c) Tryz.underlying27 (by kernel_rfl) (by decide) h ⟨_, _, _, rfl⟩ hR
  obtain ⟨_, _, e⟩ := hsl.len
  obtain ⟨_, _, e2⟩ := h1.len
  rw [List.length_map] at e2
  injection e with _ e3 _
  injection e2 with _ e4 _
  rw [show Tryz.prog.bytesOf 3 = 8 from by kernel_rfl] at hn
  unfold reachBytes at hn
  exact ⟨l, h1, h2, by omega⟩
theorem tab_upto (cs : List Value) (n : Nat) (y : DataW H × List MemPlace) (h : DataW.trod enc Tryz.prog W base spare held n 37 cs = some y) (hR : Upto Tryz.prog 37 y.1) : ∃ t : PTab, TabC (Base.of W) t cs ∧ wfTb t := by
  obtain ⟨xs, k, rfl, rfl, hl, hlen, hf⟩ := DataW.trod_struct Tryz.underlying37 h
  have hl4 : cs.length = 4 := hl.trans (by kernel_rfl)
  have c0 : Tryz.prog.cellsOf 28 = 1 := by kernel_rfl
  have c1 : Tryz.prog.cellsOf 9 = 1 := by kernel_rfl
  have c2 : Tryz.prog.cellsOf 26 = 1 := by kernel_rfl
  match cs, hl4, xs, hlen with
  | [v0, v1, v2, v3], _, [x0, x1, x2, x3], _ =>
    have f0 := hf 0 _ rfl
    have f1 := hf 1 _ rfl
    have f2 := hf 2 _ rfl
    have f3 := hf 3 _ rfl
    simp [c0, c1, c2] at f0 f1 f2 f3
    obtain ⟨l, h1, h2, h3⟩ := colsU f2 (upto_field (i := 2) (d := x2.1) Tryz.underlying37 hR rfl rfl)
    obtain ⟨n0, e0, _, w0⟩ := DataW.trod_int Tryz.underlying28 f0
    obtain ⟨s1, e1, _, w1⟩ := DataW.trod_string Tryz.underlying9 f1
    obtain ⟨n3, e3, _, w3⟩ := DataW.trod_int Tryz.underlying28 f3
    simp at e0 e1 e3
    subst e0 e1 e3
    have b0 := bounds_u32 w0
    have b3 := bounds_u32 w3
    exact ⟨⟨n0.toNat, s1, l, n3.toNat⟩, ⟨v2, by simp only [cTab]; rw [Int.toNat_of_nonneg b0.1, Int.toNat_of_nonneg b3.1], h1⟩, by show n0.toNat < _; omega, w1, h2, h3, by show n3.toNat < _; omega⟩
theorem idx_upto (cs : List Value) (n : Nat) (y : DataW H × List MemPlace) (h : DataW.trod enc Tryz.prog W base spare held n 43 cs = some y) (hR : Upto Tryz.prog 43 y.1) : ∃ t : PIdx, IdxC (Base.of W) t cs ∧ wfIx t := by
  obtain ⟨xs, k, rfl, rfl, hl, hlen, hf⟩ := DataW.trod_struct Tryz.underlying43 h
  have hl4 : cs.length = 6 := hl.trans (by kernel_rfl)
  have c0 : Tryz.prog.cellsOf 28 = 1 := by kernel_rfl
  have c1 : Tryz.prog.cellsOf 9 = 1 := by kernel_rfl
  have c2 : Tryz.prog.cellsOf 27 = 1 := by kernel_rfl
  have c3 : Tryz.prog.cellsOf 4 = 1 := by kernel_rfl
  match cs, hl4, xs, hlen with
  | [v0, v1, v2, v3, v4, v5], _, [x0, x1, x2, x3, x4, x5], _ =>
    have f0 := hf 0 _ rfl
    have f1 := hf 1 _ rfl
    have f2 := hf 2 _ rfl
    have f3 := hf 3 _ rfl
    have f4 := hf 4 _ rfl
    have f5 := hf 5 _ rfl
    clear hf h
    simp [c0, c1, c2, c3] at f0 f1 f2 f3 f4 f5
    obtain ⟨l, h1, h2, h3⟩ := numsU f3 (upto_field (i := 3) (d := x3.1) Tryz.underlying43 hR rfl rfl)
    obtain ⟨n0, e0, _, w0⟩ := DataW.trod_int Tryz.underlying28 f0
    obtain ⟨n1, e1, _, w1⟩ := DataW.trod_int Tryz.underlying28 f1
    obtain ⟨s2, e2, _, w2⟩ := DataW.trod_string Tryz.underlying9 f2
    obtain ⟨b4, e4, _⟩ := DataW.trod_bool Tryz.underlying4 f4
    obtain ⟨n5, e5, _, w5⟩ := DataW.trod_int Tryz.underlying28 f5
    simp at e0 e1 e2 e4 e5
    subst e0 e1 e2 e4 e5
    have b0 := bounds_u32 w0
    have b1 := bounds_u32 w1
    have b5 := bounds_u32 w5
    exact ⟨⟨n0.toNat, n1.toNat, s2, l, b4, n5.toNat⟩, ⟨v3, by simp only [cIdx]; rw [Int.toNat_of_nonneg b0.1, Int.toNat_of_nonneg b1.1, Int.toNat_of_nonneg b5.1], h1⟩, by show n0.toNat < _; omega, by show n1.toNat < _; omega, w2, h2, h3, by show n5.toNat < _; omega⟩
theorem each_upto {α : Type} {R : α → List Value → Prop} {wf : α → Prop} {t e : TypeId} {sz : Nat} {fuel : Nat} {v : Value} {x : DataW H × List MemPlace} (ht : Tryz.prog.underlying t = some (.slice e)) (hsz : Tryz.prog.cellsOf e = sz) (hpos : 0 < sz)
    (hof : ∀ cs n (y : DataW H × List MemPlace), DataW.trod enc Tryz.prog W base spare held n e cs = some y → Upto Tryz.prog e y.1 → ∃ o : α, R o cs ∧ wf o)
    (h : DataW.trod enc Tryz.prog W base spare held fuel t [v] = some x) (hR : Upto Tryz.prog t x.1) : ∃ (es : List (List Value)) (l : List α), SL (Base.of W) sz v es ∧ Each R es l ∧ (∀ o ∈ l, wf o) ∧ l.length * Tryz.prog.bytesOf e ≤ reachBytes := by
  obtain ⟨a, n, c, rfl⟩ := slice_form ht h
  obtain ⟨es, m, hm, hsl, hel, hlen, hby⟩ := slu_of (sz := sz) (v := .slice a n c) ht hsz hpos h ⟨_, _, _, rfl⟩ hR
  obtain ⟨l, hl1, hl2⟩ := list_of (p := fun i (o : α) => ∀ c, es[i]? = some c → R o c ∧ wf o) es.length fun i hi => by
    obtain ⟨y, hy, hy2⟩ := hel _ (List.getElem_mem hi)
    obtain ⟨o, ho⟩ := hof _ _ _ hy hy2
    exact ⟨o, fun c hc => by rw [List.getElem?_eq_getElem hi] at hc; cases hc; exact ho⟩
  refine ⟨es, l, hsl, ⟨hl1.symm, fun j c o hj ho => ?_⟩, fun o ho => ?_, by rw [hl1]; exact hby⟩
  · obtain ⟨hlt, e⟩ := List.getElem?_eq_some_iff.1 ho
    rw [← e]; exact (hl2 j hlt c hj).1
  · obtain ⟨j, hj, rfl⟩ := List.mem_iff_getElem.1 ho
    exact (hl2 j hj _ (List.getElem?_eq_getElem (by omega))).2
theorem sch_upto (cs : List Value) (n : Nat) (y : DataW H × List MemPlace) (h : DataW.trod enc Tryz.prog W base spare held n 25 cs = some y) (hR : Upto Tryz.prog 25 y.1) : ∃ s : PSch, SchC (Base.of W) s cs ∧ wfS s := by
  obtain ⟨xs, k, rfl, rfl, hl, hlen, hf⟩ := DataW.trod_struct Tryz.underlying25 h
  have hl4 : cs.length = 2 := hl.trans (by kernel_rfl)
  have c0 : Tryz.prog.cellsOf 22 = 1 := by kernel_rfl
  have c1 : Tryz.prog.cellsOf 23 = 1 := by kernel_rfl
  match cs, hl4, xs, hlen with
  | [v0, v1], _, [x0, x1], _ =>
    have f0 := hf 0 _ rfl
    have f1 := hf 1 _ rfl
    simp [c0, c1] at f0 f1
    obtain ⟨es0, l0, h01, h02, h03, h04⟩ := each_upto (sz := 4) Tryz.underlying22 (by kernel_rfl) (by decide) (fun cs n y a b => tab_upto cs n y a b) f0 (upto_field (i := 0) (d := x0.1) Tryz.underlying25 hR rfl rfl)
    obtain ⟨es1, l1, h11, h12, h13, h14⟩ := each_upto (sz := 6) Tryz.underlying23 (by kernel_rfl) (by decide) (fun cs n y a b => idx_upto cs n y a b) f1 (upto_field (i := 1) (d := x1.1) Tryz.underlying25 hR rfl rfl)
    rw [show Tryz.prog.bytesOf 37 = 56 from by kernel_rfl] at h04
    rw [show Tryz.prog.bytesOf 43 = 56 from by kernel_rfl] at h14
    unfold reachBytes at h04 h14
    exact ⟨⟨l0, l1⟩, ⟨v0, v1, es0, es1, rfl, h01, h02, h11, h12⟩, h03, h13, by show l0.length ≤ _; omega, by show l1.length ≤ _; omega⟩
theorem sch_val {fuel : Nat} {x : DataW H × List MemPlace} {v : Value} {w : World} {r : Reach} {b0 : Nat} (hval : Value.okWide Tryz.prog w r b0 25 v)
    (h : DataW.trod enc Tryz.prog W base spare held fuel 25 v.cells.toList = some x) (hR : Upto Tryz.prog 25 x.1) : ∃ cs s, v = .agg (cs : List Value).toArray ∧ SchC (Base.of W) s cs ∧ wfS s := by
  obtain ⟨cs, rfl, -⟩ := okWide_struct Tryz.underlying25 hval
  obtain ⟨s, hs⟩ := sch_upto _ _ _ h hR
  exact ⟨_, s, rfl, hs⟩
end
end Go.Proofs.YtdjacjhojbkgjaaGreat.Rd
