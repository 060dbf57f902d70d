/-
  What the statements' arguments read as: schemas, rows, with the reach of all their parts. Conditions: each theorem's own.
-/
import Derived.Test.YtdjacjhojbkgjaaKY
import Derived.Test.YtdjacjhojbkgjaaVo
namespace Go.Proofs.Ytdjacjhojbkgjaa.Rd
open Go Go.K Go.Proofs Go.Proofs.Ytdjacjhojbkgjaa Go.Proofs.Ytdjacjhojbkgjaa.Rw Go.Proofs.Ytdjacjhojbkgjaa.Ct
open Go.ChangeShapes Go.WideShapes Go.ChangeAt Go.RowKit
set_option linter.unusedVariables false
set_option linter.unusedSimpArgs false
set_option maxRecDepth 10000

section
variable {H : Type} {enc : TypeId × Value → H} {P : Program} {W : World} {base : Nat} {spare : Nat → Bool} {held : Bool}
theorem bounds_u32 {n : Int} (h : (Lit.int .u32 n).wf = true) : 0 ≤ n ∧ n ≤ 4294967295 := by
  simpa [Lit.wf, IntKind.min, IntKind.max, IntKind.signed, IntKind.bits] using h
theorem slice_form {t e : TypeId} {fuel : Nat} {v : Value} {x : DataW H × List MemPlace} (ht : P.underlying t = some (.slice e)) (h : DataW.trod enc P W base spare held fuel t [v] = some x) : ∃ a l c, v = .slice a l c := by
  rcases DataW.trod_slice ht h with ⟨hcs, _⟩ | ⟨a, len, cap, elems, rest, n, hfu, hcs, _⟩
  · simp at hcs; exact ⟨_, _, _, hcs⟩
  · simp at hcs; exact ⟨_, _, _, hcs⟩
theorem col_of (cs : List Value) (n : Nat) (y : DataW H × List MemPlace) (h : DataW.trod enc Try.prog W base spare held n 36 cs = some y) : ∃ i : Col, cs = cC i ∧ wfC i := by
  obtain ⟨xs, k, rfl, rfl, hl, hlen, hf⟩ := DataW.trod_struct Try.underlying36 h
  have hl4 : cs.length = 3 := hl.trans (by kernel_rfl)
  have c3 : Try.prog.cellsOf 3 = 1 := by kernel_rfl
  have c4 : Try.prog.cellsOf 4 = 1 := by kernel_rfl
  have c9 : Try.prog.cellsOf 9 = 1 := by kernel_rfl
  match cs, hl4, xs, hlen with
  | [v0, v1, v2], _, [x0, x1, x2], _ =>
    have f0 := hf 0 _ rfl
    have f1 := hf 1 _ rfl
    have f2 := hf 2 _ rfl
    simp [c3, c4, c9] at f0 f1 f2
    obtain ⟨s0, e0, _, w0⟩ := DataW.trod_string Try.underlying9 f0
    obtain ⟨n1, e1, _, w1⟩ := DataW.trod_int Try.underlying3 f1
    obtain ⟨b2, e2, _⟩ := DataW.trod_bool Try.underlying4 f2
    simp at e0 e1 e2
    subst e0 e1 e2
    have b1 := bounds_i64 w1
    exact ⟨⟨s0, n1, b2⟩, rfl, ⟨b1.1, b1.2, w0⟩⟩
theorem val_of (cs : List Value) (n : Nat) (y : DataW H × List MemPlace) (h : DataW.trod enc Try.prog W base spare held n 89 cs = some y) : ∃ i : Val, cs = cV i ∧ wfV i := by
  obtain ⟨xs, k, rfl, rfl, hl, hlen, hf⟩ := DataW.trod_struct Try.underlying89 h
  have hl4 : cs.length = 3 := hl.trans (by kernel_rfl)
  have c3 : Try.prog.cellsOf 3 = 1 := by kernel_rfl
  have c4 : Try.prog.cellsOf 2 = 1 := by kernel_rfl
  have c9 : Try.prog.cellsOf 9 = 1 := by kernel_rfl
  match cs, hl4, xs, hlen with
  | [v0, v1, v2], _, [x0, x1, x2], _ =>
    have f0 := hf 0 _ rfl
    have f1 := hf 1 _ rfl
    have f2 := hf 2 _ rfl
    simp [c3, c4, c9] at f0 f1 f2
    obtain ⟨n0, e0, _, w0⟩ := DataW.trod_int Try.underlying3 f0
    obtain ⟨n1, e1, _, w1⟩ := DataW.trod_int Try.underlying2 f1
    obtain ⟨s2, e2, _, w2⟩ := DataW.trod_string Try.underlying9 f2
    simp at e0 e1 e2
    subst e0 e1 e2
    have b0 := bounds_i64 w0
    have b1 := bounds_i64 w1
    exact ⟨⟨n0, n1, s2⟩, rfl, ⟨b0.1, b0.2, b1.1, b1.2, w2⟩⟩
theorem num_of (cs : List Value) (n : Nat) (y : DataW H × List MemPlace) (h : DataW.trod enc Try.prog W base spare held n 3 cs = some y) : ∃ i : Int, cs = [iV i] ∧ (-9223372036854775808 ≤ i ∧ i ≤ 9223372036854775807) := by
  obtain ⟨n0, e0, _, w0⟩ := DataW.trod_int Try.underlying3 h
  exact ⟨n0, e0, bounds_i64 w0⟩
theorem of_each {α β : Type} {f : α → β} {R : β → Prop} : ∀ {es : List β}, (∀ e ∈ es, ∃ x, e = f x ∧ R (f x)) → ∃ l : List α, es = l.map f := fun {es} => by
  induction es with
  | nil => exact fun _ => ⟨[], rfl⟩
  | cons e es ih =>
    intro h
    obtain ⟨x, hx, _⟩ := h e (List.mem_cons_self ..)
    obtain ⟨l, hl⟩ := ih fun a ha => h a (List.mem_cons_of_mem _ ha)
    exact ⟨x :: l, by rw [hx, hl]; rfl⟩
/-- A slice of plain elements, and how long it may be. -/
theorem colsU {fuel : Nat} {x : DataW H × List MemPlace} {v : Value} (h : DataW.trod enc Try.prog W base spare held fuel 33 [v] = some x) (hR : Upto Try.prog 33 x.1) : ∃ l : List Col, SL (Base.of W) 3 v (l.map cC) ∧ (∀ i ∈ l, wfC i) ∧ l.length ≤ 4398046511104 := by
  obtain ⟨a, n, c, rfl⟩ := slice_form Try.underlying33 h
  obtain ⟨l, h1, h2, _⟩ := sl_of (sz := 3) (f := cC) (wf := wfC) (v := .slice a n c) Try.underlying33 (by kernel_rfl) (by decide) col_of (fun _ => rfl) h ⟨_, _, _, rfl⟩
  obtain ⟨es, m, _, hsl, _, _, hn⟩ := slu_of (sz := 3) (v := .slice a n c) Try.underlying33 (by kernel_rfl) (by decide) h ⟨_, _, _, rfl⟩ hR
  obtain ⟨_, _, e⟩ := hsl.len
  obtain ⟨_, _, e2⟩ := h1.len
  rw [List.length_map] at e2
  injection e with _ e3 _
  injection e2 with _ e4 _
  rw [show Try.prog.bytesOf 36 = 32 from by kernel_rfl] at hn
  unfold reachBytes at hn
  exact ⟨l, h1, h2, by omega⟩
theorem valsU {fuel : Nat} {x : DataW H × List MemPlace} {v : Value} (h : DataW.trod enc Try.prog W base spare held fuel 65 [v] = some x) (hR : Upto Try.prog 65 x.1) : ∃ l : List Val, SL (Base.of W) 3 v (l.map cV) ∧ (∀ i ∈ l, wfV i) ∧ l.length ≤ 4398046511104 := by
  obtain ⟨a, n, c, rfl⟩ := slice_form Try.underlying65 h
  obtain ⟨l, h1, h2, _⟩ := sl_of (sz := 3) (f := cV) (wf := wfV) (v := .slice a n c) Try.underlying65 (by kernel_rfl) (by decide) val_of (fun _ => rfl) h ⟨_, _, _, rfl⟩
  obtain ⟨es, m, _, hsl, _, _, hn⟩ := slu_of (sz := 3) (v := .slice a n c) Try.underlying65 (by kernel_rfl) (by decide) h ⟨_, _, _, rfl⟩ hR
  obtain ⟨_, _, e⟩ := hsl.len
  obtain ⟨_, _, e2⟩ := h1.len
  rw [List.length_map] at e2
  injection e with _ e3 _
  injection e2 with _ e4 _
  rw [show Try.prog.bytesOf 89 = 32 from by kernel_rfl] at hn
  unfold reachBytes at hn
  exact ⟨l, h1, h2, by omega⟩
theorem numsU {fuel : Nat} {x : DataW H × List MemPlace} {v : Value} (h : DataW.trod enc Try.prog W base spare held fuel 51 [v] = some x) (hR : Upto Try.prog 51 x.1) : ∃ l : List Int, SL (Base.of W) 1 v (l.map (fun i => [iV i])) ∧ (∀ i ∈ l, (fun i => -9223372036854775808 ≤ i ∧ i ≤ 9223372036854775807) i) ∧ l.length ≤ 17592186044416 := by
  obtain ⟨a, n, c, rfl⟩ := slice_form Try.underlying51 h
  obtain ⟨l, h1, h2, _⟩ := sl_of (sz := 1) (f := (fun i => [iV i])) (wf := (fun i => -9223372036854775808 ≤ i ∧ i ≤ 9223372036854775807)) (v := .slice a n c) Try.underlying51 (by kernel_rfl) (by decide) num_of (fun _ => rfl) h ⟨_, _, _, rfl⟩
  obtain ⟨es, m, _, hsl, _, _, hn⟩ := slu_of (sz := 1) (v := .slice a n c) Try.underlying51 (by kernel_rfl) (by decide) h ⟨_, _, _, rfl⟩ hR
  obtain ⟨_, _, e⟩ := hsl.len
  obtain ⟨_, _, e2⟩ := h1.len
  rw [List.length_map] at e2
  injection e with _ e3 _
  injection e2 with _ e4 _
  rw [show Try.prog.bytesOf 3 = 8 from by kernel_rfl] at hn
  unfold reachBytes at hn
  exact ⟨l, h1, h2, by omega⟩
theorem tab_upto (cs : List Value) (n : Nat) (y : DataW H × List MemPlace) (h : DataW.trod enc Try.prog W base spare held n 46 cs = some y) (hR : Upto Try.prog 46 y.1) : ∃ t : PTab, TabC (Base.of W) t cs ∧ wfTb t := by
  obtain ⟨xs, k, rfl, rfl, hl, hlen, hf⟩ := DataW.trod_struct Try.underlying46 h
  have hl4 : cs.length = 4 := hl.trans (by kernel_rfl)
  have c0 : Try.prog.cellsOf 44 = 1 := by kernel_rfl
  have c1 : Try.prog.cellsOf 9 = 1 := by kernel_rfl
  have c2 : Try.prog.cellsOf 33 = 1 := by kernel_rfl
  match cs, hl4, xs, hlen with
  | [v0, v1, v2, v3], _, [x0, x1, x2, x3], _ =>
    have f0 := hf 0 _ rfl
    have f1 := hf 1 _ rfl
    have f2 := hf 2 _ rfl
    have f3 := hf 3 _ rfl
    simp [c0, c1, c2] at f0 f1 f2 f3
    obtain ⟨l, h1, h2, h3⟩ := colsU f2 (upto_field (i := 2) (d := x2.1) Try.underlying46 hR rfl rfl)
    obtain ⟨n0, e0, _, w0⟩ := DataW.trod_int Try.underlying44 f0
    obtain ⟨s1, e1, _, w1⟩ := DataW.trod_string Try.underlying9 f1
    obtain ⟨n3, e3, _, w3⟩ := DataW.trod_int Try.underlying44 f3
    simp at e0 e1 e3
    subst e0 e1 e3
    have b0 := bounds_u32 w0
    have b3 := bounds_u32 w3
    exact ⟨⟨n0.toNat, s1, l, n3.toNat⟩, ⟨v2, by simp only [cTab]; rw [Int.toNat_of_nonneg b0.1, Int.toNat_of_nonneg b3.1], h1⟩, by show n0.toNat < _; omega, w1, h2, h3, by show n3.toNat < _; omega⟩
theorem idx_upto (cs : List Value) (n : Nat) (y : DataW H × List MemPlace) (h : DataW.trod enc Try.prog W base spare held n 53 cs = some y) (hR : Upto Try.prog 53 y.1) : ∃ t : PIdx, IdxC (Base.of W) t cs ∧ wfIx t := by
  obtain ⟨xs, k, rfl, rfl, hl, hlen, hf⟩ := DataW.trod_struct Try.underlying53 h
  have hl4 : cs.length = 6 := hl.trans (by kernel_rfl)
  have c0 : Try.prog.cellsOf 44 = 1 := by kernel_rfl
  have c1 : Try.prog.cellsOf 9 = 1 := by kernel_rfl
  have c2 : Try.prog.cellsOf 51 = 1 := by kernel_rfl
  have c3 : Try.prog.cellsOf 4 = 1 := by kernel_rfl
  match cs, hl4, xs, hlen with
  | [v0, v1, v2, v3, v4, v5], _, [x0, x1, x2, x3, x4, x5], _ =>
    have f0 := hf 0 _ rfl
    have f1 := hf 1 _ rfl
    have f2 := hf 2 _ rfl
    have f3 := hf 3 _ rfl
    have f4 := hf 4 _ rfl
    have f5 := hf 5 _ rfl
    clear hf h
    simp [c0, c1, c2, c3] at f0 f1 f2 f3 f4 f5
    obtain ⟨l, h1, h2, h3⟩ := numsU f3 (upto_field (i := 3) (d := x3.1) Try.underlying53 hR rfl rfl)
    obtain ⟨n0, e0, _, w0⟩ := DataW.trod_int Try.underlying44 f0
    obtain ⟨n1, e1, _, w1⟩ := DataW.trod_int Try.underlying44 f1
    obtain ⟨s2, e2, _, w2⟩ := DataW.trod_string Try.underlying9 f2
    obtain ⟨b4, e4, _⟩ := DataW.trod_bool Try.underlying4 f4
    obtain ⟨n5, e5, _, w5⟩ := DataW.trod_int Try.underlying44 f5
    simp at e0 e1 e2 e4 e5
    subst e0 e1 e2 e4 e5
    have b0 := bounds_u32 w0
    have b1 := bounds_u32 w1
    have b5 := bounds_u32 w5
    exact ⟨⟨n0.toNat, n1.toNat, s2, l, b4, n5.toNat⟩, ⟨v3, by simp only [cIdx]; rw [Int.toNat_of_nonneg b0.1, Int.toNat_of_nonneg b1.1, Int.toNat_of_nonneg b5.1], h1⟩, by show n0.toNat < _; omega, by show n1.toNat < _; omega, w2, h2, h3, by show n5.toNat < _; omega⟩
/-- A slice of what holds slices, element by element. -/
theorem each_upto {α : Type} {R : α → List Value → Prop} {wf : α → Prop} {t e : TypeId} {sz : Nat} {fuel : Nat} {v : Value} {x : DataW H × List MemPlace} (ht : Try.prog.underlying t = some (.slice e)) (hsz : Try.prog.cellsOf e = sz) (hpos : 0 < sz)
    (hof : ∀ cs n (y : DataW H × List MemPlace), DataW.trod enc Try.prog W base spare held n e cs = some y → Upto Try.prog e y.1 → ∃ o : α, R o cs ∧ wf o)
    (h : DataW.trod enc Try.prog W base spare held fuel t [v] = some x) (hR : Upto Try.prog t x.1) : ∃ (es : List (List Value)) (l : List α), SL (Base.of W) sz v es ∧ Each R es l ∧ (∀ o ∈ l, wf o) ∧ l.length * Try.prog.bytesOf e ≤ reachBytes := by
  obtain ⟨a, n, c, rfl⟩ := slice_form ht h
  obtain ⟨es, m, hm, hsl, hel, hlen, hby⟩ := slu_of (sz := sz) (v := .slice a n c) ht hsz hpos h ⟨_, _, _, rfl⟩ hR
  obtain ⟨l, hl1, hl2⟩ := list_of (p := fun i (o : α) => ∀ c, es[i]? = some c → R o c ∧ wf o) es.length fun i hi => by
    obtain ⟨y, hy, hy2⟩ := hel _ (List.getElem_mem hi)
    obtain ⟨o, ho⟩ := hof _ _ _ hy hy2
    exact ⟨o, fun c hc => by rw [List.getElem?_eq_getElem hi] at hc; cases hc; exact ho⟩
  refine ⟨es, l, hsl, ⟨hl1.symm, fun j c o hj ho => ?_⟩, fun o ho => ?_, by rw [hl1]; exact hby⟩
  · obtain ⟨hlt, e⟩ := List.getElem?_eq_some_iff.1 ho
    rw [← e]; exact (hl2 j hlt c hj).1
  · obtain ⟨j, hj, rfl⟩ := List.mem_iff_getElem.1 ho
    exact (hl2 j hj _ (List.getElem?_eq_getElem (by omega))).2
theorem sch_upto (cs : List Value) (n : Nat) (y : DataW H × List MemPlace) (h : DataW.trod enc Try.prog W base spare held n 25 cs = some y) (hR : Upto Try.prog 25 y.1) : ∃ s : PSch, SchC (Base.of W) s cs ∧ wfS s := by
  obtain ⟨xs, k, rfl, rfl, hl, hlen, hf⟩ := DataW.trod_struct Try.underlying25 h
  have hl4 : cs.length = 2 := hl.trans (by kernel_rfl)
  have c0 : Try.prog.cellsOf 22 = 1 := by kernel_rfl
  have c1 : Try.prog.cellsOf 23 = 1 := by kernel_rfl
  match cs, hl4, xs, hlen with
  | [v0, v1], _, [x0, x1], _ =>
    have f0 := hf 0 _ rfl
    have f1 := hf 1 _ rfl
    simp [c0, c1] at f0 f1
    obtain ⟨es0, l0, h01, h02, h03, h04⟩ := each_upto (sz := 4) Try.underlying22 (by kernel_rfl) (by decide) (fun cs n y a b => tab_upto cs n y a b) f0 (upto_field (i := 0) (d := x0.1) Try.underlying25 hR rfl rfl)
    obtain ⟨es1, l1, h11, h12, h13, h14⟩ := each_upto (sz := 6) Try.underlying23 (by kernel_rfl) (by decide) (fun cs n y a b => idx_upto cs n y a b) f1 (upto_field (i := 1) (d := x1.1) Try.underlying25 hR rfl rfl)
    rw [show Try.prog.bytesOf 46 = 56 from by kernel_rfl] at h04
    rw [show Try.prog.bytesOf 53 = 56 from by kernel_rfl] at h14
    unfold reachBytes at h04 h14
    exact ⟨⟨l0, l1⟩, ⟨v0, v1, es0, es1, rfl, h01, h02, h11, h12⟩, h03, h13, by show l0.length ≤ _; omega, by show l1.length ≤ _; omega⟩
theorem sch_val {fuel : Nat} {x : DataW H × List MemPlace} {v : Value} {w : World} {r : Reach} {b0 : Nat} (hval : Value.okWide Try.prog w r b0 25 v)
    (h : DataW.trod enc Try.prog W base spare held fuel 25 v.cells.toList = some x) (hR : Upto Try.prog 25 x.1) : ∃ cs s, v = .agg (cs : List Value).toArray ∧ SchC (Base.of W) s cs ∧ wfS s := by
  obtain ⟨cs, rfl, -⟩ := okWide_struct Try.underlying25 hval
  obtain ⟨s, hs⟩ := sch_upto _ _ _ h hR
  exact ⟨_, s, rfl, hs⟩
theorem row_upto (cs : List Value) (n : Nat) (y : DataW H × List MemPlace) (h : DataW.trod enc Try.prog W base spare held n 65 cs = some y) (hR : Upto Try.prog 65 y.1) : ∃ r : List Val, RowC (Base.of W) r cs ∧ ((∀ x ∈ r, wfV x) ∧ r.length ≤ 4398046511104) := by
  obtain ⟨v, rfl⟩ : ∃ v, cs = [v] := by
    rcases DataW.trod_slice Try.underlying65 h with ⟨hcs, _⟩ | ⟨a, len, cap, elems, rest, n, hfu, hcs, _⟩
    · exact ⟨_, hcs⟩
    · exact ⟨_, hcs⟩
  obtain ⟨l, h1, h2, h3⟩ := valsU h hR
  exact ⟨l, ⟨v, rfl, h1⟩, h2, h3⟩
theorem rows_val {fuel : Nat} {x : DataW H × List MemPlace} {v : Value} {w : World} {r : Reach} {b0 : Nat} (hval : Value.okWide Try.prog w r b0 28 v)
    (h : DataW.trod enc Try.prog W base spare held fuel 28 v.cells.toList = some x) (hR : Upto Try.prog 28 x.1) : ∃ l : List (List Val), RowsV (Base.of W) l v ∧ (∀ r ∈ l, ∀ x ∈ r, wfV x) ∧ (∀ r ∈ l, r.length ≤ 4398046511104) ∧ l.length ≤ 9223372036854775807 := by
  obtain ⟨a3, l3, q3, rfl⟩ := okWide_slice Try.underlying28 hval
  obtain ⟨es, l, h1, h2, h3, h4⟩ := each_upto (sz := 1) Try.underlying28 (by kernel_rfl) (by decide) (fun cs n y a b => row_upto cs n y a b) h hR
  rw [show Try.prog.bytesOf 65 = 24 from by kernel_rfl] at h4
  unfold reachBytes at h4
  exact ⟨l, ⟨es, h1, h2⟩, fun r hr => (h3 r hr).1, fun r hr => (h3 r hr).2, by omega⟩
end
end Go.Proofs.Ytdjacjhojbkgjaa.Rd
