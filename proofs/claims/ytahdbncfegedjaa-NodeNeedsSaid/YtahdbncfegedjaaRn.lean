/-
  What the statements' arguments of chapter 08 read as. Conditions: each theorem's own.
-/
import Derived.Test.YtahdbncfegedjaaKY
import Derived.Test.YtahdbncfegedjaaKX
import Derived.Test.YtahdbncfegedjaaXd
import Derived.SizedLaws
/-! What the statements' arguments read as: pages, operations. Conditions: each theorem's own. -/
namespace Go.Proofs.Ytahdbncfegedjaa.Rd
open Go Go.K Go.Proofs Go.Proofs.Ytahdbncfegedjaa Go.Proofs.Ytahdbncfegedjaa.Pg Go.Proofs.Ytahdbncfegedjaa.Nd
open Go.ChangeShapes Go.WideShapes Go.ChangeAt Go.RowKit
set_option linter.unusedVariables false
set_option linter.unusedSimpArgs false
set_option maxRecDepth 10000

section
variable {H : Type} {enc : TypeId × Value → H} {P : Program} {W : World} {base : Nat} {spare : Nat → Bool} {held : Bool}
/-- How long a slice may be that came in. -/
theorem len_reach {ts : List TypeId} {ds : List (DataW H)} {j fuel : Nat} {t e : TypeId} {d : DataW H} {p : List MemPlace} {a : Option Addr} {l c : Nat} (hsz : (DataW.weightsEach P ts ds).all (· ≤ reachBytes) = true) (ht' : ts[j]? = some t) (hd : ds[j]? = some d)
    (ht : P.underlying t = some (.slice e)) (h : DataW.trod enc P W base spare held fuel t [.slice a l c] = some (d, p)) : l * P.bytesOf e ≤ reachBytes := by
  rcases Go.Deep.open_slice ht h with ⟨hcs, _⟩ | ⟨a', len, cap, m, n, D, Pl, hcs, _, _, _, _, hx, _⟩
  · simp at hcs
    obtain ⟨-, rfl, -⟩ := hcs
    simp
  · simp at hcs
    obtain ⟨-, rfl, -⟩ := hcs
    have e1 : d = .slice ((List.range l).map D) ((List.range (m - l)).map fun j => D (l + j)) := congrArg Prod.fst hx
    have := sized_slice hsz ht' (by rw [hd, e1]) ht
    simp only [List.length_map, List.length_range] at this
    exact Nat.le_trans (Nat.mul_le_mul_right _ (Nat.le_add_right ..)) this
theorem bounds_u8 {n : Int} (h : (Lit.int .u8 n).wf = true) : 0 ≤ n ∧ n ≤ 255 := by
  simpa [Lit.wf, IntKind.min, IntKind.max, IntKind.signed, IntKind.bits] using h
theorem bounds_u32 {n : Int} (h : (Lit.int .u32 n).wf = true) : 0 ≤ n ∧ n ≤ 4294967295 := by
  simpa [Lit.wf, IntKind.min, IntKind.max, IntKind.signed, IntKind.bits] using h
theorem bounds_u64 {n : Int} (h : (Lit.int .u64 n).wf = true) : 0 ≤ n ∧ n ≤ 18446744073709551615 := by
  simpa [Lit.wf, IntKind.min, IntKind.max, IntKind.signed, IntKind.bits] using h
theorem slice_form {t e : TypeId} {fuel : Nat} {v : Value} {x : DataW H × List MemPlace} (ht : P.underlying t = some (.slice e)) (h : DataW.trod enc P W base spare held fuel t [v] = some x) : ∃ a l c, v = .slice a l c := by
  rcases DataW.trod_slice ht h with ⟨hcs, _⟩ | ⟨a, len, cap, elems, rest, n, hfu, hcs, _⟩
  · simp at hcs; exact ⟨_, _, _, hcs⟩
  · simp at hcs; exact ⟨_, _, _, hcs⟩
theorem bytes_of {fuel : Nat} {v : Value} {x : DataW H × List MemPlace} (h : DataW.trod enc Try.prog W base spare held fuel 50 [v] = some x) : ∃ (l : List UInt8) (ao : Option Addr) (ca : Nat), v = .slice ao l.length ca ∧ BV (Base.of W) (.slice ao l.length ca) l ∧ l.length ≤ 9223372036854775807 := by
  obtain ⟨a, n, c, rfl⟩ := slice_form Try.underlying50 h
  obtain ⟨l, hl, hm⟩ := bv_of (v := .slice a n c) Try.underlying50 Try.underlying5 (by kernel_rfl) h ⟨_, _, _, rfl⟩
  obtain ⟨ao, ca, e⟩ := hl.len
  rw [e] at hl ⊢
  exact ⟨l, _, _, rfl, hl, by unfold maxLen at hm; omega⟩
theorem cell_of (cs : List Value) (n : Nat) (y : DataW H × List MemPlace) (h : DataW.trod enc Try.prog W base spare held n 52 cs = some y) : ∃ x : PCell, CellC (Base.of W) cs x := by
  obtain ⟨xs, k, rfl, rfl, hl, hlen, hf⟩ := DataW.trod_struct Try.underlying52 h
  have hl4 : cs.length = 3 := hl.trans (by kernel_rfl)
  have c0 : Try.prog.cellsOf 4 = 1 := by kernel_rfl
  have c1 : Try.prog.cellsOf 23 = 1 := by kernel_rfl
  have c2 : Try.prog.cellsOf 50 = 1 := by kernel_rfl
  match cs, hl4, xs, hlen with
  | [v0, v1, v2], _, [x0, x1, x2], _ =>
    have f0 := hf 0 _ rfl
    have f1 := hf 1 _ rfl
    have f2 := hf 2 _ rfl
    simp [c0, c1, c2] at f0 f1 f2
    obtain ⟨b0, e0, _⟩ := DataW.trod_bool Try.underlying4 f0
    obtain ⟨n1, e1, _, w1⟩ := DataW.trod_int Try.underlying23 f1
    obtain ⟨l2, ao, ca, rfl, hb, hm⟩ := bytes_of f2
    simp at e0 e1
    subst e0 e1
    have b1 := bounds_u32 w1
    exact ⟨⟨b0, n1.toNat, l2⟩, by show n1.toNat < 4294967296; omega, hm, _, _, by rw [Int.toNat_of_nonneg b1.1], hb⟩
theorem page_of (cs : List Value) (n : Nat) (y : DataW H × List MemPlace) (h : DataW.trod enc Try.prog W base spare held n 55 cs = some y) : ∃ p : Pag, PagC (Base.of W) cs p := by
  obtain ⟨xs, k, rfl, rfl, hl, hlen, hf⟩ := DataW.trod_struct Try.underlying55 h
  have hl4 : cs.length = 4 := hl.trans (by kernel_rfl)
  have c0 : Try.prog.cellsOf 3 = 1 := by kernel_rfl
  have c1 : Try.prog.cellsOf 53 = 1 := by kernel_rfl
  have c2 : Try.prog.cellsOf 23 = 1 := by kernel_rfl
  have c3 : Try.prog.cellsOf 46 = 1 := by kernel_rfl
  match cs, hl4, xs, hlen with
  | [v0, v1, v2, v3], _, [x0, x1, x2, x3], _ =>
    have f0 := hf 0 _ rfl
    have f1 := hf 1 _ rfl
    have f2 := hf 2 _ rfl
    have f3 := hf 3 _ rfl
    simp [c0, c1, c2, c3] at f0 f1 f2 f3
    obtain ⟨n0, e0, _, w0⟩ := DataW.trod_int Try.underlying3 f0
    obtain ⟨n1, e1, _, w1⟩ := DataW.trod_int Try.underlying53 f1
    obtain ⟨n2, e2, _, w2⟩ := DataW.trod_int Try.underlying23 f2
    obtain ⟨a3, l3, q3, rfl⟩ := slice_form Try.underlying46 f3
    obtain ⟨es, m, hm, hsl, hel, hlen⟩ := slf_of (sz := 3) (v := .slice a3 l3 q3) Try.underlying46 (by kernel_rfl) (by decide) f3 ⟨_, _, _, rfl⟩
    obtain ⟨l, hl1, hl2⟩ := list_of (p := fun i (x : PCell) => ∀ c, es[i]? = some c → CellC (Base.of W) c x) es.length fun i hi => by
      obtain ⟨y, hy⟩ := hel _ (List.getElem_mem hi)
      obtain ⟨x, hx⟩ := cell_of _ _ _ hy
      exact ⟨x, fun c hc => by rw [List.getElem?_eq_getElem hi] at hc; cases hc; exact hx⟩
    simp at e0 e1 e2
    subst e0 e1 e2
    have b0 := bounds_i64 w0
    have b1 := bounds_u64 w1
    have b2 := bounds_u32 w2
    refine ⟨⟨n0, n1.toNat, n2.toNat, l⟩, ⟨b0, by show n1.toNat < 18446744073709551616; omega, by show n2.toNat < 4294967296; omega, by show l.length ≤ _; unfold maxLen at hlen; omega⟩, .slice a3 l3 q3, by simp only [cP]; rw [Int.toNat_of_nonneg b1.1, Int.toNat_of_nonneg b2.1], es, hsl, hl1.symm, fun j c x hj hx => ?_⟩
    obtain ⟨hlt, e⟩ := List.getElem?_eq_some_iff.1 hx
    rw [← e]; exact hl2 j hlt c hj
theorem image_of (cs : List Value) (n : Nat) (y : DataW H × List MemPlace) (h : DataW.trod enc Try.prog W base spare held n 58 cs = some y) : ∃ x : PImg, ImgC (Base.of W) cs x := by
  obtain ⟨xs, k, rfl, rfl, hl, hlen, hf⟩ := DataW.trod_struct Try.underlying58 h
  have hl4 : cs.length = 5 := hl.trans (by kernel_rfl)
  have c0 : Try.prog.cellsOf 23 = 1 := by kernel_rfl
  have c1 : Try.prog.cellsOf 55 = 4 := by kernel_rfl
  match cs, hl4, xs, hlen with
  | [v0, v1, v2, v3, v4], _, [x0, x1], _ =>
    have f0 := hf 0 _ rfl
    have f1 := hf 1 _ rfl
    simp [c0, c1] at f0 f1
    obtain ⟨n0, e0, _, w0⟩ := DataW.trod_int Try.underlying23 f0
    obtain ⟨p, hp⟩ := page_of _ _ _ f1
    simp at e0
    subst e0
    have b0 := bounds_u32 w0
    exact ⟨⟨n0.toNat, p⟩, by show n0.toNat < 4294967296; omega, _, by rw [Int.toNat_of_nonneg b0.1], hp⟩
theorem tree_of (cs : List Value) (n : Nat) (y : DataW H × List MemPlace) (h : DataW.trod enc Try.prog W base spare held n 26 cs = some y) : ∃ t : PTree, TreeC (Base.of W) cs t := by
  obtain ⟨xs, k, rfl, rfl, hl, hlen, hf⟩ := DataW.trod_struct Try.underlying26 h
  have hl4 : cs.length = 3 := hl.trans (by kernel_rfl)
  have c0 : Try.prog.cellsOf 22 = 1 := by kernel_rfl
  have c1 : Try.prog.cellsOf 23 = 1 := by kernel_rfl
  have c2 : Try.prog.cellsOf 24 = 1 := by kernel_rfl
  match cs, hl4, xs, hlen with
  | [v0, v1, v2], _, [x0, x1, x2], _ =>
    have f0 := hf 0 _ rfl
    have f1 := hf 1 _ rfl
    have f2 := hf 2 _ rfl
    simp [c0, c1, c2] at f0 f1 f2
    obtain ⟨a3, l3, q3, rfl⟩ := slice_form Try.underlying22 f0
    obtain ⟨es, m, hm, hsl, hel, hlen⟩ := slf_of (sz := 5) (v := .slice a3 l3 q3) Try.underlying22 (by kernel_rfl) (by decide) f0 ⟨_, _, _, rfl⟩
    obtain ⟨l, hl1, hl2⟩ := list_of (p := fun i (x : PImg) => ∀ c, es[i]? = some c → ImgC (Base.of W) c x) es.length fun i hi => by
      obtain ⟨y, hy⟩ := hel _ (List.getElem_mem hi)
      obtain ⟨x, hx⟩ := image_of _ _ _ hy
      exact ⟨x, fun c hc => by rw [List.getElem?_eq_getElem hi] at hc; cases hc; exact hx⟩
    obtain ⟨n1, e1, _, w1⟩ := DataW.trod_int Try.underlying23 f1
    obtain ⟨n2, e2, _, w2⟩ := DataW.trod_int Try.underlying24 f2
    simp at e1 e2
    subst e1 e2
    have b1 := bounds_u32 w1
    have b2 := bounds_i64 w2
    refine ⟨⟨l, n1.toNat, n2⟩, by show n1.toNat < 4294967296; omega, b2, by show l.length ≤ _; unfold maxLen at hlen; omega, .slice a3 l3 q3, by simp only [cT]; rw [Int.toNat_of_nonneg b1.1], es, hsl, hl1.symm, fun j c x hj hx => ?_⟩
    obtain ⟨hlt, e⟩ := List.getElem?_eq_some_iff.1 hx
    rw [← e]; exact hl2 j hlt c hj
theorem tree_val {fuel : Nat} {x : DataW H × List MemPlace} {v : Value} {w : World} {r : Reach} {b0 : Nat} (hval : Value.okWide Try.prog w r b0 26 v)
    (h : DataW.trod enc Try.prog W base spare held fuel 26 v.cells.toList = some x) : ∃ cs e, v = .agg (cs : List Value).toArray ∧ TreeC (Base.of W) cs e := by
  obtain ⟨cs, rfl, -⟩ := okWide_struct Try.underlying26 hval
  obtain ⟨e, hw⟩ := tree_of _ _ _ h
  exact ⟨_, e, rfl, hw⟩
theorem num_of (cs : List Value) (n : Nat) (y : DataW H × List MemPlace) (h : DataW.trod enc Try.prog W base spare held n 23 cs = some y) : ∃ x : Nat, cs = [uV x] ∧ x < 4294967296 := by
  obtain ⟨n1, e1, _, w1⟩ := DataW.trod_int Try.underlying23 h
  subst e1
  have b1 := bounds_u32 w1
  exact ⟨n1.toNat, by rw [uV, Int.toNat_of_nonneg b1.1], by omega⟩
theorem nums_val {fuel : Nat} {x : DataW H × List MemPlace} {v : Value} {w : World} {r : Reach} {b0 : Nat} (hval : Value.okWide Try.prog w r b0 30 v)
    (h : DataW.trod enc Try.prog W base spare held fuel 30 v.cells.toList = some x) : ∃ l : List Nat, U32s (Base.of W) v l ∧ l.length ≤ 9223372036854775807 := by
  obtain ⟨a9, l9, q9, rfl⟩ := okWide_slice Try.underlying30 hval
  obtain ⟨ll, hl1, hl2, hl3⟩ := sl_of (f := fun n : Nat => [uV n]) (wf := fun n => n < 4294967296) (sz := 1) (v := .slice a9 l9 q9) Try.underlying30 (by kernel_rfl) (by decide) (fun cs n y hy => num_of cs n y hy) (fun x => rfl) h ⟨_, _, _, rfl⟩
  unfold maxLen at hl3
  exact ⟨ll, ⟨hl1, hl2⟩, by omega⟩
end
end Go.Proofs.Ytahdbncfegedjaa.Rd
