/-
  R1: the texts Rp Rq Rs in one. Conditions: each theorem's own.
-/
import Derived.Test.YtkdngpiiecmpgaaGreatKY
import Derived.Test.YtkdngpiiecmpgaaGreatKX
import Derived.Test.YtkdngpiiecmpgaaGreatFe
import Derived.SizedLaws
import Derived.Test.YtkdngpiiecmpgaaGreatHa
/-! What the statements' arguments read as: pages, operations. Conditions: each theorem's own. -/
namespace Go.Proofs.YtkdngpiiecmpgaaGreat.Rd
open Go Go.K Go.Proofs Go.Proofs.YtkdngpiiecmpgaaGreat Go.Proofs.YtkdngpiiecmpgaaGreat.Pg
open Go.ChangeShapes Go.WideShapes Go.ChangeAt Go.RowKit
set_option linter.unusedVariables false
set_option linter.unusedSimpArgs false
set_option maxRecDepth 10000

section
variable {H : Type} {enc : TypeId × Value → H} {P : Program} {W : World} {base : Nat} {spare : Nat → Bool} {held : Bool}
/-- How long a slice may be that came in. -/
theorem len_reach {ts : List TypeId} {ds : List (DataW H)} {j fuel : Nat} {t e : TypeId} {d : DataW H} {p : List MemPlace} {a : Option Addr} {l c : Nat} (hsz : (DataW.weightsEach P ts ds).all (· ≤ reachBytes) = true) (ht' : ts[j]? = some t) (hd : ds[j]? = some d)
    (ht : P.underlying t = some (.slice e)) (h : DataW.trod enc P W base spare held fuel t [.slice a l c] = some (d, p)) : l * P.bytesOf e ≤ reachBytes := by
  rcases Go.Deep.open_slice ht h with ⟨hcs, _⟩ | ⟨a', len, cap, m, n, D, Pl, hcs, _, _, _, _, hx, _⟩
  · simp at hcs
    obtain ⟨-, rfl, -⟩ := hcs
    simp
  · simp at hcs
    obtain ⟨-, rfl, -⟩ := hcs
    have e1 : d = .slice ((List.range l).map D) ((List.range (m - l)).map fun j => D (l + j)) := congrArg Prod.fst hx
    have := sized_slice hsz ht' (by rw [hd, e1]) ht
    simp only [List.length_map, List.length_range] at this
    exact Nat.le_trans (Nat.mul_le_mul_right _ (Nat.le_add_right ..)) this
theorem bounds_u8 {n : Int} (h : (Lit.int .u8 n).wf = true) : 0 ≤ n ∧ n ≤ 255 := by
  simpa [Lit.wf, IntKind.min, IntKind.max, IntKind.signed, IntKind.bits] using h
theorem bounds_u32 {n : Int} (h : (Lit.int .u32 n).wf = true) : 0 ≤ n ∧ n ≤ 4294967295 := by
  simpa [Lit.wf, IntKind.min, IntKind.max, IntKind.signed, IntKind.bits] using h
theorem bounds_u64 {n : Int} (h : (Lit.int .u64 n).wf = true) : 0 ≤ n ∧ n ≤ 18446744073709551615 := by
  simpa [Lit.wf, IntKind.min, IntKind.max, IntKind.signed, IntKind.bits] using h
theorem slice_form {t e : TypeId} {fuel : Nat} {v : Value} {x : DataW H × List MemPlace} (ht : P.underlying t = some (.slice e)) (h : DataW.trod enc P W base spare held fuel t [v] = some x) : ∃ a l c, v = .slice a l c := by
  rcases DataW.trod_slice ht h with ⟨hcs, _⟩ | ⟨a, len, cap, elems, rest, n, hfu, hcs, _⟩
  · simp at hcs; exact ⟨_, _, _, hcs⟩
  · simp at hcs; exact ⟨_, _, _, hcs⟩
theorem bytes_of {fuel : Nat} {v : Value} {x : DataW H × List MemPlace} (h : DataW.trod enc Tryz.prog W base spare held fuel 53 [v] = some x) : ∃ (l : List UInt8) (ao : Option Addr) (ca : Nat), v = .slice ao l.length ca ∧ BV (Base.of W) (.slice ao l.length ca) l ∧ l.length ≤ 9223372036854775807 := by
  obtain ⟨a, n, c, rfl⟩ := slice_form Tryz.underlying53 h
  obtain ⟨l, hl, hm⟩ := bv_of (v := .slice a n c) Tryz.underlying53 Tryz.underlying5 (by kernel_rfl) h ⟨_, _, _, rfl⟩
  obtain ⟨ao, ca, e⟩ := hl.len
  rw [e] at hl ⊢
  exact ⟨l, _, _, rfl, hl, by unfold maxLen at hm; omega⟩
theorem cell_of (cs : List Value) (n : Nat) (y : DataW H × List MemPlace) (h : DataW.trod enc Tryz.prog W base spare held n 55 cs = some y) : ∃ x : PCell, CellC (Base.of W) cs x := by
  obtain ⟨xs, k, rfl, rfl, hl, hlen, hf⟩ := DataW.trod_struct Tryz.underlying55 h
  have hl4 : cs.length = 3 := hl.trans (by kernel_rfl)
  have c0 : Tryz.prog.cellsOf 4 = 1 := by kernel_rfl
  have c1 : Tryz.prog.cellsOf 29 = 1 := by kernel_rfl
  have c2 : Tryz.prog.cellsOf 53 = 1 := by kernel_rfl
  match cs, hl4, xs, hlen with
  | [v0, v1, v2], _, [x0, x1, x2], _ =>
    have f0 := hf 0 _ rfl
    have f1 := hf 1 _ rfl
    have f2 := hf 2 _ rfl
    simp [c0, c1, c2] at f0 f1 f2
    obtain ⟨b0, e0, _⟩ := DataW.trod_bool Tryz.underlying4 f0
    obtain ⟨n1, e1, _, w1⟩ := DataW.trod_int Tryz.underlying29 f1
    obtain ⟨l2, ao, ca, rfl, hb, hm⟩ := bytes_of f2
    simp at e0 e1
    subst e0 e1
    have b1 := bounds_u32 w1
    exact ⟨⟨b0, n1.toNat, l2⟩, by show n1.toNat < 4294967296; omega, hm, _, _, by rw [Int.toNat_of_nonneg b1.1], hb⟩
theorem page_of (cs : List Value) (n : Nat) (y : DataW H × List MemPlace) (h : DataW.trod enc Tryz.prog W base spare held n 50 cs = some y) : ∃ p : Pag, PagC (Base.of W) cs p := by
  obtain ⟨xs, k, rfl, rfl, hl, hlen, hf⟩ := DataW.trod_struct Tryz.underlying50 h
  have hl4 : cs.length = 4 := hl.trans (by kernel_rfl)
  have c0 : Tryz.prog.cellsOf 3 = 1 := by kernel_rfl
  have c1 : Tryz.prog.cellsOf 23 = 1 := by kernel_rfl
  have c2 : Tryz.prog.cellsOf 29 = 1 := by kernel_rfl
  have c3 : Tryz.prog.cellsOf 48 = 1 := by kernel_rfl
  match cs, hl4, xs, hlen with
  | [v0, v1, v2, v3], _, [x0, x1, x2, x3], _ =>
    have f0 := hf 0 _ rfl
    have f1 := hf 1 _ rfl
    have f2 := hf 2 _ rfl
    have f3 := hf 3 _ rfl
    simp [c0, c1, c2, c3] at f0 f1 f2 f3
    obtain ⟨n0, e0, _, w0⟩ := DataW.trod_int Tryz.underlying3 f0
    obtain ⟨n1, e1, _, w1⟩ := DataW.trod_int Tryz.underlying23 f1
    obtain ⟨n2, e2, _, w2⟩ := DataW.trod_int Tryz.underlying29 f2
    obtain ⟨a3, l3, q3, rfl⟩ := slice_form Tryz.underlying48 f3
    obtain ⟨es, m, hm, hsl, hel, hlen⟩ := slf_of (sz := 3) (v := .slice a3 l3 q3) Tryz.underlying48 (by kernel_rfl) (by decide) f3 ⟨_, _, _, rfl⟩
    obtain ⟨l, hl1, hl2⟩ := list_of (p := fun i (x : PCell) => ∀ c, es[i]? = some c → CellC (Base.of W) c x) es.length fun i hi => by
      obtain ⟨y, hy⟩ := hel _ (List.getElem_mem hi)
      obtain ⟨x, hx⟩ := cell_of _ _ _ hy
      exact ⟨x, fun c hc => by rw [List.getElem?_eq_getElem hi] at hc; cases hc; exact hx⟩
    simp at e0 e1 e2
    subst e0 e1 e2
    have b0 := bounds_i64 w0
    have b1 := bounds_u64 w1
    have b2 := bounds_u32 w2
    refine ⟨⟨n0, n1.toNat, n2.toNat, l⟩, ⟨b0, by show n1.toNat < 18446744073709551616; omega, by show n2.toNat < 4294967296; omega, by show l.length ≤ _; unfold maxLen at hlen; omega⟩, .slice a3 l3 q3, by simp only [cP]; rw [Int.toNat_of_nonneg b1.1, Int.toNat_of_nonneg b2.1], es, hsl, hl1.symm, fun j c x hj hx => ?_⟩
    obtain ⟨hlt, e⟩ := List.getElem?_eq_some_iff.1 hx
    rw [← e]; exact hl2 j hlt c hj
theorem op_of (cs : List Value) (n : Nat) (y : DataW H × List MemPlace) (h : DataW.trod enc Tryz.prog W base spare held n 61 cs = some y) : ∃ o : POp, OpC (Base.of W) cs o := by
  obtain ⟨xs, k, rfl, rfl, hl, hlen, hf⟩ := DataW.trod_struct Tryz.underlying61 h
  have hl4 : cs.length = 4 := hl.trans (by kernel_rfl)
  have c0 : Tryz.prog.cellsOf 3 = 1 := by kernel_rfl
  have c2 : Tryz.prog.cellsOf 29 = 1 := by kernel_rfl
  have c3 : Tryz.prog.cellsOf 53 = 1 := by kernel_rfl
  match cs, hl4, xs, hlen with
  | [v0, v1, v2, v3], _, [x0, x1, x2, x3], _ =>
    have f0 := hf 0 _ rfl
    have f1 := hf 1 _ rfl
    have f2 := hf 2 _ rfl
    have f3 := hf 3 _ rfl
    simp [c0, c2, c3] at f0 f1 f2 f3
    obtain ⟨n0, e0, _, w0⟩ := DataW.trod_int Tryz.underlying3 f0
    obtain ⟨n1, e1, _, w1⟩ := DataW.trod_int Tryz.underlying3 f1
    obtain ⟨n2, e2, _, w2⟩ := DataW.trod_int Tryz.underlying29 f2
    obtain ⟨l3, ao, ca, rfl, hb, hm⟩ := bytes_of f3
    simp at e0 e1 e2
    subst e0 e1 e2
    have b0 := bounds_i64 w0
    have b1 := bounds_i64 w1
    have b2 := bounds_u32 w2
    exact ⟨⟨n0, n1, n2.toNat, l3⟩, ⟨b0, b1, by show n2.toNat < 4294967296; omega, hm⟩, ao, ca, by simp only [cO]; rw [Int.toNat_of_nonneg b2.1], hb⟩
theorem page_val {fuel : Nat} {x : DataW H × List MemPlace} {v : Value} {w : World} {r : Reach} {b0 : Nat} (hval : Value.okWide Tryz.prog w r b0 50 v)
    (h : DataW.trod enc Tryz.prog W base spare held fuel 50 v.cells.toList = some x) : ∃ cs e, v = .agg (cs : List Value).toArray ∧ PagC (Base.of W) cs e := by
  obtain ⟨cs, rfl, -⟩ := okWide_struct Tryz.underlying50 hval
  obtain ⟨e, hw⟩ := page_of _ _ _ h
  exact ⟨_, e, rfl, hw⟩
theorem op_val {fuel : Nat} {x : DataW H × List MemPlace} {v : Value} {w : World} {r : Reach} {b0 : Nat} (hval : Value.okWide Tryz.prog w r b0 61 v)
    (h : DataW.trod enc Tryz.prog W base spare held fuel 61 v.cells.toList = some x) : ∃ cs e, v = .agg (cs : List Value).toArray ∧ OpC (Base.of W) cs e := by
  obtain ⟨cs, rfl, -⟩ := okWide_struct Tryz.underlying61 hval
  obtain ⟨e, hw⟩ := op_of _ _ _ h
  exact ⟨_, e, rfl, hw⟩
/-- The same, with the reach of all parts. -/
theorem bytes_upto {fuel : Nat} {v : Value} {x : DataW H × List MemPlace} (h : DataW.trod enc Tryz.prog W base spare held fuel 53 [v] = some x) (hR : Upto Tryz.prog 53 x.1) : ∃ (l : List UInt8) (ao : Option Addr) (ca : Nat), v = .slice ao l.length ca ∧ BV (Base.of W) (.slice ao l.length ca) l ∧ l.length ≤ 140737488351232 := by
  obtain ⟨l, ao, ca, rfl, hb, _⟩ := bytes_of h
  refine ⟨l, ao, ca, rfl, hb, ?_⟩
  obtain ⟨es, n, _, hsl, _, _, hn⟩ := slu_of (sz := 1) (v := .slice ao l.length ca) Tryz.underlying53 (by kernel_rfl) (by decide) h ⟨_, _, _, rfl⟩ hR
  obtain ⟨_, _, e⟩ := hsl.len
  injection e with _ e2 _
  rw [show Tryz.prog.bytesOf 5 = 1 from by kernel_rfl] at hn
  unfold reachBytes at hn
  omega
theorem op_upto (cs : List Value) (n : Nat) (y : DataW H × List MemPlace) (h : DataW.trod enc Tryz.prog W base spare held n 61 cs = some y) (hR : Upto Tryz.prog 61 y.1) : ∃ o : POp, OpC (Base.of W) cs o ∧ o.data.length ≤ 140737488351232 := by
  have h0 := h
  obtain ⟨xs, k, rfl, rfl, hl, hlen, hf⟩ := DataW.trod_struct Tryz.underlying61 h
  have c3 : Tryz.prog.cellsOf 53 = 1 := by kernel_rfl
  have hl4 : cs.length = 4 := hl.trans (by kernel_rfl)
  obtain ⟨o, ho⟩ := op_of _ _ _ h0
  refine ⟨o, ho, ?_⟩
  obtain ⟨_, ao, ca, rfl, hb⟩ := ho
  match xs, hlen with
  | [x0, x1, x2, x3], _ =>
    have f3 := hf 3 _ rfl
    simp [c3, cO] at f3
    have hu := upto_field (i := 3) (d := x3.1) Tryz.underlying61 hR rfl rfl
    obtain ⟨l, ao2, ca2, e, _, hm⟩ := bytes_upto f3 hu
    injection e with _ e2 _
    omega
end
end Go.Proofs.YtkdngpiiecmpgaaGreat.Rd

/-! What the statements' arguments read as: records. Conditions: each theorem's own. -/
namespace Go.Proofs.YtkdngpiiecmpgaaGreat.Rd
open Go Go.K Go.Proofs Go.Proofs.YtkdngpiiecmpgaaGreat Go.Proofs.YtkdngpiiecmpgaaGreat.Pg Go.Proofs.YtkdngpiiecmpgaaGreat.Rc
open Go.ChangeShapes Go.WideShapes Go.ChangeAt Go.RowKit
set_option linter.unusedVariables false
set_option linter.unusedSimpArgs false
set_option maxRecDepth 10000

section
variable {H : Type} {enc : TypeId × Value → H} {P : Program} {W : World} {base : Nat} {spare : Nat → Bool} {held : Bool}
theorem image_of (cs : List Value) (n : Nat) (y : DataW H × List MemPlace) (h : DataW.trod enc Tryz.prog W base spare held n 52 cs = some y) : ∃ x : PImg, ImgC (Base.of W) cs x := by
  obtain ⟨xs, k, rfl, rfl, hl, hlen, hf⟩ := DataW.trod_struct Tryz.underlying52 h
  have hl4 : cs.length = 5 := hl.trans (by kernel_rfl)
  have c0 : Tryz.prog.cellsOf 29 = 1 := by kernel_rfl
  have c1 : Tryz.prog.cellsOf 50 = 4 := by kernel_rfl
  match cs, hl4, xs, hlen with
  | [v0, v1, v2, v3, v4], _, [x0, x1], _ =>
    have f0 := hf 0 _ rfl
    have f1 := hf 1 _ rfl
    simp [c0, c1] at f0 f1
    obtain ⟨n0, e0, _, w0⟩ := DataW.trod_int Tryz.underlying29 f0
    obtain ⟨p, hp⟩ := page_of _ _ _ f1
    simp at e0
    subst e0
    have b0 := bounds_u32 w0
    exact ⟨⟨n0.toNat, p⟩, by show n0.toNat < 4294967296; omega, _, by rw [Int.toNat_of_nonneg b0.1], hp⟩
theorem live_of (cs : List Value) (n : Nat) (y : DataW H × List MemPlace) (h : DataW.trod enc Tryz.prog W base spare held n 38 cs = some y) : ∃ x : PLive, cs = Rc.cL x ∧ wfL x := by
  obtain ⟨xs, k, rfl, rfl, hl, hlen, hf⟩ := DataW.trod_struct Tryz.underlying38 h
  have hl4 : cs.length = 4 := hl.trans (by kernel_rfl)
  have c0 : Tryz.prog.cellsOf 29 = 1 := by kernel_rfl
  have c1 : Tryz.prog.cellsOf 23 = 1 := by kernel_rfl
  have c3 : Tryz.prog.cellsOf 4 = 1 := by kernel_rfl
  match cs, hl4, xs, hlen with
  | [v0, v1, v2, v3], _, [x0, x1, x2, x3], _ =>
    have f0 := hf 0 _ rfl
    have f1 := hf 1 _ rfl
    have f2 := hf 2 _ rfl
    have f3 := hf 3 _ rfl
    simp [c0, c1, c3] at f0 f1 f2 f3
    obtain ⟨n0, e0, _, w0⟩ := DataW.trod_int Tryz.underlying29 f0
    obtain ⟨n1, e1, _, w1⟩ := DataW.trod_int Tryz.underlying23 f1
    obtain ⟨n2, e2, _, w2⟩ := DataW.trod_int Tryz.underlying23 f2
    obtain ⟨b3, e3, _⟩ := DataW.trod_bool Tryz.underlying4 f3
    simp at e0 e1 e2 e3
    subst e0 e1 e2 e3
    have b0 := bounds_u32 w0
    have b1 := bounds_u64 w1
    have b2 := bounds_u64 w2
    exact ⟨⟨n0.toNat, n1.toNat, n2.toNat, b3⟩, by simp only [Rc.cL]; rw [Int.toNat_of_nonneg b0.1, Int.toNat_of_nonneg b1.1, Int.toNat_of_nonneg b2.1], by show n0.toNat < 4294967296; omega, by show n1.toNat < 18446744073709551616; omega, by show n2.toNat < 18446744073709551616; omega⟩
theorem dirty_of (cs : List Value) (n : Nat) (y : DataW H × List MemPlace) (h : DataW.trod enc Tryz.prog W base spare held n 40 cs = some y) : ∃ x : PDirty, cs = Rc.cD x ∧ wfD x := by
  obtain ⟨xs, k, rfl, rfl, hl, hlen, hf⟩ := DataW.trod_struct Tryz.underlying40 h
  have hl4 : cs.length = 2 := hl.trans (by kernel_rfl)
  have c0 : Tryz.prog.cellsOf 29 = 1 := by kernel_rfl
  have c1 : Tryz.prog.cellsOf 23 = 1 := by kernel_rfl
  match cs, hl4, xs, hlen with
  | [v0, v1], _, [x0, x1], _ =>
    have f0 := hf 0 _ rfl
    have f1 := hf 1 _ rfl
    simp [c0, c1] at f0 f1
    obtain ⟨n0, e0, _, w0⟩ := DataW.trod_int Tryz.underlying29 f0
    obtain ⟨n1, e1, _, w1⟩ := DataW.trod_int Tryz.underlying23 f1
    simp at e0 e1
    subst e0 e1
    have b0 := bounds_u32 w0
    have b1 := bounds_u64 w1
    exact ⟨⟨n0.toNat, n1.toNat⟩, by simp only [Rc.cD]; rw [Int.toNat_of_nonneg b0.1, Int.toNat_of_nonneg b1.1], by show n0.toNat < 4294967296; omega, by show n1.toNat < 18446744073709551616; omega⟩
theorem record_of (cs : List Value) (n : Nat) (y : DataW H × List MemPlace) (h : DataW.trod enc Tryz.prog W base spare held n 63 cs = some y) : ∃ r : Recd, RecC (Base.of W) cs r := by
  obtain ⟨xs, k, rfl, rfl, hl, hlen, hf⟩ := DataW.trod_struct Tryz.underlying63 h
  have hl4 : cs.length = 15 := hl.trans (by kernel_rfl)
  have c0 : Tryz.prog.cellsOf 3 = 1 := by kernel_rfl
  have c1 : Tryz.prog.cellsOf 23 = 1 := by kernel_rfl
  have c2 : Tryz.prog.cellsOf 29 = 1 := by kernel_rfl
  have c7 : Tryz.prog.cellsOf 61 = 4 := by kernel_rfl
  have c8 : Tryz.prog.cellsOf 43 = 1 := by kernel_rfl
  have c9 : Tryz.prog.cellsOf 27 = 1 := by kernel_rfl
  have c10 : Tryz.prog.cellsOf 28 = 1 := by kernel_rfl
  match cs, hl4, xs, hlen with
  | [v0, v1, v2, v3, v4, v5, v6, v7, v8, v9, v10, v11, v12, v13, v14], _, [x0, x1, x2, x3, x4, x5, x6, x7, x8, x9, x10, x11], _ =>
    have f0 := hf 0 _ rfl
    have f1 := hf 1 _ rfl
    have f2 := hf 2 _ rfl
    have f3 := hf 3 _ rfl
    have f4 := hf 4 _ rfl
    have f5 := hf 5 _ rfl
    have f6 := hf 6 _ rfl
    have f7 := hf 7 _ rfl
    have f8 := hf 8 _ rfl
    have f9 := hf 9 _ rfl
    have f10 := hf 10 _ rfl
    have f11 := hf 11 _ rfl
    clear hf h
    simp [c0, c1, c2, c7, c8, c9, c10] at f0 f1 f2 f3 f4 f5 f6 f7 f8 f9 f10 f11
    obtain ⟨n0, e0, _, w0⟩ := DataW.trod_int Tryz.underlying3 f0
    obtain ⟨n1, e1, _, w1⟩ := DataW.trod_int Tryz.underlying23 f1
    obtain ⟨n2, e2, _, w2⟩ := DataW.trod_int Tryz.underlying29 f2
    obtain ⟨n3, e3, _, w3⟩ := DataW.trod_int Tryz.underlying23 f3
    obtain ⟨n4, e4, _, w4⟩ := DataW.trod_int Tryz.underlying23 f4
    obtain ⟨n5, e5, _, w5⟩ := DataW.trod_int Tryz.underlying29 f5
    obtain ⟨n6, e6, _, w6⟩ := DataW.trod_int Tryz.underlying29 f6
    obtain ⟨o, ho⟩ := op_of _ _ _ f7
    obtain ⟨a8, l8, q8, rfl⟩ := slice_form Tryz.underlying43 f8
    obtain ⟨es, m, hm, hsl, hel, hlen8⟩ := slf_of (sz := 5) (v := .slice a8 l8 q8) Tryz.underlying43 (by kernel_rfl) (by decide) f8 ⟨_, _, _, rfl⟩
    obtain ⟨il, hi1, hi2⟩ := list_of (p := fun i (x : PImg) => ∀ c, es[i]? = some c → ImgC (Base.of W) c x) es.length fun i hi => by
      obtain ⟨y, hy⟩ := hel _ (List.getElem_mem hi)
      obtain ⟨x, hx⟩ := image_of _ _ _ hy
      exact ⟨x, fun c hc => by rw [List.getElem?_eq_getElem hi] at hc; cases hc; exact hx⟩
    obtain ⟨a9, l9, q9, rfl⟩ := slice_form Tryz.underlying27 f9
    obtain ⟨ll, hl1, hl2, hl3⟩ := sl_of (f := Rc.cL) (wf := wfL) (sz := 4) (v := .slice a9 l9 q9) Tryz.underlying27 (by kernel_rfl) (by decide) (fun cs n y hy => live_of cs n y hy) (fun x => rfl) f9 ⟨_, _, _, rfl⟩
    obtain ⟨a10, l10, q10, rfl⟩ := slice_form Tryz.underlying28 f10
    obtain ⟨dl, hd1, hd2, hd3⟩ := sl_of (f := Rc.cD) (wf := wfD) (sz := 2) (v := .slice a10 l10 q10) Tryz.underlying28 (by kernel_rfl) (by decide) (fun cs n y hy => dirty_of cs n y hy) (fun x => rfl) f10 ⟨_, _, _, rfl⟩
    obtain ⟨n11, e11, _, w11⟩ := DataW.trod_int Tryz.underlying29 f11
    obtain ⟨wo, ao, ca, hoc, hob⟩ := ho
    simp at e0 e1 e2 e3 e4 e5 e6 e11
    subst e0 e1 e2 e3 e4 e5 e6 e11
    simp only [cO, List.cons.injEq, and_true] at hoc
    obtain ⟨rfl, rfl, rfl, rfl⟩ := hoc
    have b0 := bounds_i64 w0
    have b1 := bounds_u64 w1
    have b2 := bounds_u32 w2
    have b3 := bounds_u64 w3
    have b4 := bounds_u64 w4
    have b5 := bounds_u32 w5
    have b6 := bounds_u32 w6
    have b11 := bounds_u32 w11
    unfold maxLen at hlen8 hl3 hd3
    refine ⟨⟨n0, n1.toNat, n2.toNat, n3.toNat, n4.toNat, n5.toNat, n6.toNat, o, il, ll, dl, n11.toNat⟩, ?_, ao, ca, .slice a8 l8 q8, .slice a9 l9 q9, .slice a10 l10 q10, ?_, hob, ⟨es, hsl, hi1.symm, fun j c x hj hx => ?_⟩, hl1, hd1⟩
    · exact ⟨b0, by show n1.toNat < _; omega, by show n2.toNat < _; omega, by show n3.toNat < _; omega, by show n4.toNat < _; omega, by show n5.toNat < _; omega, by show n6.toNat < _; omega, wo, by show n11.toNat < _; omega, by show il.length ≤ _; omega, by show ll.length ≤ _; omega, by show dl.length ≤ _; omega, hl2, hd2⟩
    · simp only [cR]
      rw [Int.toNat_of_nonneg b1.1, Int.toNat_of_nonneg b2.1, Int.toNat_of_nonneg b3.1, Int.toNat_of_nonneg b4.1, Int.toNat_of_nonneg b5.1, Int.toNat_of_nonneg b6.1, Int.toNat_of_nonneg b11.1]
    · obtain ⟨hlt, e⟩ := List.getElem?_eq_some_iff.1 hx
      rw [← e]; exact hi2 j hlt c hj
theorem record_val {fuel : Nat} {x : DataW H × List MemPlace} {v : Value} {w : World} {r : Reach} {b0 : Nat} (hval : Value.okWide Tryz.prog w r b0 63 v)
    (h : DataW.trod enc Tryz.prog W base spare held fuel 63 v.cells.toList = some x) : ∃ cs e, v = .agg (cs : List Value).toArray ∧ RecC (Base.of W) cs e := by
  obtain ⟨cs, rfl, -⟩ := okWide_struct Tryz.underlying63 hval
  obtain ⟨e, hw⟩ := record_of _ _ _ h
  exact ⟨_, e, rfl, hw⟩
end
section
variable {H : Type} {enc : TypeId × Value → H} {P : Program} {W : World} {base : Nat} {spare : Nat → Bool} {held : Bool}
theorem records_val {fuel : Nat} {x : DataW H × List MemPlace} {v : Value} {w : World} {r : Reach} {b0 : Nat} (hval : Value.okWide Tryz.prog w r b0 22 v)
    (h : DataW.trod enc Tryz.prog W base spare held fuel 22 v.cells.toList = some x) : ∃ (es : List (List Value)) (l : List Recd), SL (Base.of W) 15 v es ∧ es.length = l.length ∧ l.length ≤ 9223372036854775807 ∧ ∀ (j : Nat) c o, es[j]? = some c → l[j]? = some o → RecC (Base.of W) c o := by
  obtain ⟨a3, l3, q3, rfl⟩ := okWide_slice Tryz.underlying22 hval
  obtain ⟨es, m, hm, hsl, hel, hlen⟩ := slf_of (sz := 15) (v := .slice a3 l3 q3) Tryz.underlying22 (by kernel_rfl) (by decide) h ⟨_, _, _, rfl⟩
  obtain ⟨l, hl1, hl2⟩ := list_of (p := fun i (x : Recd) => ∀ c, es[i]? = some c → RecC (Base.of W) c x) es.length fun i hi => by
    obtain ⟨y, hy⟩ := hel _ (List.getElem_mem hi)
    obtain ⟨x, hx⟩ := record_of _ _ _ hy
    exact ⟨x, fun c hc => by rw [List.getElem?_eq_getElem hi] at hc; cases hc; exact hx⟩
  refine ⟨es, l, hsl, hl1.symm, by unfold maxLen at hlen; omega, fun j c x hj hx => ?_⟩
  obtain ⟨hlt, e⟩ := List.getElem?_eq_some_iff.1 hx
  rw [← e]; exact hl2 j hlt c hj
end
end Go.Proofs.YtkdngpiiecmpgaaGreat.Rd

/-! What the statements' arguments read as: live transactions, dirty pages, images. Conditions: each theorem's own. -/
namespace Go.Proofs.YtkdngpiiecmpgaaGreat.Rd
open Go Go.K Go.Proofs Go.Proofs.YtkdngpiiecmpgaaGreat Go.Proofs.YtkdngpiiecmpgaaGreat.Pg Go.Proofs.YtkdngpiiecmpgaaGreat.Rc
open Go.ChangeShapes Go.WideShapes Go.ChangeAt Go.RowKit
set_option linter.unusedVariables false
set_option linter.unusedSimpArgs false
set_option maxRecDepth 10000

section
variable {H : Type} {enc : TypeId × Value → H} {P : Program} {W : World} {base : Nat} {spare : Nat → Bool} {held : Bool}
theorem lives_val {fuel : Nat} {x : DataW H × List MemPlace} {v : Value} {w : World} {r : Reach} {b0 : Nat} (hval : Value.okWide Tryz.prog w r b0 27 v)
    (h : DataW.trod enc Tryz.prog W base spare held fuel 27 v.cells.toList = some x) : ∃ l : List PLive, SL (Base.of W) 4 v (l.map Rc.cL) ∧ (∀ x ∈ l, wfL x) ∧ l.length ≤ 9223372036854775807 := by
  obtain ⟨a9, l9, q9, rfl⟩ := okWide_slice Tryz.underlying27 hval
  obtain ⟨ll, hl1, hl2, hl3⟩ := sl_of (f := Rc.cL) (wf := wfL) (sz := 4) (v := .slice a9 l9 q9) Tryz.underlying27 (by kernel_rfl) (by decide) (fun cs n y hy => live_of cs n y hy) (fun x => rfl) h ⟨_, _, _, rfl⟩
  unfold maxLen at hl3
  exact ⟨ll, hl1, hl2, by omega⟩
theorem dirties_val {fuel : Nat} {x : DataW H × List MemPlace} {v : Value} {w : World} {r : Reach} {b0 : Nat} (hval : Value.okWide Tryz.prog w r b0 28 v)
    (h : DataW.trod enc Tryz.prog W base spare held fuel 28 v.cells.toList = some x) : ∃ l : List PDirty, SL (Base.of W) 2 v (l.map Rc.cD) ∧ (∀ x ∈ l, wfD x) ∧ l.length ≤ 9223372036854775807 := by
  obtain ⟨a9, l9, q9, rfl⟩ := okWide_slice Tryz.underlying28 hval
  obtain ⟨ll, hl1, hl2, hl3⟩ := sl_of (f := Rc.cD) (wf := wfD) (sz := 2) (v := .slice a9 l9 q9) Tryz.underlying28 (by kernel_rfl) (by decide) (fun cs n y hy => dirty_of cs n y hy) (fun x => rfl) h ⟨_, _, _, rfl⟩
  unfold maxLen at hl3
  exact ⟨ll, hl1, hl2, by omega⟩
theorem images_val {fuel : Nat} {x : DataW H × List MemPlace} {v : Value} {w : World} {r : Reach} {b0 : Nat} (hval : Value.okWide Tryz.prog w r b0 43 v)
    (h : DataW.trod enc Tryz.prog W base spare held fuel 43 v.cells.toList = some x) : ∃ (es : List (List Value)) (l : List PImg), SL (Base.of W) 5 v es ∧ es.length = l.length ∧ l.length ≤ 9223372036854775807 ∧ ∀ (j : Nat) c o, es[j]? = some c → l[j]? = some o → ImgC (Base.of W) c o := by
  obtain ⟨a3, l3, q3, rfl⟩ := okWide_slice Tryz.underlying43 hval
  obtain ⟨es, m, hm, hsl, hel, hlen⟩ := slf_of (sz := 5) (v := .slice a3 l3 q3) Tryz.underlying43 (by kernel_rfl) (by decide) h ⟨_, _, _, rfl⟩
  obtain ⟨l, hl1, hl2⟩ := list_of (p := fun i (x : PImg) => ∀ c, es[i]? = some c → ImgC (Base.of W) c x) es.length fun i hi => by
    obtain ⟨y, hy⟩ := hel _ (List.getElem_mem hi)
    obtain ⟨x, hx⟩ := image_of _ _ _ hy
    exact ⟨x, fun c hc => by rw [List.getElem?_eq_getElem hi] at hc; cases hc; exact hx⟩
  refine ⟨es, l, hsl, hl1.symm, by unfold maxLen at hlen; omega, fun j c x hj hx => ?_⟩
  obtain ⟨hlt, e⟩ := List.getElem?_eq_some_iff.1 hx
  rw [← e]; exact hl2 j hlt c hj
end
end Go.Proofs.YtkdngpiiecmpgaaGreat.Rd
