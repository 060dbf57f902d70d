/-
  RowsBack: the statement. Conditions: none.
-/
import Derived.Test.YthdiokdaaofebaaRows
import Derived.Test.YthdiokdaaofebaaRr
import Derived.Test.YthdiokdaaofebaaDs
namespace Go.Proofs.Ythdiokdaaofebaa.Pg
open Go Go.K Go.Proofs Go.Proofs.Ythdiokdaaofebaa
open Go.ChangeShapes Go.WideShapes Go.ChangeAt Go.RowKit
open Go.ChangeMaps (open_string shut_string)
set_option linter.unusedVariables false

theorem own : ownKnob Try.prog.godebug = none := by kernel_rfl
theorem laidOut : laidOutB Try.prog = true := by kernel_rfl

set_option maxRecDepth 100000 in
theorem lifted (os : Os) (started : os.Started) (H : Type) (enc : TypeId × Value → H) :
    ReturnsInHanded {} Try.checked os 6 .any (Rows.rowsBackSpec.pre6 enc Try.prog Try.f6 Rows.rowsBackRow.domain false) (Rows.rowsBackSpec.post enc Try.prog Try.f6 false true false false) := by
  refine returnsInHanded_of_change_sized (C := Try.checked) own started (by kernel_rfl) Try.func6
    (ChangeSpec.witness6 (enc := enc) (C := Try.checked) false ⟨#[], #[.slice none 0 0, .slice none 0 0, .slice none 0 0, .string ⟨#[]⟩], []⟩ 8 (by kernel_rfl) (by kernel_rfl) (by kernel_rfl) (by kernel_rfl)) ?_
  intro W base args ds gs before hval0 hW hcnd hsz0 _
  have hval : ∀ (j : Nat) t v, Try.f6.params[j]? = some t → args[j]? = some v → Value.okWide Try.prog W .any base t v := hval0
  have hsz : (DataW.weightsEach Try.prog (Try.f6.params.toList ++ Rows.rowsBackSpec.plain.varTypes Try.prog) (ds ++ gs)).all (· ≤ reachBytes) = true := hsz0
  have hW' := hW
  obtain ⟨p, q, hA0, hV, rfl, hfz, hnd⟩ := hW
  have hA : DataW.TrodAll enc Try.prog W 0 (fun _ => true) true Try.f6.params.toList args.toList ds p := hA0
  rw [Try.params6] at hA hval hsz
  obtain ⟨v0, vs0, d0, ds0, p0, q0, hargs, rfl, rfl, h0, r0⟩ := trodAll_cons hA
  obtain ⟨v1, vs1, d1, ds1, p1, q1, rfl, rfl, rfl, h1, r1⟩ := trodAll_cons r0
  obtain ⟨v2, vs2, d2, ds2, p2, q2, rfl, rfl, rfl, h2, r2⟩ := trodAll_cons r1
  obtain ⟨v3, vs3, d3, ds3, p3, q3, rfl, rfl, rfl, h3, r3⟩ := trodAll_cons r2
  obtain ⟨rfl, rfl, rfl⟩ := trodAll_nil r3
  obtain rfl : args = #[v0, v1, v2, v3] := by cases args; simp_all
  obtain ⟨rfl, rfl⟩ := trodVars_none hV
  obtain ⟨a0, len0, cap0, rfl⟩ := okWide_slice Try.underlying22 (hval 0 22 v0 rfl rfl)
  have k0 := h0
  have lt0 : ∀ x ∈ p0, x.block < W.heap.size := by obtain ⟨m, hm⟩ := k0; exact DataW.trod_lt m _ _ _ hm
  obtain ⟨l0, hl0, hw0, hn0⟩ : ∃ l : List Rw.Col, SL (Base.of W) 3 (.slice a0 len0 cap0) (l.map Rw.cC) ∧ (∀ i ∈ l, Rw.wfC i) ∧ l.length = len0 := by
    obtain ⟨fuel, hf⟩ := h0
    exact Rd.cols_of hf
  have hr0 : l0.length * 32 ≤ 140737488351232 := by
    obtain ⟨fuel, hf⟩ := h0
    have := Rd.len_reach (j := 0) hsz rfl rfl Try.underlying22 hf
    rw [show Try.prog.bytesOf 44 = 32 from by kernel_rfl] at this
    rw [hn0]; exact this
  obtain ⟨a1, len1, cap1, rfl⟩ := okWide_slice Try.underlying28 (hval 1 28 v1 rfl rfl)
  have k1 := h1
  have lt1 : ∀ x ∈ p1, x.block < W.heap.size := by obtain ⟨m, hm⟩ := k1; exact DataW.trod_lt m _ _ _ hm
  obtain ⟨l1, hl1, hw1, hn1⟩ : ∃ l : List Rw.Val, SL (Base.of W) 3 (.slice a1 len1 cap1) (l.map Rw.cV) ∧ (∀ i ∈ l, Rw.wfV i) ∧ l.length = len1 := by
    obtain ⟨fuel, hf⟩ := h1
    exact Rd.vals_of hf
  have hr1 : l1.length * 32 ≤ 140737488351232 := by
    obtain ⟨fuel, hf⟩ := h1
    have := Rd.len_reach (j := 1) hsz rfl rfl Try.underlying28 hf
    rw [show Try.prog.bytesOf 40 = 32 from by kernel_rfl] at this
    rw [hn1]; exact this
  obtain ⟨a2, len2, cap2, rfl⟩ := okWide_slice Try.underlying28 (hval 2 28 v2 rfl rfl)
  have k2 := h2
  have lt2 : ∀ x ∈ p2, x.block < W.heap.size := by obtain ⟨m, hm⟩ := k2; exact DataW.trod_lt m _ _ _ hm
  obtain ⟨l2, hl2, hw2, hn2⟩ : ∃ l : List Rw.Val, SL (Base.of W) 3 (.slice a2 len2 cap2) (l.map Rw.cV) ∧ (∀ i ∈ l, Rw.wfV i) ∧ l.length = len2 := by
    obtain ⟨fuel, hf⟩ := h2
    exact Rd.vals_of hf
  have hr2 : l2.length * 32 ≤ 140737488351232 := by
    obtain ⟨fuel, hf⟩ := h2
    have := Rd.len_reach (j := 2) hsz rfl rfl Try.underlying28 hf
    rw [show Try.prog.bytesOf 40 = 32 from by kernel_rfl] at this
    rw [hn2]; exact this
  obtain ⟨s3, rfl, rfl, rfl, w3⟩ := open_string Try.underlying9 (hval 3 9 v3 rfl rfl) h3
  clear hA0 hval0
  simp only [List.nil_append, List.append_nil] at hW'
  refine (calls_of (Rw.RowsBack (Base.of W) _ l0 _ l1 _ l2 s3 hl0 hw0 hr0 hl1 hw1 hr1 hl2 hw2 hr2 w3)).mono fun e W' ⟨he, bel⟩ => ?_
  subst he
  exact ⟨_, rfl, _, _, _, [], _, [], hW', trodAll_mk1 (shut_bool Try.underlying4 _), (trodAll_cons_mk (Below.trod laidOut (by kernel_rfl) (of_decide_eq_true (by kernel_rfl)) k0 bel lt0) (trodAll_cons_mk (Below.trod laidOut (by kernel_rfl) (of_decide_eq_true (by kernel_rfl)) k1 bel lt1) (trodAll_cons_mk (Below.trod laidOut (by kernel_rfl) (of_decide_eq_true (by kernel_rfl)) k2 bel lt2) (trodAll_cons_mk (shut_string Try.underlying9 w3) trodAll_mk0)))), rfl, bel.frame _, fun h => by cases h⟩

theorem over : Rows.rowsBackRow.holds Try.pinned (OpenSpec.ofChange Rows.rowsBackSpec) :=
  OpenClaim.holds_of_wide 6 Try.f6 rfl rfl rfl rfl rfl rfl rfl ⟨rfl, rfl, rfl, rfl, rfl⟩ rfl rfl rfl rfl rfl (by kernel_rfl) Try.func6 (by kernel_rfl)
    (of_decide_eq_true (by kernel_rfl)) (by unfold Func.isWrapper; first | (rw [if_pos (by decide +kernel)]; kernel_rfl) | (rw [if_neg (by decide +kernel)]; exact ⟨rfl, rfl⟩))
    (fun os started H enc _ => lifted os started H enc)

theorem proved : Rows.RowsBackSaid := over
#print axioms proved
end Go.Proofs.Ythdiokdaaofebaa.Pg
