/-
  Records in the document: what a kind does not use is zero; numbers behind bytes. Conditions: each theorem's own.
-/
import Derived.Test.YtkdngpiiecmpgaaGreatHc
import Derived.Test.YtkdngpiiecmpgaaGreatHd
import Derived.Test.YtkdngpiiecmpgaaGreatFr

namespace Go.Proofs.YtkdngpiiecmpgaaGreat.Rc
open Go Go.K Go.Proofs Go.Proofs.YtkdngpiiecmpgaaGreat Go.Proofs.YtkdngpiiecmpgaaGreat.Pg Go.Proofs.YtkdngpiiecmpgaaGreat.Ca Go.Proofs.YtkdngpiiecmpgaaGreat.Ra
set_option linter.unusedVariables false
set_option linter.unusedSimpArgs false
set_option maxRecDepth 10000

set_option maxHeartbeats 8000000 in
theorem RefBare (h : Base) (cs : List Value) (r : Recd) (hx : RecC h cs r) (hk18 : 1 ≤ r.kind ∧ r.kind ≤ 8) : TrV Tryz.prog 51 [.agg cs.toArray] h [] (.bool (decide (bareP r))) [] := by
  obtain ⟨hw, ad, ai, al, ay, cd, ci, cl, cy, rfl, hb, ⟨es, hi1, hi2, hi3⟩, hl4, hd2⟩ := hx.cells
  have hkk : r.kind = 1 ∨ r.kind = 2 ∨ r.kind = 3 ∨ r.kind = 4 ∨ r.kind = 8 ∨ (r.kind ≠ 1 ∧ r.kind ≠ 2 ∧ r.kind ≠ 3 ∧ r.kind ≠ 4 ∧ r.kind ≠ 8) := by omega
  refine K.enter Tryz.func51 rfl (Nat.le_of_ble_eq_true rfl) (fun F => ?_)
  simp only [List.nil_append]
  (repeat' (first | refine X.rq ?_ | (refine X.rc ?_ ?_ <;> intro hc <;> first | (exfalso; omega) | skip)))
  refine K.l_box rfl rfl rfl (fun B1 => ?_)
  unfold cR
  clear hi1 hi2 hi3 hb hl4 hd2 hx
  rcases hkk with hk | hk | hk | hk | hk | hk
  all_goals
    (repeat' (first | refine X.rq ?_ | (refine X.rc ?_ ?_ <;> intro hc <;> first | (exfalso; omega) | skip)))
  all_goals
    refine K.AT.drop ?_
    refine K.done (by first | exact Or.inl rfl | exact Or.inr rfl) rfl (by first | exact K.Base.le.refl _ | assumption) (H' := []) rfl ⟨?_, rfl, rfl⟩
    refine congrArg Value.bool (Bool.eq_iff_iff.2 ?_)
    simp only [decide_eq_true_eq, Bool.false_eq_true, false_iff, bareP_iff, hasT]
  all_goals skip
  all_goals first | omega | (simp_all; done) | (simp_all; omega)
set_option maxHeartbeats 1000000 in
theorem RefPut (h : Base) (a : Option Nat) (c : Nat) (l : List UInt8) (v : Value) (xs : List Nat) (hv : U64s h v xs) (hx : ∀ x ∈ xs, x < 18446744073709551616) (hn : xs.length ≤ 10) (hl : l.length ≤ 900000000) :
    Tr Tryz.prog 77 [bufV a l.length c, v] h [bufA 5 1 a l.length c (l.map u8)] (Gave h (l ++ xs.flatMap cu)) := by
  unfold U64s at hv
  obtain ⟨ao, ca, rfl⟩ := hv.len
  rw [List.length_map] at hv ⊢
  refine K.enter Tryz.func77 rfl (Nat.le_of_ble_eq_true rfl) (fun F => ?_)
  simp only [List.cons_append, List.nil_append]
  (repeat' (first | refine X.rq ?_ | (refine X.rc ?_ ?_ <;> intro hc <;> first | (exfalso; omega) | skip)))
  refine K.c_loop (σ := Nat × Option Nat × Nat × List UInt8) (fun s => [(0, bufV s.2.1 s.2.2.2.length s.2.2.1), (1, .slice ao xs.length ca), (5, .int .i64 s.1)]) (fun _ => h) (fun s => bufA 5 1 s.2.1 s.2.2.2.length s.2.2.1 (s.2.2.2.map u8) :: F)
    (fun s => s.1 ≤ xs.length ∧ s.2.2.2 = l ++ (xs.take s.1).flatMap cu) (fun s => xs.length - s.1) (0, a, c, l) ⟨Nat.zero_le _, by simp⟩ (by repeat (first | exact K.Sub.nil _ | refine K.Sub.cons rfl ?_)) rfl rfl ?_
  rintro ⟨j, a1, c1, l1⟩ ⟨hj, hl1⟩ KL hKL
  dsimp only at hj hl1 ⊢
  by_cases hjl : j < xs.length
  · have hx1 : xs[j]? = some xs[j] := List.getElem?_eq_getElem hjl
    have hxl := hx _ (List.getElem_mem hjl)
    generalize xs[j] = x at hx1 hxl
    have hc0 : (xs.map fun x => [n64 x])[((j : Nat) : Int).toNat]? = some [n64 x] := by rw [Int.toNat_natCast, List.getElem?_map, hx1]; rfl
    have hlen := nums_len (xs.take j)
    have hlt : (xs.take j).length ≤ 10 := by rw [List.length_take]; omega
    have hl1n : l1.length ≤ 900000100 := by rw [hl1, List.length_append]; omega
    have hcx := cu_len x
    (repeat' (first | refine X.rq ?_ | (refine X.rc ?_ ?_ <;> intro hc <;> first | (exfalso; omega) | skip)))
    refine K.s_pureE (K.p_indexL hv (Fx.und rfl) (Fx.sz rfl) rfl rfl (by omega) hc0) rfl ?_
    rintro v2 ⟨b, o, rfl, hcel⟩
    refine K.s_pure (K.p_load (Fx.agg rfl) rfl (K.Cel.up hcel.1)) rfl ?_
    (repeat' (first | refine X.rq ?_ | (refine X.rc ?_ ?_ <;> intro hc <;> first | (exfalso; omega) | skip)))
    refine K.l_call (Fx.cal rfl) rfl (RefUint h x hxl) (K.pp [] rfl) rfl ?_
    rintro u h' H' - ⟨e, a2, c2, rfl, rfl⟩
    obtain rfl := e.symm
    simp only [List.cons_append, List.nil_append]
    refine l_appBB (Fx.und rfl) (Fx.und rfl) rfl rfl (by omega) rfl (fun a3 c3 => ?_)
    (repeat' (first | refine X.rq ?_ | (refine X.rc ?_ ?_ <;> intro hc <;> first | (exfalso; omega) | skip)))
    refine K.a_round hKL (j + 1, a3, c3, l1 ++ cu x) ⟨by dsimp only; omega, ?_⟩ (by repeat (first | exact K.Sub.nil _ | refine K.Sub.cons rfl ?_)) rfl rfl (by dsimp only; omega)
    dsimp only
    rw [flat_at cu hx1, hl1, List.append_assoc]
  · obtain rfl : j = xs.length := by omega
    rw [List.take_length] at hl1
    subst hl1
    (repeat' (first | refine X.rq ?_ | (refine X.rc ?_ ?_ <;> intro hc <;> first | (exfalso; omega) | skip)))
    refine K.done (by first | exact Or.inl rfl | exact Or.inr rfl) rfl (by first | exact K.Base.le.refl _ | assumption) (H' := [bufA 5 1 a1 (l ++ xs.flatMap cu).length c1 ((l ++ xs.flatMap cu).map u8)]) rfl ⟨rfl, a1, c1, rfl, rfl⟩
/-- Numbers of the call's own. -/
theorem PutB (h : Base) (a : Option Nat) (c : Nat) (l : List UInt8) (B T : Nat) (xs : List Nat) (hx : ∀ x ∈ xs, x < 18446744073709551616) (hn : xs.length ≤ 10) (hl : l.length ≤ 900000000) :
    Tr Tryz.prog 77 [bufV a l.length c, .slice (some ⟨B, 0, none⟩) xs.length xs.length] h ([blk B T (xs.map n64)] ++ [bufA 5 1 a l.length c (l.map u8)]) (fun u h' H' => h' = h ∧ ∃ a c, u = bufV a (l ++ xs.flatMap cu).length c ∧ H' = [bufA 5 1 a (l ++ xs.flatMap cu).length c ((l ++ xs.flatMap cu).map u8)]) :=
  K.Tr.give fun h' hle hs => fun F w ok => Calls.mono (RefPut h' a c l _ xs (K.says_nums hs) hx hn hl F w ok) fun e w' ⟨u, he, h1, H1, hle, ⟨_, q2⟩, ok1⟩ => ⟨u, he, h1, H1, hle, q2, ok1⟩
theorem one_u8 {k : Nat} (hk : k < 256) : [Value.int .u8 (k : Int)] = (lebs k 1).map u8 := by
  simp [lebs, u8, UInt8.toNat_ofNat', Nat.mod_eq_of_lt hk]
end Go.Proofs.YtkdngpiiecmpgaaGreat.Rc
