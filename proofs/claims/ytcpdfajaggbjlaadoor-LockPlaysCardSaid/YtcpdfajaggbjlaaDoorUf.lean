/-
  Where nobody is in a ring all that wait hold in the end. Conditions: each theorem's own.
-/
import Derived.Test.YtcpdfajaggbjlaaDoorUe

namespace Go.Proofs.YtcpdfajaggbjlaaDoor.Lk
open Go Go.K Go.Proofs Go.Proofs.YtcpdfajaggbjlaaDoor
set_option linter.unusedVariables false
set_option linter.unusedSimpArgs false
set_option maxRecDepth 10000

structure EnS where
  hb : Base
  n : Nat
  k : Nat
  l : List PLock
structure NxS where
  i : Nat
  nx : Nat
set_option maxHeartbeats 8000000 in
theorem LockEndsW (h : Base) (v : Value) (l0 : List PAct) (hv : SL h 7 v (l0.map cA)) (hw : ∀ x ∈ l0, wfA x) (hl : l0.length ≤ 9223372036854775807) (hG : Glob h) :
    Tr Tryd.prog 5 [v] h [] (fun u h' H' => u = .bool true ∧ H' = []) := by
  have hlo := Long h v l0 hv hw hl
  refine K.enter Tryd.func5 rfl (Nat.le_of_ble_eq_true rfl) (fun F => ?_)
  simp only [List.nil_append, List.cons_append]
  (repeat' (first | refine X.rq ?_ | (refine X.rc ?_ ?_ <;> intro hc <;> first | (exfalso; omega) | skip)))
  refine K.l_call (Fx.cal rfl) rfl hlo (K.pp [] rfl) rfl ?_
  rintro u h' H' - ⟨e, b, rfl, hb, rfl⟩
  obtain rfl := e.symm
  simp only [List.nil_append, List.cons_append]
  cases b with
  | true =>
    (repeat' (first | refine X.rq ?_ | (refine X.rc ?_ ?_ <;> intro hc <;> first | (exfalso; omega) | skip)))
    refine K.l_call (Fx.cal rfl) rfl (Alive h hG) (K.pp [] rfl) rfl ?_
    rintro u h' H' hle ⟨rfl, rfl⟩
    simp only [List.nil_append, List.cons_append]
    (repeat' (first | refine X.rq ?_ | (refine X.rc ?_ ?_ <;> intro hc <;> first | (exfalso; omega) | skip)))
    refine K.done (by first | exact Or.inl rfl | exact Or.inr rfl) rfl (by first | exact K.Base.le.refl _ | assumption) (H' := []) rfl ⟨rfl, rfl⟩
  | false =>
    have hb := hb rfl
    (repeat' (first | refine X.rq ?_ | (refine X.rc ?_ ?_ <;> intro hc <;> first | (exfalso; omega) | skip)))
    refine K.l_call (Fx.cal rfl) rfl (Played h v l0 hv hw hb hG) (K.pp [] rfl) rfl ?_
    rintro u h' H' - ⟨e, BT, a, k, l, rfl, hinv, hll, rfl⟩
    obtain rfl := e.symm
    simp only [List.nil_append, List.cons_append]
    have hvi := Victim h BT a k l hinv.wf hG (by omega)
    (repeat' (first | refine X.rq ?_ | (refine X.rc ?_ ?_ <;> intro hc <;> first | (exfalso; omega) | skip)))
    refine K.l_call (Fx.cal rfl) rfl hvi (K.pp [0, 0] rfl) rfl ?_
    rintro u h1 H' hle ⟨vv, rfl, hvv, hvb, rfl⟩
    simp only [List.nil_append, List.cons_append]
    clear hvi
    simp only [List.set_cons_zero, List.set_cons_succ, List.eraseIdx_cons_zero, List.eraseIdx_cons_succ, List.cons_append, List.nil_append]
    have hG1 := hG.le hle
    by_cases h0 : vv = 0
    · subst h0
      (repeat' (first | refine X.rq ?_ | (refine X.rc ?_ ?_ <;> intro hc <;> first | (exfalso; omega) | skip)))
      all_goals first | (exfalso; simp_all; done) | skip
      refine K.c_loop (σ := EnS) (fun s => [(3, .pointer (some ⟨BT, 0, none⟩)), (4, .int .i64 s.n)]) (fun s => s.hb) (fun s => rowsA a s.k s.l :: tabB BT a s.k s.l :: F)
        (fun s => h.le s.hb ∧ Inv s.l ∧ IsVict (waitsQ s.l) 0 ∧ s.l.length + s.n ≤ 120) (fun s => 121 - s.n) ⟨h1, 0, k, l⟩ ⟨hle, hinv, hvv, by dsimp only; omega⟩ (by repeat (first | exact K.Sub.nil _ | refine K.Sub.cons rfl ?_)) rfl rfl ?_
      clear hinv hvv hll hle hG1
      rintro ⟨hb1, n, k, l⟩ ⟨hle, hinv, hvv, hln⟩ KL hKL
      dsimp only at hle hinv hvv hln ⊢
      have hG1 := hG.le hle
      have hall := AllA hb1 BT a k l (by omega)
      (repeat' (first | refine X.rq ?_ | (refine X.rc ?_ ?_ <;> intro hc <;> first | (exfalso; omega) | skip)))
      all_goals first | (exfalso; simp_all; done) | skip
      refine K.l_call (Fx.cal rfl) rfl hall (K.pp [0, 0] rfl) rfl ?_
      rintro u h' H' - ⟨e, a3, k3, rfl, rfl⟩
      obtain rfl := e.symm
      simp only [List.nil_append, List.cons_append]
      simp only [List.set_cons_zero, List.set_cons_succ, List.eraseIdx_cons_zero, List.eraseIdx_cons_succ, List.cons_append, List.nil_append]
      clear hall
      by_cases hl0 : l.length = 0
      · have hln0 := List.length_eq_zero_iff.1 hl0
        have hwai := Waits hb1 BT a k l hinv.wf hG1 (by omega)
        have hw0 : (waitsQ l).length = 0 := by rw [hln0]; decide
        (repeat' (first | refine X.rq ?_ | (refine X.rc ?_ ?_ <;> intro hc <;> first | (exfalso; omega) | skip)))
        all_goals first | (exfalso; simp_all; done) | skip
        refine K.l_call (Fx.cal rfl) rfl hwai (K.pp [0, 0] rfl) rfl ?_
        rintro u h' H' - ⟨e, a4, k4, rfl, rfl⟩
        obtain rfl := e.symm
        simp only [List.nil_append, List.cons_append]
        simp only [List.set_cons_zero, List.set_cons_succ, List.eraseIdx_cons_zero, List.eraseIdx_cons_succ, List.cons_append, List.nil_append]
        (repeat' (first | refine X.rq ?_ | (refine X.rc ?_ ?_ <;> intro hc <;> first | (exfalso; omega) | skip)))
        all_goals first | (exfalso; simp_all; done) | skip
        refine K.l_call (Fx.cal rfl) rfl (Alive hb1 hG1) (K.pp [] rfl) rfl ?_
        rintro u h' H' hle9 ⟨rfl, rfl⟩
        simp only [List.nil_append, List.cons_append]
        have hle10 := hle.trans hle9
        (repeat' (first | refine X.rq ?_ | (refine X.rc ?_ ?_ <;> intro hc <;> first | (exfalso; omega) | skip)))
        refine K.AT.sel [0, 0, 0, 0] rfl ?_
        refine K.done (by first | exact Or.inl rfl | exact Or.inr rfl) rfl (by first | exact K.Base.le.refl _ | assumption) (H' := []) rfl ⟨rfl, rfl⟩
      · have hll3 : (l.map cK).length = l.length := List.length_map ..
        refine K.WL.perm (K.pp [2] rfl) ?_
        simp only [List.set_cons_zero, List.set_cons_succ, List.eraseIdx_cons_zero, List.eraseIdx_cons_succ, List.cons_append, List.nil_append]
        rw [rowsA, ← hll3]
        refine K.WL.freezeRow (seven _) (fun h3 le3 hls _ => ?_)
        rw [hll3] at hls ⊢
        have hle3 := hle.trans le3
        have hG3 := hG.le hle3
        (repeat' (first | refine X.rq ?_ | (refine X.rc ?_ ?_ <;> intro hc <;> first | (exfalso; omega) | skip)))
        all_goals first | (exfalso; simp_all; done) | skip
        obtain ⟨al, cl, el⟩ : ∃ ao ca, bufV a3 l.length k3 = .slice ao l.length ca := ⟨_, _, rfl⟩
        rw [el] at hls ⊢
        refine K.c_loop (σ := NxS) (fun s => [(3, .pointer (some ⟨BT, 0, none⟩)), (4, .int .i64 n), (5, .slice al l.length cl), (6, .int .u32 s.nx), (7, .int .i64 s.i)]) (fun _ => h3) (fun _ => rowsA a k l :: tabB BT a k l :: F)
          (fun s => s.i ≤ l.length ∧ s.nx < 4294967296 ∧ ((∀ y ∈ l.take s.i, l.any (waitP y.txn) = true) ∨ ∃ y ∈ l, y.txn = s.nx ∧ l.any (waitP y.txn) = false)) (fun s => l.length - s.i) ⟨0, 0⟩ ⟨Nat.zero_le _, by dsimp only; omega, .inl fun y hy => by cases hy⟩ (by repeat (first | exact K.Sub.nil _ | refine K.Sub.cons rfl ?_)) rfl rfl ?_
        rintro ⟨i, nx⟩ ⟨hi, hnb, hnx⟩ KM hKM
        dsimp only at hi hnb hnx ⊢
        by_cases hil : i < l.length
        · have hx1 : l[i]? = some l[i] := List.getElem?_eq_getElem hil
          have htk : l.take (i + 1) = l.take i ++ [l[i]] := List.take_succ_eq_append_getElem hil
          have hmem : l[i] ∈ l := List.getElem_mem hil
          generalize l[i] = x at hx1 htk hmem
          have hwx := (hinv.wf x hmem).txn
          have hc0 : (l.map cK)[i]? = some (cK x) := by rw [List.getElem?_map, hx1]; rfl
          obtain ⟨bb, oo, rfl, hcx⟩ := hls.at hc0
          have hwt := Waiting h3 _ l x.txn hls (by omega)
          (repeat' (first | refine X.rq ?_ | (refine X.rc ?_ ?_ <;> intro hc <;> first | (exfalso; omega) | skip)))
          refine K.s_pure (K.p_load (v := .int .u32 x.txn) (Fx.agg rfl) rfl (Cels.up hcx).1) rfl ?_
          (repeat' (first | refine X.rq ?_ | (refine X.rc ?_ ?_ <;> intro hc <;> first | (exfalso; omega) | skip)))
          refine K.l_callV (Fx.cal rfl) rfl hwt (K.pp [] rfl) rfl rfl ?_
          simp only [List.nil_append]
          cases hwq : l.any (waitP x.txn) with
          | true =>
            (repeat' (first | refine X.rq ?_ | (refine X.rc ?_ ?_ <;> intro hc <;> first | (exfalso; omega) | skip)))
            refine K.a_round hKM ⟨i + 1, nx⟩ ⟨by dsimp only; omega, hnb, ?_⟩ (by repeat (first | exact K.Sub.nil _ | refine K.Sub.cons rfl ?_)) rfl rfl (by dsimp only; omega)
            dsimp only
            rcases hnx with h5 | h5
            · refine .inl fun y hy => ?_
              rw [htk] at hy
              rcases List.mem_append.1 hy with hy | hy
              · exact h5 y hy
              · rw [List.mem_singleton.1 hy]; exact hwq
            · exact .inr h5
          | false =>
            (repeat' (first | refine X.rq ?_ | (refine X.rc ?_ ?_ <;> intro hc <;> first | (exfalso; omega) | skip)))
            refine K.s_pure (K.p_load (v := .int .u32 x.txn) (Fx.agg rfl) rfl (Cels.up hcx).1) rfl ?_
            (repeat' (first | refine X.rq ?_ | (refine X.rc ?_ ?_ <;> intro hc <;> first | (exfalso; omega) | skip)))
            refine K.a_round hKM ⟨i + 1, x.txn⟩ ⟨by dsimp only; omega, hwx, .inr ⟨x, hmem, rfl, hwq⟩⟩ (by repeat (first | exact K.Sub.nil _ | refine K.Sub.cons rfl ?_)) rfl rfl (by dsimp only; omega)
        · obtain rfl : i = l.length := by omega
          rw [List.take_length] at hnx
          obtain ⟨y, hy, rfl, hyw⟩ : ∃ y ∈ l, y.txn = nx ∧ l.any (waitP y.txn) = false := by
            rcases hnx with h5 | h5
            · obtain ⟨z, hz, h6⟩ := free_one hinv hvv (fun e => hl0 (by rw [e]; rfl))
              rw [h5 z hz] at h6
              cases h6
            · exact h5
          have hy0 := (hinv.may y hy).2
          have hvi := Victim h3 BT a k l hinv.wf hG3 (by omega)
          (repeat' (first | refine X.rq ?_ | (refine X.rc ?_ ?_ <;> intro hc <;> first | (exfalso; omega) | skip)))
          all_goals first | (exfalso; simp_all; done) | skip
          refine K.l_call (Fx.cal rfl) rfl hvi (K.pp [0, 0] rfl) rfl ?_
          rintro u h4 H' hle4 ⟨v2, rfl, hv2, hvb2, rfl⟩
          simp only [List.nil_append, List.cons_append]
          clear hvi
          simp only [List.set_cons_zero, List.set_cons_succ, List.eraseIdx_cons_zero, List.eraseIdx_cons_succ, List.cons_append, List.nil_append]
          obtain rfl : v2 = 0 := hv2.uniq hvv
          have hle5 := hle3.trans hle4
          have hrel := Release h4 BT a k l y.txn hinv.wf (hG.le hle5) (by omega)
          have hri := release_inv hinv y.txn
          have hrv := rel_none hinv y.txn hvv
          have hrl := rel_less hy rfl
          (repeat' (first | refine X.rq ?_ | (refine X.rc ?_ ?_ <;> intro hc <;> first | (exfalso; omega) | skip)))
          all_goals first | (exfalso; simp_all; done) | skip
          refine K.l_call (Fx.cal rfl) rfl hrel (K.pp [0, 0] rfl) rfl ?_
          rintro u h' H' - ⟨e, a6, k6, rfl, rfl⟩
          obtain rfl := e.symm
          simp only [List.nil_append, List.cons_append]
          simp only [List.set_cons_zero, List.set_cons_succ, List.eraseIdx_cons_zero, List.eraseIdx_cons_succ, List.cons_append, List.nil_append]
          (repeat' (first | refine X.rq ?_ | (refine X.rc ?_ ?_ <;> intro hc <;> first | (exfalso; omega) | skip)))
          refine K.AT.sel [2] rfl ?_
          refine K.a_round hKL ⟨_, n + 1, k, (releaseQ l y.txn).1⟩ ⟨hle5, hri, hrv, by dsimp only; omega⟩ (by repeat (first | exact K.Sub.nil _ | refine K.Sub.cons rfl ?_)) rfl rfl (by dsimp only; omega)
    · have hr2 := ring_two (hvv.ring.elim (fun e => absurd e h0) id)
      have hwai := Waits h1 BT a k l hinv.wf hG1 (by omega)
      (repeat' (first | refine X.rq ?_ | (refine X.rc ?_ ?_ <;> intro hc <;> first | (exfalso; omega) | skip)))
      all_goals first | (exfalso; simp_all; done) | skip
      refine K.l_call (Fx.cal rfl) rfl hwai (K.pp [0, 0] rfl) rfl ?_
      rintro u h' H' - ⟨e, a4, k4, rfl, rfl⟩
      obtain rfl := e.symm
      simp only [List.nil_append, List.cons_append]
      simp only [List.set_cons_zero, List.set_cons_succ, List.eraseIdx_cons_zero, List.eraseIdx_cons_succ, List.cons_append, List.nil_append]
      (repeat' (first | refine X.rq ?_ | (refine X.rc ?_ ?_ <;> intro hc <;> first | (exfalso; omega) | skip)))
      all_goals first | (exfalso; simp_all; done) | skip
      refine K.l_call (Fx.cal rfl) rfl (Alive h1 hG1) (K.pp [] rfl) rfl ?_
      rintro u h' H' hle9 ⟨rfl, rfl⟩
      simp only [List.nil_append, List.cons_append]
      have hle10 := hle.trans hle9
      (repeat' (first | refine X.rq ?_ | (refine X.rc ?_ ?_ <;> intro hc <;> first | (exfalso; omega) | skip)))
      refine K.AT.sel [0, 0, 0] rfl ?_
      refine K.done (by first | exact Or.inl rfl | exact Or.inr rfl) rfl (by first | exact K.Base.le.refl _ | assumption) (H' := []) rfl ⟨rfl, rfl⟩
end Go.Proofs.YtcpdfajaggbjlaaDoor.Lk
