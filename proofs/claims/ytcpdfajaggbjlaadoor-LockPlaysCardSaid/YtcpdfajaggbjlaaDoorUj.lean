/-
  Rising pairs, and one more in its place; who waits for whom: the document's. Conditions: each theorem's own.
-/
import Derived.Test.YtcpdfajaggbjlaaDoorUa
import Derived.Test.YtcpdfajaggbjlaaDoorUh

namespace Go.Proofs.YtcpdfajaggbjlaaDoor.Lk
open Go Go.K Go.Proofs Go.Proofs.YtcpdfajaggbjlaaDoor
set_option linter.unusedVariables false
set_option linter.unusedSimpArgs false
set_option maxRecDepth 10000

theorem ins_old {x : PW} : ∀ {p : List PW}, p.Pairwise ltW → x ∈ p → insW x p = p
  | y :: r, hp, hx => by
    obtain ⟨h1, h2⟩ := List.pairwise_cons.1 hp
    unfold insW
    by_cases e : x = y
    · rw [if_pos e]
    · rw [if_neg e]
      have hr : x ∈ r := (List.mem_cons.1 hx).resolve_left e
      rw [if_neg (fun h3 => ltW_irr x (ltW_trans h3 (h1 x hr))), ins_old h2 hr]
theorem ins_at {x : PW} : ∀ {p : List PW} {n : Nat}, n ≤ p.length → (∀ y ∈ p.take n, ltW y x) → (∀ y ∈ p.drop n, ltW x y) → insW x p = p.take n ++ x :: p.drop n
  | [], n, hn, _, _ => by
    obtain rfl : n = 0 := Nat.le_zero.1 hn
    rfl
  | y :: r, 0, _, _, h2 => by
    have h3 := h2 y List.mem_cons_self
    unfold insW
    rw [if_neg (fun e => ltW_irr x (by rw [← e] at h3; exact h3)), if_pos h3]
    rfl
  | y :: r, n + 1, hn, h1, h2 => by
    have h3 := h1 y List.mem_cons_self
    unfold insW
    rw [if_neg (fun e => ltW_irr y (by rw [e] at h3; exact h3)), if_neg (fun h4 => ltW_irr x (ltW_trans h4 h3)), ins_at (Nat.le_of_succ_le_succ hn) (fun z hz => h1 z (List.mem_cons_of_mem _ hz)) h2]
    rfl
structure WiS where
  i : Nat
  n : Nat
set_option maxHeartbeats 8000000 in
theorem With (h : Base) (v : Value) (p : List PW) (x : PW) (hv : SL h 2 v (p.map cW)) (hp : p.Pairwise ltW) (hl : p.length ≤ 999998000001) :
    Tr Tryd.prog 38 [v, .agg (cW x).toArray] h [] (fun u h' H' => SL h' 2 u ((insW x p).map cW) ∧ H' = []) := by
  have hv0 := hv
  have hlen : (p.map cW).length = p.length := List.length_map ..
  obtain ⟨ao, ca, rfl⟩ := hv.len
  rw [hlen] at hv hv0 ⊢
  refine K.enter Tryd.func38 rfl (Nat.le_of_ble_eq_true rfl) (fun F => ?_)
  simp only [List.nil_append, List.cons_append]
  (repeat' (first | refine X.rq ?_ | (refine X.rc ?_ ?_ <;> intro hc <;> first | (exfalso; omega) | skip)))
  refine K.l_box rfl rfl rfl (fun B3 => ?_)
  (repeat' (first | refine X.rq ?_ | (refine X.rc ?_ ?_ <;> intro hc <;> first | (exfalso; omega) | skip)))
  refine K.c_loop (σ := WiS) (fun s => [(0, .slice ao p.length ca), (3, .pointer (some ⟨B3, 0, none⟩)), (5, .int .i64 s.n), (6, .int .i64 s.i)]) (fun _ => h) (fun _ => blk B3 47 (cW x) :: F)
    (fun s => s.i ≤ p.length ∧ s.n ≤ s.i ∧ (∀ y ∈ p.take s.n, ltW y x) ∧ ∀ k y, s.n ≤ k → k < s.i → p[k]? = some y → ltW x y) (fun s => p.length - s.i) ⟨0, 0⟩ ⟨Nat.zero_le _, Nat.le_refl _, (fun y hy => by cases hy), fun k y h1 h2 => by dsimp only at h2; omega⟩ (by repeat (first | exact K.Sub.nil _ | refine K.Sub.cons rfl ?_)) rfl rfl ?_
  rintro ⟨i, n⟩ ⟨hi, hn, hlo, hhi⟩ KL hKL
  dsimp only at hi hn hlo hhi ⊢
  by_cases hil : i < p.length
  · have hx1 : p[i]? = some p[i] := List.getElem?_eq_getElem hil
    have hmem : p[i] ∈ p := List.getElem_mem hil
    have hbef : ∀ y ∈ p.take i, ltW y p[i] := fun y hy => by
      obtain ⟨k, hk⟩ := List.mem_iff_getElem?.1 hy
      rw [List.getElem?_take] at hk
      split at hk
      · obtain ⟨k1, rfl⟩ := List.getElem?_eq_some_iff.1 hk
        exact List.pairwise_iff_getElem.1 hp k i k1 hil (by omega)
      · cases hk
    generalize p[i] = y at hx1 hmem hbef
    have hc0 : (p.map cW)[i]? = some (cW y) := by rw [List.getElem?_map, hx1]; rfl
    obtain ⟨bb, oo, rfl, hcp⟩ := hv.at hc0
    (repeat' (first | refine X.rq ?_ | (refine X.rc ?_ ?_ <;> intro hc <;> first | (exfalso; omega) | skip)))
    refine X.draw ([blk B3 47 (cW x)]) [] (.pu 0 (.pu 1 (.pu 2 (.st 3 (.st 4 (.pu 5 .nil)))))) ?_ (hQ := by repeat (first | with_reducible refine K.NoPanic.then ?_ | with_reducible refine K.NoPanic.inBlock ?_ | with_reducible exact K.post_noPanic _ _ | exact K.post_noPanic _ _))
    refine K.d_pu rfl (fun _ _ => X.mv) rfl ?_
    refine K.d_pu rfl (fun _ _ => X.mv) rfl ?_
    refine K.d_pu rfl (fun _ _ => X.ia) rfl ?_
    refine K.d_st rfl (K.p_loadN (vs := cW y) (Fx.agg rfl) (Fx.sz rfl) rfl (Cels.up hcp)) rfl ?_
    refine K.d_st rfl (K.p_loadN (vs := cW x) (Fx.agg rfl) (Fx.sz rfl) rfl (K.cels_own (pre := []) (post := []) 0 rfl rfl)) rfl ?_
    refine K.d_pu rfl (fun _ _ => eqP y x rfl rfl) rfl ?_
    refine K.d_nil ?_
    by_cases hxy : y = x
    · subst hxy
      rw [decide_eq_true rfl]
      (repeat' (first | refine X.rq ?_ | (refine X.rc ?_ ?_ <;> intro hc <;> first | (exfalso; omega) | skip)))
      refine K.AT.sel [0] rfl ?_
      refine K.done (by first | exact Or.inl rfl | exact Or.inr rfl) rfl (by first | exact K.Base.le.refl _ | assumption) (H' := []) rfl ⟨by rw [ins_old hp hmem]; exact hv0, rfl⟩
    · rw [decide_eq_false hxy]
      (repeat' (first | refine X.rq ?_ | (refine X.rc ?_ ?_ <;> intro hc <;> first | (exfalso; omega) | skip)))
      by_cases h1 : y.1 < x.1
      · have hlt : ltW y x := .inl h1
        have d1 : decide ((y.1 : Int) < (x.1 : Int)) = true := decide_eq_true (by omega)
        refine X.draw ([blk B3 47 (cW x)]) [] (.pu 0 (.pu 1 (.pu 2 (.pu 3 (.pu 5 (.st 4 (.st 6 (.pu 7 (.pu 8 (.pu 9 (.pu 10 (.pu 11 (.pu 12 (.pu 14 (.st 13 (.st 15 (.pu 16 (.pu 17 (.pu 18 (.pu 19 (.pu 20 (.pu 21 (.pu 23 (.st 22 (.st 24 (.pu 25 (.pu 26 (.pu 27 .nil)))))))))))))))))))))))))))) ?_ (hQ := by repeat (first | with_reducible refine K.NoPanic.then ?_ | with_reducible refine K.NoPanic.inBlock ?_ | with_reducible exact K.post_noPanic _ _ | exact K.post_noPanic _ _))
        refine K.d_pu rfl (fun _ _ => X.mv) rfl ?_
        refine K.d_pu rfl (fun _ _ => X.mv) rfl ?_
        refine K.d_pu rfl (fun _ _ => X.ia) rfl ?_
        refine K.d_pu rfl (fun _ _ => X.ia) rfl ?_
        refine K.d_pu rfl (fun _ _ => X.ia) rfl ?_
        refine K.d_st rfl (K.p_load (v := .int .u32 y.1) (Fx.agg rfl) rfl (Cels.up hcp).1) rfl ?_
        refine K.d_st rfl (K.p_load (v := .int .u32 x.1) (Fx.agg rfl) rfl (K.cel_own 0 rfl rfl)) rfl ?_
        refine K.d_pu rfl (fun _ _ => X.blss) rfl ?_
        rw [d1]
        refine K.d_pu rfl (fun _ _ => X.mv) rfl ?_
        first | refine K.d_skip rfl rfl rfl rfl ?_ | refine K.d_skipU rfl rfl rfl rfl rfl ?_ | refine K.d_puG rfl rfl rfl (fun _ _ => X.mv) rfl ?_
        first | refine K.d_skip rfl rfl rfl rfl ?_ | refine K.d_skipU rfl rfl rfl rfl rfl ?_ | refine K.d_puG rfl rfl rfl (fun _ _ => X.mv) rfl ?_
        first | refine K.d_skip rfl rfl rfl rfl ?_ | refine K.d_skipU rfl rfl rfl rfl rfl ?_ | refine K.d_puG rfl rfl rfl (fun _ _ => X.ia) rfl ?_
        first | refine K.d_skip rfl rfl rfl rfl ?_ | refine K.d_skipU rfl rfl rfl rfl rfl ?_ | refine K.d_puG rfl rfl rfl (fun _ _ => X.ia) rfl ?_
        first | refine K.d_skip rfl rfl rfl rfl ?_ | refine K.d_skipU rfl rfl rfl rfl rfl ?_ | refine K.d_puG rfl rfl rfl (fun _ _ => X.ia) rfl ?_
        first | refine K.d_skipS rfl rfl rfl rfl ?_ | refine K.d_skipUS rfl rfl rfl rfl rfl ?_ | refine K.d_stG rfl rfl rfl X.ld rfl ?_
        first | refine K.d_skipS rfl rfl rfl rfl ?_ | refine K.d_skipUS rfl rfl rfl rfl rfl ?_ | refine K.d_stG rfl rfl rfl X.ld rfl ?_
        first | refine K.d_skip rfl rfl rfl rfl ?_ | refine K.d_skipU rfl rfl rfl rfl rfl ?_ | refine K.d_puG rfl rfl rfl (fun _ _ => X.beql) rfl ?_
        first | refine K.d_skip rfl rfl rfl rfl ?_ | refine K.d_skipU rfl rfl rfl rfl rfl ?_ | refine K.d_puG rfl rfl rfl (fun _ _ => X.mv) rfl ?_
        first | refine K.d_skip rfl rfl rfl rfl ?_ | refine K.d_skipU rfl rfl rfl rfl rfl ?_ | refine K.d_puG rfl rfl rfl (fun _ _ => X.mv) rfl ?_
        first | refine K.d_skip rfl rfl rfl rfl ?_ | refine K.d_skipU rfl rfl rfl rfl rfl ?_ | refine K.d_puG rfl rfl rfl (fun _ _ => X.mv) rfl ?_
        first | refine K.d_skip rfl rfl rfl rfl ?_ | refine K.d_skipU rfl rfl rfl rfl rfl ?_ | refine K.d_puG rfl rfl rfl (fun _ _ => X.ia) rfl ?_
        first | refine K.d_skip rfl rfl rfl rfl ?_ | refine K.d_skipU rfl rfl rfl rfl rfl ?_ | refine K.d_puG rfl rfl rfl (fun _ _ => X.ia) rfl ?_
        first | refine K.d_skip rfl rfl rfl rfl ?_ | refine K.d_skipU rfl rfl rfl rfl rfl ?_ | refine K.d_puG rfl rfl rfl (fun _ _ => X.ia) rfl ?_
        first | refine K.d_skipS rfl rfl rfl rfl ?_ | refine K.d_skipUS rfl rfl rfl rfl rfl ?_ | refine K.d_stG rfl rfl rfl X.ld rfl ?_
        first | refine K.d_skipS rfl rfl rfl rfl ?_ | refine K.d_skipUS rfl rfl rfl rfl rfl ?_ | refine K.d_stG rfl rfl rfl X.ld rfl ?_
        first | refine K.d_skip rfl rfl rfl rfl ?_ | refine K.d_skipU rfl rfl rfl rfl rfl ?_ | refine K.d_puG rfl rfl rfl (fun _ _ => X.blss) rfl ?_
        first | refine K.d_skip rfl rfl rfl rfl ?_ | refine K.d_skipU rfl rfl rfl rfl rfl ?_ | refine K.d_puG rfl rfl rfl (fun _ _ => X.pk) rfl ?_
        refine K.d_pu rfl (fun _ _ => X.pk) rfl ?_
        refine K.d_nil ?_
        (repeat' (first | refine X.rq ?_ | (refine X.rc ?_ ?_ <;> intro hc <;> first | (exfalso; omega) | skip)))
        refine K.a_round hKL ⟨i + 1, i + 1⟩ ⟨by dsimp only; omega, Nat.le_refl _, ?_, fun k z h1 h2 => by dsimp only at h1 h2; omega⟩ (by repeat (first | exact K.Sub.nil _ | refine K.Sub.cons rfl ?_)) rfl rfl (by dsimp only; omega)
        dsimp only
        intro z hz
        rw [take_atW hx1] at hz
        rcases List.mem_append.1 hz with hz | hz
        · exact ltW_trans (hbef z hz) hlt
        · rw [List.mem_singleton.1 hz]; exact hlt
      · have d1 : decide ((y.1 : Int) < (x.1 : Int)) = false := decide_eq_false (by omega)
        by_cases h2 : y.1 = x.1
        · have d2 : decide ((y.1 : Int) = (x.1 : Int)) = true := decide_eq_true (by omega)
          by_cases h3 : y.2 < x.2
          · have hlt : ltW y x := .inr ⟨h2, h3⟩
            have d3 : decide ((y.2 : Int) < (x.2 : Int)) = true := decide_eq_true (by omega)
            refine X.draw ([blk B3 47 (cW x)]) [] (.pu 0 (.pu 1 (.pu 2 (.pu 3 (.pu 5 (.st 4 (.st 6 (.pu 7 (.pu 8 (.pu 9 (.pu 10 (.pu 11 (.pu 12 (.pu 14 (.st 13 (.st 15 (.pu 16 (.pu 17 (.pu 18 (.pu 19 (.pu 20 (.pu 21 (.pu 23 (.st 22 (.st 24 (.pu 25 (.pu 26 (.pu 27 .nil)))))))))))))))))))))))))))) ?_ (hQ := by repeat (first | with_reducible refine K.NoPanic.then ?_ | with_reducible refine K.NoPanic.inBlock ?_ | with_reducible exact K.post_noPanic _ _ | exact K.post_noPanic _ _))
            refine K.d_pu rfl (fun _ _ => X.mv) rfl ?_
            refine K.d_pu rfl (fun _ _ => X.mv) rfl ?_
            refine K.d_pu rfl (fun _ _ => X.ia) rfl ?_
            refine K.d_pu rfl (fun _ _ => X.ia) rfl ?_
            refine K.d_pu rfl (fun _ _ => X.ia) rfl ?_
            refine K.d_st rfl (K.p_load (v := .int .u32 y.1) (Fx.agg rfl) rfl (Cels.up hcp).1) rfl ?_
            refine K.d_st rfl (K.p_load (v := .int .u32 x.1) (Fx.agg rfl) rfl (K.cel_own 0 rfl rfl)) rfl ?_
            refine K.d_pu rfl (fun _ _ => X.blss) rfl ?_
            rw [d1]
            refine K.d_pu rfl (fun _ _ => X.mv) rfl ?_
            first | refine K.d_skip rfl rfl rfl rfl ?_ | refine K.d_skipU rfl rfl rfl rfl rfl ?_ | refine K.d_puG rfl rfl rfl (fun _ _ => X.mv) rfl ?_
            first | refine K.d_skip rfl rfl rfl rfl ?_ | refine K.d_skipU rfl rfl rfl rfl rfl ?_ | refine K.d_puG rfl rfl rfl (fun _ _ => X.mv) rfl ?_
            first | refine K.d_skip rfl rfl rfl rfl ?_ | refine K.d_skipU rfl rfl rfl rfl rfl ?_ | refine K.d_puG rfl rfl rfl (fun _ _ => X.ia) rfl ?_
            first | refine K.d_skip rfl rfl rfl rfl ?_ | refine K.d_skipU rfl rfl rfl rfl rfl ?_ | refine K.d_puG rfl rfl rfl (fun _ _ => X.ia) rfl ?_
            first | refine K.d_skip rfl rfl rfl rfl ?_ | refine K.d_skipU rfl rfl rfl rfl rfl ?_ | refine K.d_puG rfl rfl rfl (fun _ _ => X.ia) rfl ?_
            refine K.d_stG rfl rfl rfl (K.p_load (v := .int .u32 y.1) (Fx.agg rfl) rfl (Cels.up hcp).1) rfl ?_
            refine K.d_stG rfl rfl rfl (K.p_load (v := .int .u32 x.1) (Fx.agg rfl) rfl (K.cel_own 0 rfl rfl)) rfl ?_
            first | refine K.d_skip rfl rfl rfl rfl ?_ | refine K.d_skipU rfl rfl rfl rfl rfl ?_ | refine K.d_puG rfl rfl rfl (fun _ _ => X.beql) rfl ?_
            rw [d2]
            first | refine K.d_skip rfl rfl rfl rfl ?_ | refine K.d_skipU rfl rfl rfl rfl rfl ?_ | refine K.d_puG rfl rfl rfl (fun _ _ => X.mv) rfl ?_
            first | refine K.d_skip rfl rfl rfl rfl ?_ | refine K.d_skipU rfl rfl rfl rfl rfl ?_ | refine K.d_puG rfl rfl rfl (fun _ _ => X.mv) rfl ?_
            first | refine K.d_skip rfl rfl rfl rfl ?_ | refine K.d_skipU rfl rfl rfl rfl rfl ?_ | refine K.d_puG rfl rfl rfl (fun _ _ => X.mv) rfl ?_
            first | refine K.d_skip rfl rfl rfl rfl ?_ | refine K.d_skipU rfl rfl rfl rfl rfl ?_ | refine K.d_puG rfl rfl rfl (fun _ _ => X.ia) rfl ?_
            first | refine K.d_skip rfl rfl rfl rfl ?_ | refine K.d_skipU rfl rfl rfl rfl rfl ?_ | refine K.d_puG rfl rfl rfl (fun _ _ => X.ia) rfl ?_
            first | refine K.d_skip rfl rfl rfl rfl ?_ | refine K.d_skipU rfl rfl rfl rfl rfl ?_ | refine K.d_puG rfl rfl rfl (fun _ _ => X.ia) rfl ?_
            refine K.d_stG rfl rfl rfl (K.p_load (v := .int .u32 y.2) (Fx.agg rfl) rfl (Cels.up hcp).2.1) rfl ?_
            refine K.d_stG rfl rfl rfl (K.p_load (v := .int .u32 x.2) (Fx.agg rfl) rfl (K.cel_own 0 rfl rfl)) rfl ?_
            first | refine K.d_skip rfl rfl rfl rfl ?_ | refine K.d_skipU rfl rfl rfl rfl rfl ?_ | refine K.d_puG rfl rfl rfl (fun _ _ => X.blss) rfl ?_
            rw [d3]
            first | refine K.d_skip rfl rfl rfl rfl ?_ | refine K.d_skipU rfl rfl rfl rfl rfl ?_ | refine K.d_puG rfl rfl rfl (fun _ _ => X.pk) rfl ?_
            refine K.d_pu rfl (fun _ _ => X.pk) rfl ?_
            refine K.d_nil ?_
            (repeat' (first | refine X.rq ?_ | (refine X.rc ?_ ?_ <;> intro hc <;> first | (exfalso; omega) | skip)))
            refine K.a_round hKL ⟨i + 1, i + 1⟩ ⟨by dsimp only; omega, Nat.le_refl _, ?_, fun k z h1 h2 => by dsimp only at h1 h2; omega⟩ (by repeat (first | exact K.Sub.nil _ | refine K.Sub.cons rfl ?_)) rfl rfl (by dsimp only; omega)
            dsimp only
            intro z hz
            rw [take_atW hx1] at hz
            rcases List.mem_append.1 hz with hz | hz
            · exact ltW_trans (hbef z hz) hlt
            · rw [List.mem_singleton.1 hz]; exact hlt
          · have hlt : ltW x y := ltW_tot (fun e => by unfold ltW at e; omega) hxy
            have d3 : decide ((y.2 : Int) < (x.2 : Int)) = false := decide_eq_false (by omega)
            refine X.draw ([blk B3 47 (cW x)]) [] (.pu 0 (.pu 1 (.pu 2 (.pu 3 (.pu 5 (.st 4 (.st 6 (.pu 7 (.pu 8 (.pu 9 (.pu 10 (.pu 11 (.pu 12 (.pu 14 (.st 13 (.st 15 (.pu 16 (.pu 17 (.pu 18 (.pu 19 (.pu 20 (.pu 21 (.pu 23 (.st 22 (.st 24 (.pu 25 (.pu 26 (.pu 27 .nil)))))))))))))))))))))))))))) ?_ (hQ := by repeat (first | with_reducible refine K.NoPanic.then ?_ | with_reducible refine K.NoPanic.inBlock ?_ | with_reducible exact K.post_noPanic _ _ | exact K.post_noPanic _ _))
            refine K.d_pu rfl (fun _ _ => X.mv) rfl ?_
            refine K.d_pu rfl (fun _ _ => X.mv) rfl ?_
            refine K.d_pu rfl (fun _ _ => X.ia) rfl ?_
            refine K.d_pu rfl (fun _ _ => X.ia) rfl ?_
            refine K.d_pu rfl (fun _ _ => X.ia) rfl ?_
            refine K.d_st rfl (K.p_load (v := .int .u32 y.1) (Fx.agg rfl) rfl (Cels.up hcp).1) rfl ?_
            refine K.d_st rfl (K.p_load (v := .int .u32 x.1) (Fx.agg rfl) rfl (K.cel_own 0 rfl rfl)) rfl ?_
            refine K.d_pu rfl (fun _ _ => X.blss) rfl ?_
            rw [d1]
            refine K.d_pu rfl (fun _ _ => X.mv) rfl ?_
            first | refine K.d_skip rfl rfl rfl rfl ?_ | refine K.d_skipU rfl rfl rfl rfl rfl ?_ | refine K.d_puG rfl rfl rfl (fun _ _ => X.mv) rfl ?_
            first | refine K.d_skip rfl rfl rfl rfl ?_ | refine K.d_skipU rfl rfl rfl rfl rfl ?_ | refine K.d_puG rfl rfl rfl (fun _ _ => X.mv) rfl ?_
            first | refine K.d_skip rfl rfl rfl rfl ?_ | refine K.d_skipU rfl rfl rfl rfl rfl ?_ | refine K.d_puG rfl rfl rfl (fun _ _ => X.ia) rfl ?_
            first | refine K.d_skip rfl rfl rfl rfl ?_ | refine K.d_skipU rfl rfl rfl rfl rfl ?_ | refine K.d_puG rfl rfl rfl (fun _ _ => X.ia) rfl ?_
            first | refine K.d_skip rfl rfl rfl rfl ?_ | refine K.d_skipU rfl rfl rfl rfl rfl ?_ | refine K.d_puG rfl rfl rfl (fun _ _ => X.ia) rfl ?_
            refine K.d_stG rfl rfl rfl (K.p_load (v := .int .u32 y.1) (Fx.agg rfl) rfl (Cels.up hcp).1) rfl ?_
            refine K.d_stG rfl rfl rfl (K.p_load (v := .int .u32 x.1) (Fx.agg rfl) rfl (K.cel_own 0 rfl rfl)) rfl ?_
            first | refine K.d_skip rfl rfl rfl rfl ?_ | refine K.d_skipU rfl rfl rfl rfl rfl ?_ | refine K.d_puG rfl rfl rfl (fun _ _ => X.beql) rfl ?_
            rw [d2]
            first | refine K.d_skip rfl rfl rfl rfl ?_ | refine K.d_skipU rfl rfl rfl rfl rfl ?_ | refine K.d_puG rfl rfl rfl (fun _ _ => X.mv) rfl ?_
            first | refine K.d_skip rfl rfl rfl rfl ?_ | refine K.d_skipU rfl rfl rfl rfl rfl ?_ | refine K.d_puG rfl rfl rfl (fun _ _ => X.mv) rfl ?_
            first | refine K.d_skip rfl rfl rfl rfl ?_ | refine K.d_skipU rfl rfl rfl rfl rfl ?_ | refine K.d_puG rfl rfl rfl (fun _ _ => X.mv) rfl ?_
            first | refine K.d_skip rfl rfl rfl rfl ?_ | refine K.d_skipU rfl rfl rfl rfl rfl ?_ | refine K.d_puG rfl rfl rfl (fun _ _ => X.ia) rfl ?_
            first | refine K.d_skip rfl rfl rfl rfl ?_ | refine K.d_skipU rfl rfl rfl rfl rfl ?_ | refine K.d_puG rfl rfl rfl (fun _ _ => X.ia) rfl ?_
            first | refine K.d_skip rfl rfl rfl rfl ?_ | refine K.d_skipU rfl rfl rfl rfl rfl ?_ | refine K.d_puG rfl rfl rfl (fun _ _ => X.ia) rfl ?_
            refine K.d_stG rfl rfl rfl (K.p_load (v := .int .u32 y.2) (Fx.agg rfl) rfl (Cels.up hcp).2.1) rfl ?_
            refine K.d_stG rfl rfl rfl (K.p_load (v := .int .u32 x.2) (Fx.agg rfl) rfl (K.cel_own 0 rfl rfl)) rfl ?_
            first | refine K.d_skip rfl rfl rfl rfl ?_ | refine K.d_skipU rfl rfl rfl rfl rfl ?_ | refine K.d_puG rfl rfl rfl (fun _ _ => X.blss) rfl ?_
            rw [d3]
            first | refine K.d_skip rfl rfl rfl rfl ?_ | refine K.d_skipU rfl rfl rfl rfl rfl ?_ | refine K.d_puG rfl rfl rfl (fun _ _ => X.pk) rfl ?_
            refine K.d_pu rfl (fun _ _ => X.pk) rfl ?_
            refine K.d_nil ?_
            (repeat' (first | refine X.rq ?_ | (refine X.rc ?_ ?_ <;> intro hc <;> first | (exfalso; omega) | skip)))
            refine K.a_round hKL ⟨i + 1, n⟩ ⟨by dsimp only; omega, by dsimp only; omega, hlo, fun k z h1 h2 h3 => ?_⟩ (by repeat (first | exact K.Sub.nil _ | refine K.Sub.cons rfl ?_)) rfl rfl (by dsimp only; omega)
            dsimp only at h1 h2
            by_cases hki : k = i
            · rw [hki, hx1] at h3
              cases h3
              exact hlt
            · exact hhi k z h1 (by omega) h3
        · have hlt : ltW x y := ltW_tot (fun e => by unfold ltW at e; omega) hxy
          have d2 : decide ((y.1 : Int) = (x.1 : Int)) = false := decide_eq_false (by omega)
          refine X.draw ([blk B3 47 (cW x)]) [] (.pu 0 (.pu 1 (.pu 2 (.pu 3 (.pu 5 (.st 4 (.st 6 (.pu 7 (.pu 8 (.pu 9 (.pu 10 (.pu 11 (.pu 12 (.pu 14 (.st 13 (.st 15 (.pu 16 (.pu 17 (.pu 18 (.pu 19 (.pu 20 (.pu 21 (.pu 23 (.st 22 (.st 24 (.pu 25 (.pu 26 (.pu 27 .nil)))))))))))))))))))))))))))) ?_ (hQ := by repeat (first | with_reducible refine K.NoPanic.then ?_ | with_reducible refine K.NoPanic.inBlock ?_ | with_reducible exact K.post_noPanic _ _ | exact K.post_noPanic _ _))
          refine K.d_pu rfl (fun _ _ => X.mv) rfl ?_
          refine K.d_pu rfl (fun _ _ => X.mv) rfl ?_
          refine K.d_pu rfl (fun _ _ => X.ia) rfl ?_
          refine K.d_pu rfl (fun _ _ => X.ia) rfl ?_
          refine K.d_pu rfl (fun _ _ => X.ia) rfl ?_
          refine K.d_st rfl (K.p_load (v := .int .u32 y.1) (Fx.agg rfl) rfl (Cels.up hcp).1) rfl ?_
          refine K.d_st rfl (K.p_load (v := .int .u32 x.1) (Fx.agg rfl) rfl (K.cel_own 0 rfl rfl)) rfl ?_
          refine K.d_pu rfl (fun _ _ => X.blss) rfl ?_
          rw [d1]
          refine K.d_pu rfl (fun _ _ => X.mv) rfl ?_
          first | refine K.d_skip rfl rfl rfl rfl ?_ | refine K.d_skipU rfl rfl rfl rfl rfl ?_ | refine K.d_puG rfl rfl rfl (fun _ _ => X.mv) rfl ?_
          first | refine K.d_skip rfl rfl rfl rfl ?_ | refine K.d_skipU rfl rfl rfl rfl rfl ?_ | refine K.d_puG rfl rfl rfl (fun _ _ => X.mv) rfl ?_
          first | refine K.d_skip rfl rfl rfl rfl ?_ | refine K.d_skipU rfl rfl rfl rfl rfl ?_ | refine K.d_puG rfl rfl rfl (fun _ _ => X.ia) rfl ?_
          first | refine K.d_skip rfl rfl rfl rfl ?_ | refine K.d_skipU rfl rfl rfl rfl rfl ?_ | refine K.d_puG rfl rfl rfl (fun _ _ => X.ia) rfl ?_
          first | refine K.d_skip rfl rfl rfl rfl ?_ | refine K.d_skipU rfl rfl rfl rfl rfl ?_ | refine K.d_puG rfl rfl rfl (fun _ _ => X.ia) rfl ?_
          refine K.d_stG rfl rfl rfl (K.p_load (v := .int .u32 y.1) (Fx.agg rfl) rfl (Cels.up hcp).1) rfl ?_
          refine K.d_stG rfl rfl rfl (K.p_load (v := .int .u32 x.1) (Fx.agg rfl) rfl (K.cel_own 0 rfl rfl)) rfl ?_
          first | refine K.d_skip rfl rfl rfl rfl ?_ | refine K.d_skipU rfl rfl rfl rfl rfl ?_ | refine K.d_puG rfl rfl rfl (fun _ _ => X.beql) rfl ?_
          rw [d2]
          first | refine K.d_skip rfl rfl rfl rfl ?_ | refine K.d_skipU rfl rfl rfl rfl rfl ?_ | refine K.d_puG rfl rfl rfl (fun _ _ => X.mv) rfl ?_
          first | refine K.d_skip rfl rfl rfl rfl ?_ | refine K.d_skipU rfl rfl rfl rfl rfl ?_ | refine K.d_puG rfl rfl rfl (fun _ _ => X.mv) rfl ?_
          first | refine K.d_skip rfl rfl rfl rfl ?_ | refine K.d_skipU rfl rfl rfl rfl rfl ?_ | refine K.d_puG rfl rfl rfl (fun _ _ => X.mv) rfl ?_
          first | refine K.d_skip rfl rfl rfl rfl ?_ | refine K.d_skipU rfl rfl rfl rfl rfl ?_ | refine K.d_puG rfl rfl rfl (fun _ _ => X.ia) rfl ?_
          first | refine K.d_skip rfl rfl rfl rfl ?_ | refine K.d_skipU rfl rfl rfl rfl rfl ?_ | refine K.d_puG rfl rfl rfl (fun _ _ => X.ia) rfl ?_
          first | refine K.d_skip rfl rfl rfl rfl ?_ | refine K.d_skipU rfl rfl rfl rfl rfl ?_ | refine K.d_puG rfl rfl rfl (fun _ _ => X.ia) rfl ?_
          first | refine K.d_skipS rfl rfl rfl rfl ?_ | refine K.d_skipUS rfl rfl rfl rfl rfl ?_ | refine K.d_stG rfl rfl rfl X.ld rfl ?_
          first | refine K.d_skipS rfl rfl rfl rfl ?_ | refine K.d_skipUS rfl rfl rfl rfl rfl ?_ | refine K.d_stG rfl rfl rfl X.ld rfl ?_
          first | refine K.d_skip rfl rfl rfl rfl ?_ | refine K.d_skipU rfl rfl rfl rfl rfl ?_ | refine K.d_puG rfl rfl rfl (fun _ _ => X.blss) rfl ?_
          first | refine K.d_skip rfl rfl rfl rfl ?_ | refine K.d_skipU rfl rfl rfl rfl rfl ?_ | refine K.d_puG rfl rfl rfl (fun _ _ => X.pk) rfl ?_
          refine K.d_pu rfl (fun _ _ => X.pk) rfl ?_
          refine K.d_nil ?_
          (repeat' (first | refine X.rq ?_ | (refine X.rc ?_ ?_ <;> intro hc <;> first | (exfalso; omega) | skip)))
          refine K.a_round hKL ⟨i + 1, n⟩ ⟨by dsimp only; omega, by dsimp only; omega, hlo, fun k z h1 h2 h3 => ?_⟩ (by repeat (first | exact K.Sub.nil _ | refine K.Sub.cons rfl ?_)) rfl rfl (by dsimp only; omega)
          dsimp only at h1 h2
          by_cases hki : k = i
          · rw [hki, hx1] at h3
            cases h3
            exact hlt
          · exact hhi k z h1 (by omega) h3
  · obtain rfl : i = p.length := by omega
    have hins := ins_at (x := x) (p := p) (n := n) hn hlo (fun y hy => by
      obtain ⟨k, hk⟩ := List.mem_iff_getElem?.1 hy
      rw [List.getElem?_drop] at hk
      exact hhi (n + k) y (Nat.le_add_right _ _) (List.getElem?_eq_some_iff.1 hk).1 hk)
    have hone : ∀ q : List PW, ∀ e ∈ q.map cW, ones e = true := fun q e he => by
      obtain ⟨z, _, rfl⟩ := List.mem_map.1 he
      rfl
    have htl : (p.take n).length = n := by rw [List.length_take]; omega
    have hdl : (p.drop n).length = p.length - n := List.length_drop ..
    (repeat' (first | refine X.rq ?_ | (refine X.rc ?_ ?_ <;> intro hc <;> first | (exfalso; omega) | skip)))
    refine K.s_pureE (K.p_sliceL (k1 := .i64) (k2 := .i64) (p := 0) (q := n) hv (Fx.und rfl) (Fx.sz rfl) rfl rfl ⟨_, rfl, rfl⟩ (Nat.zero_le _) (by rw [hlen]; exact hn)) rfl ?_
    rintro v1 hs1
    rw [List.drop_zero, ← List.map_take] at hs1
    have hsrc1 := fun KK => K.SL.src (P := Tryd.prog) (K := KK) hs1 (hone _)
    rw [List.length_map, htl] at hsrc1
    refine K.WL.nilBuf 47 2 ?_
    refine K.l_append_at 0 rfl (Fx.und rfl) (Fx.und rfl) rfl (Fx.sz rfl) (Fx.zr rfl) rfl (Fx.byt rfl) rfl rfl (hsrc1 _) (by omega) (by omega) rfl (fun a1 k1 => ?_)
    simp only [List.set_cons_zero, List.set_cons_succ, List.eraseIdx_cons_zero, List.eraseIdx_cons_succ, List.cons_append, List.nil_append]
    rw [Nat.zero_add]
    (repeat' (first | refine X.rq ?_ | (refine X.rc ?_ ?_ <;> intro hc <;> first | (exfalso; omega) | skip)))
    refine K.l_buildSlice (Fx.und rfl) (Fx.sz rfl) rfl (Fx.zr rfl) rfl rfl rfl (cs := cW x) rfl rfl (fun Bs => ?_)
    refine K.l_append_at 1 rfl (Fx.und rfl) (Fx.und rfl) rfl (Fx.sz rfl) (Fx.zr rfl) rfl (Fx.byt rfl) rfl rfl (K.src_cells (K.cels_own (pre := []) (cs := cW x) (post := []) 0 rfl rfl) rfl (by simp [oneCell])) (by omega) (by omega) rfl (fun a2 k2 => ?_)
    simp only [List.set_cons_zero, List.set_cons_succ, List.eraseIdx_cons_zero, List.eraseIdx_cons_succ, List.cons_append, List.nil_append]
    refine K.WL.drop ?_
    (repeat' (first | refine X.rq ?_ | (refine X.rc ?_ ?_ <;> intro hc <;> first | (exfalso; omega) | skip)))
    refine K.s_pureE (K.p_sliceL (k1 := .i64) (k2 := .i64) (p := n) (q := (p.map cW).length) hv (Fx.und rfl) (Fx.sz rfl) rfl ⟨_, rfl, rfl⟩ rfl (by rw [hlen]; exact hn) (Nat.le_refl _)) rfl ?_
    rintro v2 hs2
    rw [List.take_length, ← List.map_drop] at hs2
    have hsrc2 := fun KK => K.SL.src (P := Tryd.prog) (K := KK) hs2 (hone _)
    rw [List.length_map, hdl] at hsrc2
    refine K.l_append_at 0 rfl (Fx.und rfl) (Fx.und rfl) rfl (Fx.sz rfl) (Fx.zr rfl) rfl (Fx.byt rfl) rfl rfl (hsrc2 _) (by omega) (by omega) rfl (fun a3 k3 => ?_)
    simp only [List.set_cons_zero, List.set_cons_succ, List.eraseIdx_cons_zero, List.eraseIdx_cons_succ, List.cons_append, List.nil_append]
    (repeat' (first | refine X.rq ?_ | (refine X.rc ?_ ?_ <;> intro hc <;> first | (exfalso; omega) | skip)))
    have hil : ((insW x p).map cW).length = n + 1 + (p.length - n) := by
      rw [hins, List.length_map, List.length_append, htl, List.length_cons, hdl]
      omega
    have hfl : ((p.take n).map cW).flatten ++ cW x ++ ((p.drop n).map cW).flatten = ((insW x p).map cW).flatten := by
      rw [hins, List.map_append, List.flatten_append, List.map_cons, List.flatten_cons, List.append_assoc]
    rw [hfl, ← hil]
    refine K.AT.freezeRow (two _) (fun h2 le2 hs3 _ => ?_)
    refine K.AT.sel [0] rfl ?_
    refine K.done (by first | exact Or.inl rfl | exact Or.inr rfl) rfl (by first | exact K.Base.le.refl _ | assumption) (H' := []) rfl ⟨hs3, rfl⟩
structure RwS where
  hb : Base
  j : Nat
  v : Value
  p : List PW
structure RxS where
  hb : Base
  i : Nat
  v : Value
  p : List PW
theorem OnceW.ins {p q : List PW} (h : OnceW p q) (x : PW) : OnceW (insW x p) (q ++ [x]) :=
  ⟨ins_rise x p h.rise, fun z => by
    rw [mem_ins, h.mem z, List.mem_append, List.mem_singleton]
    exact ⟨fun e => e.elim .inr .inl, fun e => e.elim .inr .inl⟩⟩
theorem once_len {p q : List PW} (h : OnceW p q) : p.length ≤ q.length :=
  nodup_leW (h.rise.imp fun {x y} (h : ltW x y) (e : x = y) => ltW_irr x (by rw [← e] at h; exact h)) fun x hx => (h.mem x).1 hx
set_option maxHeartbeats 8000000 in
theorem RWaits (h : Base) (BT : Nat) (a : Option Nat) (k : Nat) (l : List PLock) (hw : ∀ x ∈ l, wfK x) (hG : Glob h) (hl : l.length ≤ 999999) :
    Tr Tryd.prog 16 [.pointer (some ⟨BT, 0, none⟩)] h [rowsA a k l, refB BT a k l]
      (fun u h' H' => SL h' 2 u ((waitsQ l).map cW) ∧ H' = [rowsA a k l, refB BT a k l]) := by
  have hnn : l.length * l.length ≤ 999998000001 := Nat.mul_le_mul hl hl
  refine K.enter Tryd.func16 rfl (Nat.le_of_ble_eq_true rfl) (fun F => ?_)
  simp only [List.nil_append, List.cons_append]
  (repeat' (first | refine X.rq ?_ | (refine X.rc ?_ ?_ <;> intro hc <;> first | (exfalso; omega) | skip)))
  refine K.c_loop (σ := RwS) (fun s => [(0, .pointer (some ⟨BT, 0, none⟩)), (3, s.v), (4, .int .i64 s.j)]) (fun s => s.hb) (fun s => rowsA a k l :: refB BT a k l :: F)
    (fun s => h.le s.hb ∧ s.j ≤ l.length ∧ SL s.hb 2 s.v (s.p.map cW) ∧ OnceW s.p (rawQ l s.j)) (fun s => l.length - s.j) ⟨h, 0, .slice none 0 0, []⟩ ⟨K.Base.le.refl h, Nat.zero_le _, .inl ⟨none, 0, rfl, rfl⟩, ⟨.nil, fun x => Iff.rfl⟩⟩ (by repeat (first | exact K.Sub.nil _ | refine K.Sub.cons rfl ?_)) rfl rfl ?_
  rintro ⟨hb, j, v, p⟩ ⟨hle, hj, hv, hon⟩ KL hKL
  dsimp only at hle hj hv hon ⊢
  have hGb := hG.le hle
  have hrl := rawQ_len l j hj
  by_cases hjl : j < l.length
  · have hx1 : l[j]? = some l[j] := List.getElem?_eq_getElem hjl
    have hrs := rawQ_succ hx1
    have hrj : j * l.length + l.length ≤ 999998000001 := by
      have : (j + 1) * l.length ≤ l.length * l.length := Nat.mul_le_mul_right _ hjl
      rw [Nat.add_mul, Nat.one_mul] at this
      omega
    generalize l[j] = x at hx1 hrs
    have hrea := reasons_le l j x
    have hc0 : (l.map cK)[j]? = some (cK x) := by rw [List.getElem?_map, hx1]; rfl
    generalize rawQ l j = r at hrl hrs hon
    refine K.WC.someBuf 0 rfl (by omega) (fun b hb' => ?_)
    subst hb'
    cases hxh : x.held with
    | true =>
      have hpq : pairsQ l j x = [] := by rw [pairsQ, if_pos hxh]
      rw [hpq, List.append_nil] at hrs
      (repeat' (first | refine X.rq ?_ | (refine X.rc ?_ ?_ <;> intro hc <;> first | (exfalso; omega) | skip)))
      refine K.s_pure (K.p_load (v := .bool true) (Fx.agg rfl) rfl (by rw [Nat.zero_add]; exact K.cel_rowZ (q := 6) 0 rfl (seven l) hc0 (by show some (Value.bool x.held) = _; rw [hxh]))) rfl ?_
      (repeat' (first | refine X.rq ?_ | (refine X.rc ?_ ?_ <;> intro hc <;> first | (exfalso; omega) | skip)))
      refine K.a_round hKL ⟨hb, j + 1, v, p⟩ ⟨hle, by dsimp only; omega, hv, by rw [hrs]; exact hon⟩ (by repeat (first | exact K.Sub.nil _ | refine K.Sub.cons rfl ?_)) rfl rfl (by dsimp only; omega)
    | false =>
      have hpq : pairsQ l j x = (reasonsQ l j x).map fun u => (x.txn, u) := by rw [pairsQ, if_neg (by rw [hxh]; decide)]
      rw [hpq] at hrs
      have hre := RForA hb BT (some b) k l j x hw hGb hx1 (by omega)
      (repeat' (first | refine X.rq ?_ | (refine X.rc ?_ ?_ <;> intro hc <;> first | (exfalso; omega) | skip)))
      refine K.s_pure (K.p_load (v := .bool false) (Fx.agg rfl) rfl (by rw [Nat.zero_add]; exact K.cel_rowZ (q := 6) 0 rfl (seven l) hc0 (by show some (Value.bool x.held) = _; rw [hxh]))) rfl ?_
      (repeat' (first | refine X.rq ?_ | (refine X.rc ?_ ?_ <;> intro hc <;> first | (exfalso; omega) | skip)))
      refine K.l_call (Fx.cal rfl) rfl hre (K.pp [0, 0] rfl) rfl ?_
      rintro u h' H' - ⟨e, a3, k3, rfl, rfl⟩
      obtain rfl := e.symm
      simp only [List.nil_append, List.cons_append]
      clear hre
      simp only [List.set_cons_zero, List.set_cons_succ, List.eraseIdx_cons_zero, List.eraseIdx_cons_succ, List.cons_append, List.nil_append]
      generalize reasonsQ l j x = q at hrs hrea ⊢
      (repeat' (first | refine X.rq ?_ | (refine X.rc ?_ ?_ <;> intro hc <;> first | (exfalso; omega) | skip)))
      refine K.c_loop (σ := RxS) (fun s => [(0, .pointer (some ⟨BT, 0, none⟩)), (3, s.v), (4, .int .i64 j), (5, bufV a3 q.length k3), (6, .int .i64 s.i)]) (fun s => s.hb)
        (fun s => rowsA (some b) k l :: bufN a3 k3 q :: refB BT (some b) k l :: F)
        (fun s => h.le s.hb ∧ s.i ≤ q.length ∧ SL s.hb 2 s.v (s.p.map cW) ∧ OnceW s.p (r ++ (q.take s.i).map fun u => (x.txn, u))) (fun s => q.length - s.i) ⟨_, 0, v, p⟩ ⟨hle, Nat.zero_le _, hv, by rw [List.take_zero, List.map_nil, List.append_nil]; exact hon⟩ (by repeat (first | exact K.Sub.nil _ | refine K.Sub.cons rfl ?_)) rfl rfl ?_
      rintro ⟨hb2, i, v2, p2⟩ ⟨hle2, hi, hv2, hon2⟩ KM hKM
      dsimp only at hle2 hi hv2 hon2 ⊢
      by_cases hil : i < q.length
      · have hy1 : q[i]? = some q[i] := List.getElem?_eq_getElem hil
        have htk : q.take (i + 1) = q.take i ++ [q[i]] := List.take_succ_eq_append_getElem hil
        generalize q[i] = y at hy1 htk
        have hpl : p2.length ≤ 999998000001 := by
          have := once_len hon2
          rw [List.length_append, List.length_map, List.length_take] at this
          omega
        have hwi := With hb2 v2 p2 (x.txn, y) hv2 hon2.rise hpl
        have hins := hon2.ins (x.txn, y)
        rw [List.append_assoc, show ((q.take i).map fun u => ((x.txn, u) : PW)) ++ [(x.txn, y)] = (q.take (i + 1)).map fun u => (x.txn, u) from by rw [htk, List.map_append]; rfl] at hins
        refine K.WC.someBuf 1 rfl (by omega) (fun b2 hb' => ?_)
        subst hb'
        (repeat' (first | refine X.rq ?_ | (refine X.rc ?_ ?_ <;> intro hc <;> first | (exfalso; omega) | skip)))
        refine X.draw ([rowsA (some b) k l, bufN (some b2) k3 q, refB BT (some b) k l]) [] (.pu 0 (.pu 1 (.pu 2 (.pu 3 (.pu 5 (.pu 9 (.pu 10 (.pu 11 (.st 4 (.pu 6 (.pu 7 (.st 8 (.st 12 (.pu 13 (.on 14 (.pu 15 .nil)))))))))))))))) ?_ (hQ := by repeat (first | with_reducible refine K.NoPanic.then ?_ | with_reducible refine K.NoPanic.inBlock ?_ | with_reducible exact K.post_noPanic _ _ | exact K.post_noPanic _ _))
        refine K.d_pu rfl (fun _ _ => X.mv) rfl ?_
        refine K.d_pu rfl (fun _ _ => X.mv) rfl ?_
        refine K.d_pu rfl (fun _ _ => X.nc) rfl ?_
        refine K.d_pu rfl (fun _ _ => X.fa) rfl ?_
        refine K.d_pu rfl (fun _ _ => X.mv) rfl ?_
        refine K.d_pu rfl (fun _ _ => X.mv) rfl ?_
        refine K.d_pu rfl (fun _ _ => X.mv) rfl ?_
        refine K.d_pu rfl (fun _ _ => X.ia) rfl ?_
        refine K.d_st rfl (K.p_load (Fx.agg rfl) rfl (K.cel_own 2 rfl rfl)) rfl ?_
        refine K.d_pu rfl (fun _ _ => X.ia) rfl ?_
        refine K.d_pu rfl (fun _ _ => X.fa) rfl ?_
        refine K.d_st rfl (K.p_load (v := .int .u32 x.txn) (Fx.agg rfl) rfl (K.cel_rowZ (q := 0) 0 rfl (seven l) hc0 rfl)) rfl ?_
        refine K.d_st rfl (K.p_load (v := nV y) (Fx.agg rfl) rfl (cel_n 1 rfl hy1)) rfl ?_
        refine K.d_pu rfl (fun _ _ => X.bd) rfl ?_
        refine K.d_on rfl (fun KK hKK => ?_)
        refine K.l_call (Fx.cal rfl) rfl hwi (K.pp [] rfl) rfl ?_
        rintro u h' H' hle3 ⟨hs3, rfl⟩
        simp only [List.nil_append, List.cons_append]
        refine K.l_nil ?_
        refine X.onE hKK ?_
        refine K.d_pu rfl (fun _ _ => X.sg) rfl ?_
        refine K.d_nil ?_
        (repeat' (first | refine X.rq ?_ | (refine X.rc ?_ ?_ <;> intro hc <;> first | (exfalso; omega) | skip)))
        refine K.a_round hKM ⟨_, i + 1, _, _⟩ ⟨hle2.trans hle3, by dsimp only; omega, hs3, hins⟩ (by repeat (first | exact K.Sub.nil _ | refine K.Sub.cons rfl ?_)) rfl rfl (by dsimp only; omega)
      · obtain rfl : i = q.length := by omega
        rw [List.take_length, ← hrs] at hon2
        (repeat' (first | refine X.rq ?_ | (refine X.rc ?_ ?_ <;> intro hc <;> first | (exfalso; omega) | skip)))
        refine K.AT.sel [1] rfl ?_
        refine K.a_round hKL ⟨_, j + 1, _, _⟩ ⟨hle2, by dsimp only; omega, hv2, hon2⟩ (by repeat (first | exact K.Sub.nil _ | refine K.Sub.cons rfl ?_)) rfl rfl (by dsimp only; omega)
  · obtain rfl : j = l.length := by omega
    obtain rfl : p = waitsQ l := OnceW.uniq hon (waits_ok l)
    (repeat' (first | refine X.rq ?_ | (refine X.rc ?_ ?_ <;> intro hc <;> first | (exfalso; omega) | skip)))
    refine K.done (by first | exact Or.inl rfl | exact Or.inr rfl) rfl (by first | exact K.Base.le.refl _ | assumption) (H' := [_, _]) rfl ⟨hv, rfl⟩
end Go.Proofs.YtcpdfajaggbjlaaDoor.Lk
