/-
  Who is told to end a ring is in one, and nobody greater is; given back again and again no ring is left. Conditions: each theorem's own.
-/
import Derived.Test.YtcpdfajaggbjlaaDoorUe
import Derived.Test.YtcpdfajaggbjlaaDoorUh

namespace Go.Proofs.YtcpdfajaggbjlaaDoor.Lk
open Go Go.K Go.Proofs Go.Proofs.YtcpdfajaggbjlaaDoor
set_option linter.unusedVariables false
set_option linter.unusedSimpArgs false
set_option maxRecDepth 10000

structure RiS where
  hb : Base
  n : Nat
  k : Nat
  l : List PLock
  a : Option Nat
  c : Nat
  G : List Nat
set_option maxHeartbeats 8000000 in
theorem LockRingsW (h : Base) (v : Value) (l0 : List PAct) (hv : SL h 7 v (l0.map cA)) (hw : ∀ x ∈ l0, wfA x) (hl : l0.length ≤ 9223372036854775807) (hG : Glob h) :
    Tr Tryd.prog 6 [v] h [] (fun u h' H' => u = .bool true ∧ H' = []) := by
  have hlo := Long h v l0 hv hw hl
  refine K.enter Tryd.func6 rfl (Nat.le_of_ble_eq_true rfl) (fun F => ?_)
  simp only [List.nil_append, List.cons_append]
  (repeat' (first | refine X.rq ?_ | (refine X.rc ?_ ?_ <;> intro hc <;> first | (exfalso; omega) | skip)))
  refine K.l_call (Fx.cal rfl) rfl hlo (K.pp [] rfl) rfl ?_
  rintro u h' H' - ⟨e, b, rfl, hb, rfl⟩
  obtain rfl := e.symm
  simp only [List.nil_append, List.cons_append]
  cases b with
  | true =>
    (repeat' (first | refine X.rq ?_ | (refine X.rc ?_ ?_ <;> intro hc <;> first | (exfalso; omega) | skip)))
    refine K.l_call (Fx.cal rfl) rfl (Alive h hG) (K.pp [] rfl) rfl ?_
    rintro u h' H' hle ⟨rfl, rfl⟩
    simp only [List.nil_append, List.cons_append]
    (repeat' (first | refine X.rq ?_ | (refine X.rc ?_ ?_ <;> intro hc <;> first | (exfalso; omega) | skip)))
    refine K.done (by first | exact Or.inl rfl | exact Or.inr rfl) rfl (by first | exact K.Base.le.refl _ | assumption) (H' := []) rfl ⟨rfl, rfl⟩
  | false =>
    have hb := hb rfl
    (repeat' (first | refine X.rq ?_ | (refine X.rc ?_ ?_ <;> intro hc <;> first | (exfalso; omega) | skip)))
    refine K.l_call (Fx.cal rfl) rfl (Played h v l0 hv hw hb hG) (K.pp [] rfl) rfl ?_
    rintro u h' H' - ⟨e, BT, a, k, l, rfl, hinv, hll, rfl⟩
    obtain rfl := e.symm
    simp only [List.nil_append, List.cons_append]
    (repeat' (first | refine X.rq ?_ | (refine X.rc ?_ ?_ <;> intro hc <;> first | (exfalso; omega) | skip)))
    refine K.WC.nilBuf 34 1 ?_
    refine K.c_loop (σ := RiS) (fun s => [(3, .pointer (some ⟨BT, 0, none⟩)), (4, bufV s.a s.G.length s.c), (5, .int .i64 s.n)]) (fun s => s.hb) (fun s => bufN s.a s.c s.G :: rowsA a s.k s.l :: tabB BT a s.k s.l :: F)
      (fun s => h.le s.hb ∧ Inv s.l ∧ s.l.length + s.n ≤ 120 ∧ s.G.length ≤ s.n ∧ ∀ g ∈ s.G, ∀ y ∈ s.l, y.txn ≠ g) (fun s => 121 - s.n) ⟨h, 0, k, l, none, 0, []⟩ ⟨K.Base.le.refl h, hinv, by dsimp only; omega, Nat.le_refl _, fun g hg => by cases hg⟩ (by repeat (first | exact K.Sub.nil _ | refine K.Sub.cons rfl ?_)) rfl rfl ?_
    clear hinv hll
    rintro ⟨hb1, n, k, l, ag, cg, G⟩ ⟨hle, hinv, hln, hgn, hgo⟩ KL hKL
    dsimp only at hle hinv hln hgn hgo ⊢
    have hG1 := hG.le hle
    have hwai := Waits hb1 BT a k l hinv.wf hG1 (by omega)
    have hwlen := waits_len (l := l) (by omega)
    have hwf := waits_wf hinv.wf
    have hfrom := fun p hp => @waits_from l p hp
    (repeat' (first | refine X.rq ?_ | (refine X.rc ?_ ?_ <;> intro hc <;> first | (exfalso; omega) | skip)))
    all_goals first | (exfalso; simp_all; done) | skip
    refine K.l_call (Fx.cal rfl) rfl hwai (K.pp [1, 1] rfl) rfl ?_
    rintro u h' H' - ⟨e, a4, k4, rfl, rfl⟩
    obtain rfl := e.symm
    simp only [List.nil_append, List.cons_append]
    simp only [List.set_cons_zero, List.set_cons_succ, List.eraseIdx_cons_zero, List.eraseIdx_cons_succ, List.cons_append, List.nil_append]
    clear hwai
    refine K.WL.perm (K.pp [2] rfl) ?_
    simp only [List.set_cons_zero, List.set_cons_succ, List.eraseIdx_cons_zero, List.eraseIdx_cons_succ, List.cons_append, List.nil_append]
    have hwl : ((waitsQ l).map cW).length = (waitsQ l).length := List.length_map ..
    rw [bufW, ← hwl]
    refine K.WL.freezeRow (two _) (fun h2 le2 hws _ => ?_)
    rw [hwl] at hws ⊢
    have hle2 := hle.trans le2
    have hvi := Victim h2 BT a k l hinv.wf (hG.le hle2) (by omega)
    generalize waitsQ l = w at hws hwlen hwf hvi hfrom ⊢
    (repeat' (first | refine X.rq ?_ | (refine X.rc ?_ ?_ <;> intro hc <;> first | (exfalso; omega) | skip)))
    refine K.l_call (Fx.cal rfl) rfl hvi (K.pp [0, 0] rfl) rfl ?_
    rintro u h3 H' le3 ⟨vv, rfl, hvv, hvb, rfl⟩
    simp only [List.nil_append, List.cons_append]
    clear hvi
    simp only [List.set_cons_zero, List.set_cons_succ, List.eraseIdx_cons_zero, List.eraseIdx_cons_succ, List.cons_append, List.nil_append]
    have hle3 := hle2.trans le3
    have hG3 := hG.le hle3
    have hws := hws.le le3
    obtain ⟨aw, cw, ew⟩ : ∃ ao ca, bufV a4 w.length k4 = .slice ao w.length ca := ⟨_, _, rfl⟩
    rw [ew] at hws ⊢
    (repeat' (first | refine X.rq ?_ | (refine X.rc ?_ ?_ <;> intro hc <;> first | (exfalso; omega) | skip)))
    refine K.WC.perm (K.pp [2] rfl) ?_
    simp only [List.set_cons_zero, List.set_cons_succ, List.eraseIdx_cons_zero, List.eraseIdx_cons_succ, List.cons_append, List.nil_append]
    refine K.c_loop (σ := Nat) (fun i => [(3, .pointer (some ⟨BT, 0, none⟩)), (4, bufV ag G.length cg), (5, .int .i64 n), (6, .slice aw w.length cw), (7, .int .u32 vv), (8, .int .i64 i)]) (fun _ => h3) (fun _ => bufN ag cg G :: rowsA a k l :: tabB BT a k l :: F)
      (fun i => i ≤ w.length) (fun i => w.length - i) 0 (Nat.zero_le _) (by repeat (first | exact K.Sub.nil _ | refine K.Sub.cons rfl ?_)) rfl rfl ?_
    intro i hi KM hKM
    by_cases hil : i < w.length
    · have hx1 : w[i]? = some w[i] := List.getElem?_eq_getElem hil
      have hmem : w[i] ∈ w := List.getElem_mem hil
      generalize w[i] = p at hx1 hmem
      have hc0 : (w.map cW)[i]? = some (cW p) := by rw [List.getElem?_map, hx1]; rfl
      have hrc := Reaches h3 _ w p.1 p.1 hws (by omega)
      obtain ⟨bb, oo, rfl, hcp⟩ := hws.at hc0
      have hp0 : p.1 ≠ 0 := by
        obtain ⟨⟨x, hx, e1, _⟩, _⟩ := hfrom p hmem
        rw [← e1]
        exact (hinv.may x hx).2
      (repeat' (first | refine X.rq ?_ | (refine X.rc ?_ ?_ <;> intro hc <;> first | (exfalso; omega) | skip)))
      refine X.draw ([]) [] (.pu 0 (.pu 1 (.pu 2 (.pu 3 (.pu 4 (.pu 6 (.pu 7 (.pu 8 (.pu 9 (.st 5 (.st 10 (.on 11 (.pu 12 .nil))))))))))))) ?_ (hQ := by repeat (first | with_reducible refine K.NoPanic.then ?_ | with_reducible refine K.NoPanic.inBlock ?_ | with_reducible exact K.post_noPanic _ _ | exact K.post_noPanic _ _))
      refine K.d_pu rfl (fun _ _ => X.mv) rfl ?_
      refine K.d_pu rfl (fun _ _ => X.mv) rfl ?_
      refine K.d_pu rfl (fun _ _ => X.mv) rfl ?_
      refine K.d_pu rfl (fun _ _ => X.ia) rfl ?_
      refine K.d_pu rfl (fun _ _ => X.ia) rfl ?_
      refine K.d_pu rfl (fun _ _ => X.mv) rfl ?_
      refine K.d_pu rfl (fun _ _ => X.mv) rfl ?_
      refine K.d_pu rfl (fun _ _ => X.ia) rfl ?_
      refine K.d_pu rfl (fun _ _ => X.ia) rfl ?_
      refine K.d_st rfl (K.p_load (v := .int .u32 p.1) (Fx.agg rfl) rfl (Cels.up hcp).1) rfl ?_
      refine K.d_st rfl (K.p_load (v := .int .u32 p.1) (Fx.agg rfl) rfl (Cels.up hcp).1) rfl ?_
      refine K.d_on rfl (fun KK hKK => ?_)
      refine K.l_call (Fx.cal rfl) rfl hrc (K.pp [] rfl) rfl ?_
      rintro u h' H' - ⟨e, br, rfl, hbr, rfl⟩
      obtain rfl := e.symm
      simp only [List.nil_append, List.cons_append]
      refine K.l_nil ?_
      refine X.onE hKK ?_
      refine K.d_pu rfl (fun _ _ => X.sg) rfl ?_
      refine K.d_nil ?_
      cases br with
      | true =>
        have hmo := hvv.most _ (hbr.1 rfl)
        (repeat' (first | refine X.rq ?_ | (refine X.rc ?_ ?_ <;> intro hc <;> first | (exfalso; omega) | skip)))
        refine K.s_pure (K.p_load (v := .int .u32 p.1) (Fx.agg rfl) rfl (Cels.up hcp).1) rfl ?_
        (repeat' (first | refine X.rq ?_ | (refine X.rc ?_ ?_ <;> intro hc <;> first | (exfalso; omega) | skip)))
        all_goals first | (exfalso; omega) | skip
        refine K.s_pure (K.p_load (v := .int .u32 p.1) (Fx.agg rfl) rfl (Cels.up hcp).1) rfl ?_
        (repeat' (first | refine X.rq ?_ | (refine X.rc ?_ ?_ <;> intro hc <;> first | (exfalso; omega) | skip)))
        all_goals first | (exfalso; simp_all; done) | skip
        all_goals refine K.a_round hKM (i + 1) (by omega) (by repeat (first | exact K.Sub.nil _ | refine K.Sub.cons rfl ?_)) rfl rfl (by omega)
      | false =>
        have hne : p.1 ≠ vv := fun e => by
          have h7 := hvv.ring.elim (fun e2 => absurd (e.trans e2) hp0) id
          rw [← e] at h7
          exact absurd (hbr.2 h7) (by decide)
        (repeat' (first | refine X.rq ?_ | (refine X.rc ?_ ?_ <;> intro hc <;> first | (exfalso; omega) | skip)))
        refine K.s_pure (K.p_load (v := .int .u32 p.1) (Fx.agg rfl) rfl (Cels.up hcp).1) rfl ?_
        (repeat' (first | refine X.rq ?_ | (refine X.rc ?_ ?_ <;> intro hc <;> first | (exfalso; omega) | skip)))
        all_goals first | (exfalso; omega) | skip
        refine K.a_round hKM (i + 1) (by omega) (by repeat (first | exact K.Sub.nil _ | refine K.Sub.cons rfl ?_)) rfl rfl (by omega)
    · obtain rfl : i = w.length := by omega
      by_cases hv0 : vv = 0
      · subst hv0
        (repeat' (first | refine X.rq ?_ | (refine X.rc ?_ ?_ <;> intro hc <;> first | (exfalso; omega) | skip)))
        all_goals first | (exfalso; simp_all; done) | skip
        refine K.l_call (Fx.cal rfl) rfl (Alive h3 hG3) (K.pp [] rfl) rfl ?_
        rintro u h' H' hle9 ⟨rfl, rfl⟩
        simp only [List.nil_append, List.cons_append]
        have hle10 := hle3.trans hle9
        (repeat' (first | refine X.rq ?_ | (refine X.rc ?_ ?_ <;> intro hc <;> first | (exfalso; omega) | skip)))
        refine K.AT.sel [0, 0, 0] rfl ?_
        refine K.done (by first | exact Or.inl rfl | exact Or.inr rfl) rfl (by first | exact K.Base.le.refl _ | assumption) (H' := []) rfl ⟨rfl, rfl⟩
      · obtain ⟨x0, hx0⟩ := (hvv.ring.elim (fun e => absurd e hv0) id).first
        obtain ⟨⟨x, hx, e1, _⟩, _⟩ := hfrom _ hx0
        have hnot : ∀ g ∈ G, g ≠ vv := fun g hg e => hgo g hg x hx (by rw [e]; exact e1)
        (repeat' (first | refine X.rq ?_ | (refine X.rc ?_ ?_ <;> intro hc <;> first | (exfalso; omega) | skip)))
        all_goals first | (exfalso; simp_all; done) | skip
        refine K.c_loop (σ := Nat) (fun j => [(3, .pointer (some ⟨BT, 0, none⟩)), (4, bufV ag G.length cg), (5, .int .i64 n), (7, .int .u32 vv), (10, .int .i64 j)]) (fun _ => h3) (fun _ => bufN ag cg G :: rowsA a k l :: tabB BT a k l :: F)
          (fun j => j ≤ G.length) (fun j => G.length - j) 0 (Nat.zero_le _) (by repeat (first | exact K.Sub.nil _ | refine K.Sub.cons rfl ?_)) rfl rfl ?_
        intro j hj KN hKN
        by_cases hjl : j < G.length
        · have hg1 : G[j]? = some G[j] := List.getElem?_eq_getElem hjl
          have hgm := hnot _ (List.getElem_mem hjl)
          generalize G[j] = g at hg1 hgm
          refine K.WC.someBuf 0 rfl (by omega) (fun bg hb' => ?_)
          subst hb'
          (repeat' (first | refine X.rq ?_ | (refine X.rc ?_ ?_ <;> intro hc <;> first | (exfalso; omega) | skip)))
          refine K.s_pure (K.p_load (v := .int .u32 g) (Fx.agg rfl) rfl (cel_n 0 rfl hg1)) rfl ?_
          (repeat' (first | refine X.rq ?_ | (refine X.rc ?_ ?_ <;> intro hc <;> first | (exfalso; omega) | skip)))
          all_goals first | (exfalso; omega) | skip
          refine K.a_round hKN (j + 1) (by omega) (by repeat (first | exact K.Sub.nil _ | refine K.Sub.cons rfl ?_)) rfl rfl (by omega)
        · obtain rfl : j = G.length := by omega
          have hrel := Release h3 BT a k l vv hinv.wf hG3 (by omega)
          have hri := release_inv hinv vv
          have hrl : (releaseQ l vv).1.length < l.length := rel_less hx e1
          (repeat' (first | refine X.rq ?_ | (refine X.rc ?_ ?_ <;> intro hc <;> first | (exfalso; omega) | skip)))
          refine K.l_buildSlice (Fx.und rfl) (Fx.sz rfl) rfl (Fx.zr rfl) rfl rfl rfl (cs := [.int .u32 vv]) rfl rfl (fun Bs => ?_)
          refine K.l_append_at 1 rfl (Fx.und rfl) (Fx.und rfl) rfl (Fx.sz rfl) (Fx.zr rfl) rfl (Fx.byt rfl) rfl rfl (K.src_cells (K.cels_own (pre := []) (cs := [.int .u32 vv]) (post := []) 0 rfl rfl) rfl (by simp [oneCell])) (by omega) (by omega) rfl (fun a7 k7 => ?_)
          simp only [List.set_cons_zero, List.set_cons_succ, List.eraseIdx_cons_zero, List.eraseIdx_cons_succ, List.cons_append, List.nil_append]
          refine K.WL.drop ?_
          (repeat' (first | refine X.rq ?_ | (refine X.rc ?_ ?_ <;> intro hc <;> first | (exfalso; omega) | skip)))
          refine K.l_call (Fx.cal rfl) rfl hrel (K.pp [1, 1] rfl) rfl ?_
          rintro u h' H' - ⟨e, a6, k6, rfl, rfl⟩
          obtain rfl := e.symm
          simp only [List.nil_append, List.cons_append]
          simp only [List.set_cons_zero, List.set_cons_succ, List.eraseIdx_cons_zero, List.eraseIdx_cons_succ, List.cons_append, List.nil_append]
          (repeat' (first | refine X.rq ?_ | (refine X.rc ?_ ?_ <;> intro hc <;> first | (exfalso; omega) | skip)))
          refine K.AT.sel [2] rfl ?_
          refine K.AT.perm (K.pp [2] rfl) ?_
          refine K.a_round hKL ⟨_, n + 1, k, (releaseQ l vv).1, a7, k7, G ++ [vv]⟩ ⟨hle3, hri, by dsimp only; omega, by dsimp only; rw [List.length_append, List.length_singleton]; omega, fun g hg y hy => ?_⟩ ?_ rfl ?_ (by dsimp only; omega)
          · obtain ⟨h8, z, hz, h9⟩ := rel_txn vv hy
            rcases List.mem_append.1 hg with hg | hg
            · rw [← h9]; exact hgo g hg z hz
            · rw [List.mem_singleton.1 hg]; exact h8
          · dsimp only
            rw [List.length_append, List.length_singleton]
            exact (by repeat (first | exact K.Sub.nil _ | refine K.Sub.cons rfl ?_))
          · dsimp only
            rw [bufN, List.length_append, List.length_singleton, List.map_append]
            rfl
end Go.Proofs.YtcpdfajaggbjlaaDoor.Lk
