/-
  Who is to end a ring: the document's. A call on both: they answer the same. Conditions: each theorem's own.
-/
import Derived.Test.YtcpdfajaggbjlaaDoorUk
import Derived.Test.YtcpdfajaggbjlaaDoorUf

namespace Go.Proofs.YtcpdfajaggbjlaaDoor.Lk
open Go Go.K Go.Proofs Go.Proofs.YtcpdfajaggbjlaaDoor
set_option linter.unusedVariables false
set_option linter.unusedSimpArgs false
set_option maxRecDepth 10000

set_option maxHeartbeats 4000000 in
theorem RVictim (h : Base) (BT : Nat) (a : Option Nat) (k : Nat) (l : List PLock) (hw : ∀ x ∈ l, wfK x) (hG : Glob h) (hl : l.length ≤ 999999) :
    Tr Tryd.prog 18 [.pointer (some ⟨BT, 0, none⟩)] h [rowsA a k l, refB BT a k l]
      (fun u h' H' => ∃ v : Nat, u = .int .u32 v ∧ IsVict (waitsQ l) v ∧ v < 4294967296 ∧ H' = [rowsA a k l, refB BT a k l]) := by
  have hwb := waits_wf hw
  have hwl := waits_len hl
  have hwa := RWaits h BT a k l hw hG hl
  generalize waitsQ l = w at hwb hwl hwa ⊢
  refine K.enter Tryd.func18 rfl (Nat.le_of_ble_eq_true rfl) (fun F => ?_)
  simp only [List.nil_append, List.cons_append]
  (repeat' (first | refine X.rq ?_ | (refine X.rc ?_ ?_ <;> intro hc <;> first | (exfalso; omega) | skip)))
  refine K.l_call (Fx.cal rfl) rfl hwa (K.pp [0, 0] rfl) rfl ?_
  rintro u h1 H' hle ⟨hv, rfl⟩
  simp only [List.nil_append, List.cons_append]
  clear hwa
  simp only [List.set_cons_zero, List.set_cons_succ, List.eraseIdx_cons_zero, List.eraseIdx_cons_succ, List.cons_append, List.nil_append]
  have hlen : (w.map cW).length = w.length := List.length_map ..
  obtain ⟨ao, ca, rfl⟩ := hv.len
  rw [hlen] at hv ⊢
  (repeat' (first | refine X.rq ?_ | (refine X.rc ?_ ?_ <;> intro hc <;> first | (exfalso; omega) | skip)))
  refine K.c_loop (σ := NxS) (fun s => [(3, .slice ao w.length ca), (4, .int .u32 s.nx), (5, .int .i64 s.i)]) (fun _ => h1) (fun _ => rowsA a k l :: refB BT a k l :: F)
    (fun s => s.i ≤ w.length ∧ s.nx < 4294967296 ∧ (s.nx = 0 ∨ ReachW w s.nx s.nx) ∧ ∀ p ∈ w.take s.i, ReachW w p.1 p.1 → p.1 ≤ s.nx) (fun s => w.length - s.i) ⟨0, 0⟩ ⟨Nat.zero_le _, by dsimp only; omega, .inl rfl, fun p hp => by cases hp⟩ (by repeat (first | exact K.Sub.nil _ | refine K.Sub.cons rfl ?_)) rfl rfl ?_
  rintro ⟨i, nx⟩ ⟨hi, hnb, hring, hmost⟩ KL hKL
  dsimp only at hi hnb hring hmost ⊢
  by_cases hil : i < w.length
  · have hx1 : w[i]? = some w[i] := List.getElem?_eq_getElem hil
    have hpb := (hwb _ (List.getElem_mem hil)).1
    generalize w[i] = p at hx1 hpb
    have hc0 : (w.map cW)[i]? = some (cW p) := by rw [List.getElem?_map, hx1]; rfl
    have hrc := Reaches h1 _ w p.1 p.1 hv (by omega)
    obtain ⟨bb, oo, rfl, hcp⟩ := hv.at hc0
    have hmost2 : ∀ m, nx ≤ m → (ReachW w p.1 p.1 → p.1 ≤ m) → ∀ q ∈ w.take (i + 1), ReachW w q.1 q.1 → q.1 ≤ m := fun m h1 h2 q hq hr => by
      rw [take_atW hx1] at hq
      rcases List.mem_append.1 hq with hq | hq
      · exact Nat.le_trans (hmost q hq hr) h1
      · rw [List.mem_singleton.1 hq] at hr ⊢; exact h2 hr
    (repeat' (first | refine X.rq ?_ | (refine X.rc ?_ ?_ <;> intro hc <;> first | (exfalso; omega) | skip)))
    by_cases hgt : nx < p.1
    · have d1 : decide ((nx : Int) < (p.1 : Int)) = true := decide_eq_true (by omega)
      refine X.draw ([]) [] (.pu 0 (.pu 1 (.pu 2 (.pu 3 (.pu 5 (.st 4 (.pu 6 (.pu 7 (.pu 8 (.pu 9 (.pu 10 (.pu 11 (.pu 12 (.pu 14 (.pu 15 (.pu 16 (.pu 17 (.st 13 (.st 18 (.on 19 (.pu 20 .nil))))))))))))))))))))) ?_ (hQ := by repeat (first | with_reducible refine K.NoPanic.then ?_ | with_reducible refine K.NoPanic.inBlock ?_ | with_reducible exact K.post_noPanic _ _ | exact K.post_noPanic _ _))
      refine K.d_pu rfl (fun _ _ => X.mv) rfl ?_
      refine K.d_pu rfl (fun _ _ => X.mv) rfl ?_
      refine K.d_pu rfl (fun _ _ => X.ia) rfl ?_
      refine K.d_pu rfl (fun _ _ => X.ia) rfl ?_
      refine K.d_pu rfl (fun _ _ => X.mv) rfl ?_
      refine K.d_st rfl (K.p_load (v := .int .u32 p.1) (Fx.agg rfl) rfl (Cels.up hcp).1) rfl ?_
      refine K.d_pu rfl (fun _ _ => X.bgtr) rfl ?_
      rw [d1]
      refine K.d_pu rfl (fun _ _ => X.mv) rfl ?_
      first | refine K.d_skip rfl rfl rfl rfl ?_ | refine K.d_skipU rfl rfl rfl rfl rfl ?_ | refine K.d_puG rfl rfl rfl (fun _ _ => X.mv) rfl ?_
      first | refine K.d_skip rfl rfl rfl rfl ?_ | refine K.d_skipU rfl rfl rfl rfl rfl ?_ | refine K.d_puG rfl rfl rfl (fun _ _ => X.mv) rfl ?_
      first | refine K.d_skip rfl rfl rfl rfl ?_ | refine K.d_skipU rfl rfl rfl rfl rfl ?_ | refine K.d_puG rfl rfl rfl (fun _ _ => X.mv) rfl ?_
      first | refine K.d_skip rfl rfl rfl rfl ?_ | refine K.d_skipU rfl rfl rfl rfl rfl ?_ | refine K.d_puG rfl rfl rfl (fun _ _ => X.ia) rfl ?_
      first | refine K.d_skip rfl rfl rfl rfl ?_ | refine K.d_skipU rfl rfl rfl rfl rfl ?_ | refine K.d_puG rfl rfl rfl (fun _ _ => X.ia) rfl ?_
      first | refine K.d_skip rfl rfl rfl rfl ?_ | refine K.d_skipU rfl rfl rfl rfl rfl ?_ | refine K.d_puG rfl rfl rfl (fun _ _ => X.mv) rfl ?_
      first | refine K.d_skip rfl rfl rfl rfl ?_ | refine K.d_skipU rfl rfl rfl rfl rfl ?_ | refine K.d_puG rfl rfl rfl (fun _ _ => X.mv) rfl ?_
      first | refine K.d_skip rfl rfl rfl rfl ?_ | refine K.d_skipU rfl rfl rfl rfl rfl ?_ | refine K.d_puG rfl rfl rfl (fun _ _ => X.ia) rfl ?_
      first | refine K.d_skip rfl rfl rfl rfl ?_ | refine K.d_skipU rfl rfl rfl rfl rfl ?_ | refine K.d_puG rfl rfl rfl (fun _ _ => X.ia) rfl ?_
      refine K.d_stG rfl rfl rfl (K.p_load (v := .int .u32 p.1) (Fx.agg rfl) rfl (Cels.up hcp).1) rfl ?_
      refine K.d_stG rfl rfl rfl (K.p_load (v := .int .u32 p.1) (Fx.agg rfl) rfl (Cels.up hcp).1) rfl ?_
      refine K.d_on rfl (fun KK hKK => ?_)
      refine K.s_take rfl rfl ?_
      refine K.l_call (Fx.cal rfl) rfl hrc (K.pp [] rfl) rfl ?_
      rintro u h' H' - ⟨e, br, rfl, hbr, rfl⟩
      obtain rfl := e.symm
      simp only [List.nil_append, List.cons_append]
      refine K.l_nil ?_
      refine X.onE hKK ?_
      refine K.d_pu rfl (fun _ _ => X.pk) rfl ?_
      refine K.d_nil ?_
      cases br with
      | true =>
        (repeat' (first | refine X.rq ?_ | (refine X.rc ?_ ?_ <;> intro hc <;> first | (exfalso; omega) | skip)))
        refine K.s_pure (K.p_load (v := .int .u32 p.1) (Fx.agg rfl) rfl (Cels.up hcp).1) rfl ?_
        (repeat' (first | refine X.rq ?_ | (refine X.rc ?_ ?_ <;> intro hc <;> first | (exfalso; omega) | skip)))
        refine K.a_round hKL ⟨i + 1, p.1⟩ ⟨by dsimp only; omega, hpb, .inr (hbr.1 rfl), hmost2 p.1 (by omega) (fun _ => Nat.le_refl _)⟩ (by repeat (first | exact K.Sub.nil _ | refine K.Sub.cons rfl ?_)) rfl rfl (by dsimp only; omega)
      | false =>
        (repeat' (first | refine X.rq ?_ | (refine X.rc ?_ ?_ <;> intro hc <;> first | (exfalso; omega) | skip)))
        refine K.a_round hKL ⟨i + 1, nx⟩ ⟨by dsimp only; omega, hnb, hring, hmost2 _ (Nat.le_refl _) (fun hr => by have := hbr.2 hr; cases this)⟩ (by repeat (first | exact K.Sub.nil _ | refine K.Sub.cons rfl ?_)) rfl rfl (by dsimp only; omega)
    · have d1 : decide ((nx : Int) < (p.1 : Int)) = false := decide_eq_false (by omega)
      refine X.draw ([]) [] (.pu 0 (.pu 1 (.pu 2 (.pu 3 (.pu 5 (.st 4 (.pu 6 (.pu 7 (.pu 8 (.pu 9 (.pu 10 (.pu 11 (.pu 12 (.pu 14 (.pu 15 (.pu 16 (.pu 17 (.st 13 (.st 18 (.on 19 (.pu 20 .nil))))))))))))))))))))) ?_ (hQ := by repeat (first | with_reducible refine K.NoPanic.then ?_ | with_reducible refine K.NoPanic.inBlock ?_ | with_reducible exact K.post_noPanic _ _ | exact K.post_noPanic _ _))
      refine K.d_pu rfl (fun _ _ => X.mv) rfl ?_
      refine K.d_pu rfl (fun _ _ => X.mv) rfl ?_
      refine K.d_pu rfl (fun _ _ => X.ia) rfl ?_
      refine K.d_pu rfl (fun _ _ => X.ia) rfl ?_
      refine K.d_pu rfl (fun _ _ => X.mv) rfl ?_
      refine K.d_st rfl (K.p_load (v := .int .u32 p.1) (Fx.agg rfl) rfl (Cels.up hcp).1) rfl ?_
      refine K.d_pu rfl (fun _ _ => X.bgtr) rfl ?_
      rw [d1]
      refine K.d_pu rfl (fun _ _ => X.mv) rfl ?_
      first | refine K.d_skip rfl rfl rfl rfl ?_ | refine K.d_skipU rfl rfl rfl rfl rfl ?_ | refine K.d_puG rfl rfl rfl (fun _ _ => X.mv) rfl ?_
      first | refine K.d_skip rfl rfl rfl rfl ?_ | refine K.d_skipU rfl rfl rfl rfl rfl ?_ | refine K.d_puG rfl rfl rfl (fun _ _ => X.mv) rfl ?_
      first | refine K.d_skip rfl rfl rfl rfl ?_ | refine K.d_skipU rfl rfl rfl rfl rfl ?_ | refine K.d_puG rfl rfl rfl (fun _ _ => X.mv) rfl ?_
      first | refine K.d_skip rfl rfl rfl rfl ?_ | refine K.d_skipU rfl rfl rfl rfl rfl ?_ | refine K.d_puG rfl rfl rfl (fun _ _ => X.ia) rfl ?_
      first | refine K.d_skip rfl rfl rfl rfl ?_ | refine K.d_skipU rfl rfl rfl rfl rfl ?_ | refine K.d_puG rfl rfl rfl (fun _ _ => X.ia) rfl ?_
      first | refine K.d_skip rfl rfl rfl rfl ?_ | refine K.d_skipU rfl rfl rfl rfl rfl ?_ | refine K.d_puG rfl rfl rfl (fun _ _ => X.mv) rfl ?_
      first | refine K.d_skip rfl rfl rfl rfl ?_ | refine K.d_skipU rfl rfl rfl rfl rfl ?_ | refine K.d_puG rfl rfl rfl (fun _ _ => X.mv) rfl ?_
      first | refine K.d_skip rfl rfl rfl rfl ?_ | refine K.d_skipU rfl rfl rfl rfl rfl ?_ | refine K.d_puG rfl rfl rfl (fun _ _ => X.ia) rfl ?_
      first | refine K.d_skip rfl rfl rfl rfl ?_ | refine K.d_skipU rfl rfl rfl rfl rfl ?_ | refine K.d_puG rfl rfl rfl (fun _ _ => X.ia) rfl ?_
      first | refine K.d_skipS rfl rfl rfl rfl ?_ | refine K.d_skipUS rfl rfl rfl rfl rfl ?_ | refine K.d_stG rfl rfl rfl X.ld rfl ?_
      first | refine K.d_skipS rfl rfl rfl rfl ?_ | refine K.d_skipUS rfl rfl rfl rfl rfl ?_ | refine K.d_stG rfl rfl rfl X.ld rfl ?_
      refine K.d_on rfl (fun KK hKK => ?_)
      first | refine K.s_skip rfl rfl rfl ?_ | refine K.s_skipU rfl rfl rfl rfl ?_
      refine K.l_nil ?_
      refine X.onE hKK ?_
      refine K.d_pu rfl (fun _ _ => X.pk) rfl ?_
      refine K.d_nil ?_
      (repeat' (first | refine X.rq ?_ | (refine X.rc ?_ ?_ <;> intro hc <;> first | (exfalso; omega) | skip)))
      refine K.a_round hKL ⟨i + 1, nx⟩ ⟨by dsimp only; omega, hnb, hring, hmost2 nx (Nat.le_refl _) (fun hr => by omega)⟩ (by repeat (first | exact K.Sub.nil _ | refine K.Sub.cons rfl ?_)) rfl rfl (by dsimp only; omega)
  · obtain rfl : i = w.length := by omega
    rw [List.take_length] at hmost
    (repeat' (first | refine X.rq ?_ | (refine X.rc ?_ ?_ <;> intro hc <;> first | (exfalso; omega) | skip)))
    refine K.done (by first | exact Or.inl rfl | exact Or.inr rfl) rfl (by first | exact K.Base.le.refl _ | assumption) (H' := [_, _]) rfl ⟨nx, rfl, ⟨hring, fun q hq => by
      obtain ⟨c, hc⟩ := hq.first
      exact hmost _ hc hq⟩, hnb, rfl⟩
/-- What a call makes of a table. -/
def actQ (l : List PLock) (x : PAct) : List PLock := if x.op = 0 then (askQ l x.txn x.thing x.mode).1 else if x.op = 1 then (releaseQ l x.txn).1 else l
set_option maxHeartbeats 8000000 in
theorem Does (h : Base) (BT BR : Nat) (a : Option Nat) (k : Nat) (b : Option Nat) (c : Nat) (l : List PLock) (x : PAct) (hx : wfA x) (hinv : Inv l) (hG : Glob h) (hl : l.length ≤ 999999) :
    Tr Tryd.prog 11 [.pointer (some ⟨BT, 0, none⟩), .pointer (some ⟨BR, 0, none⟩), .agg (cA x).toArray] h [rowsA a k l, tabB BT a k l, rowsA b c l, refB BR b c l]
      (fun u h' H' => u = .bool true ∧ ∃ a k b c, H' = [rowsA a k (actQ l x), tabB BT a k (actQ l x), rowsA b c (actQ l x), refB BR b c (actQ l x)]) := by
  refine K.enter Tryd.func11 rfl (Nat.le_of_ble_eq_true rfl) (fun F => ?_)
  simp only [List.nil_append, List.cons_append]
  (repeat' (first | refine X.rq ?_ | (refine X.rc ?_ ?_ <;> intro hc <;> first | (exfalso; omega) | skip)))
  refine K.l_box rfl rfl rfl (fun B5 => ?_)
  by_cases h0 : x.op = 0
  · have hask := Ask h BT a k l x.txn x.thing x.mode hinv.wf hG hx.thing hx.txn (by omega)
    have hras := RAsk h BR b c l x.txn x.thing x.mode hinv.wf hG hx.thing hx.txn (by omega)
    have hact : actQ l x = (askQ l x.txn x.thing x.mode).1 := by rw [actQ, if_pos h0]
    rw [hact]
    generalize askQ l x.txn x.thing x.mode = r at hask hras ⊢
    obtain ⟨l2, rb, re⟩ := r
    (repeat' (first | refine X.rq ?_ | (refine X.rc ?_ ?_ <;> intro hc <;> first | (exfalso; omega) | skip)))
    all_goals first | (exfalso; simp_all; done) | skip
    refine K.s_pure (K.p_loadN (vs := cT x.thing) (Fx.agg rfl) (Fx.sz rfl) rfl (K.cels_own (pre := [.int .i64 x.op, .int .u32 x.txn]) (post := [.int .i64 x.mode]) 0 rfl rfl)) rfl ?_
    (repeat' (first | refine X.rq ?_ | (refine X.rc ?_ ?_ <;> intro hc <;> first | (exfalso; omega) | skip)))
    refine K.l_call (Fx.cal rfl) rfl hask (K.pp [1, 1] rfl) rfl ?_
    rintro u h' H' - ⟨e, a2, k2, rfl, rfl⟩
    obtain rfl := e.symm
    simp only [List.nil_append, List.cons_append]
    simp only [List.set_cons_zero, List.set_cons_succ, List.eraseIdx_cons_zero, List.eraseIdx_cons_succ, List.cons_append, List.nil_append]
    (repeat' (first | refine X.rq ?_ | (refine X.rc ?_ ?_ <;> intro hc <;> first | (exfalso; omega) | skip)))
    refine K.s_pure (K.p_loadN (vs := cT x.thing) (Fx.agg rfl) (Fx.sz rfl) rfl (K.cels_own (pre := [.int .i64 x.op, .int .u32 x.txn]) (post := [.int .i64 x.mode]) 2 rfl rfl)) rfl ?_
    (repeat' (first | refine X.rq ?_ | (refine X.rc ?_ ?_ <;> intro hc <;> first | (exfalso; omega) | skip)))
    refine K.l_call (Fx.cal rfl) rfl hras (K.pp [3, 3] rfl) rfl ?_
    rintro u h' H' - ⟨e, b2, c2, rfl, rfl⟩
    obtain rfl := e.symm
    simp only [List.nil_append, List.cons_append]
    simp only [List.set_cons_zero, List.set_cons_succ, List.eraseIdx_cons_zero, List.eraseIdx_cons_succ, List.cons_append, List.nil_append]
    cases rb with
    | true =>
      (repeat' (first | refine X.rq ?_ | (refine X.rc ?_ ?_ <;> intro hc <;> first | (exfalso; omega) | skip)))
      refine K.AT.sel [4] rfl ?_
      refine K.AT.perm (K.pp [2, 2] rfl) ?_
      refine K.done (by first | exact Or.inl rfl | exact Or.inr rfl) rfl (by first | exact K.Base.le.refl _ | assumption) (H' := [_, _, _, _]) rfl ⟨by show Value.bool _ = _; simp, a2, k2, b2, c2, rfl⟩
    | false =>
      (repeat' (first | refine X.rq ?_ | (refine X.rc ?_ ?_ <;> intro hc <;> first | (exfalso; omega) | skip)))
      refine K.AT.sel [4] rfl ?_
      refine K.AT.perm (K.pp [2, 2] rfl) ?_
      refine K.done (by first | exact Or.inl rfl | exact Or.inr rfl) rfl (by first | exact K.Base.le.refl _ | assumption) (H' := [_, _, _, _]) rfl ⟨by show Value.bool _ = _; simp, a2, k2, b2, c2, rfl⟩
  · by_cases h1 : x.op = 1
    · have hrel := Release h BT a k l x.txn hinv.wf hG (by omega)
      have hrre := RRel h BR b c l x.txn hinv.wf hG (by omega)
      have hrl := rel_len l x.txn
      have hact : actQ l x = (releaseQ l x.txn).1 := by rw [actQ, if_neg h0, if_pos h1]
      rw [hact]
      generalize releaseQ l x.txn = r at hrel hrre hrl ⊢
      obtain ⟨l2, out⟩ := r
      have hxe : (out.map fun n => [nV n]).length = out.length := List.length_map ..
      have hone : ∀ e ∈ out.map fun n => [nV n], e.length = 1 := fun e he => by
        obtain ⟨n, _, rfl⟩ := List.mem_map.1 he
        rfl
      (repeat' (first | refine X.rq ?_ | (refine X.rc ?_ ?_ <;> intro hc <;> first | (exfalso; omega) | skip)))
      all_goals first | (exfalso; simp_all; done) | skip
      refine X.draw ([blk B5 38 (cA x)]) [] (.pu 0 (.pu 1 (.pu 4 (.pu 5 (.st 2 (.st 6 (.on 3 (.on 7 (.on 8 (.pu 9 .nil)))))))))) ?_ (hQ := by repeat (first | with_reducible refine K.NoPanic.then ?_ | with_reducible refine K.NoPanic.inBlock ?_ | with_reducible exact K.post_noPanic _ _ | exact K.post_noPanic _ _))
      refine K.d_pu rfl (fun _ _ => X.mv) rfl ?_
      refine K.d_pu rfl (fun _ _ => X.fa) rfl ?_
      refine K.d_pu rfl (fun _ _ => X.mv) rfl ?_
      refine K.d_pu rfl (fun _ _ => X.fa) rfl ?_
      refine K.d_st rfl (K.p_load (v := .int .u32 x.txn) (Fx.agg rfl) rfl (K.cel_own 0 rfl rfl)) rfl ?_
      refine K.d_st rfl (K.p_load (v := .int .u32 x.txn) (Fx.agg rfl) rfl (K.cel_own 0 rfl rfl)) rfl ?_
      refine K.d_on rfl (fun KK hKK => ?_)
      refine K.l_call (Fx.cal rfl) rfl hrel (K.pp [1, 1] rfl) rfl ?_
      rintro u h' H' - ⟨e, a2, k2, rfl, rfl⟩
      obtain rfl := e.symm
      simp only [List.nil_append, List.cons_append]
      simp only [List.set_cons_zero, List.set_cons_succ, List.eraseIdx_cons_zero, List.eraseIdx_cons_succ, List.cons_append, List.nil_append]
      refine K.l_nil ?_
      refine X.onE hKK ?_
      refine K.d_on rfl (fun KK hKK => ?_)
      refine K.l_call (Fx.cal rfl) rfl hrre (K.pp [4, 4] rfl) rfl ?_
      rintro u h' H' - ⟨e, b3, c3, a4, k4, rfl, rfl⟩
      obtain rfl := e.symm
      simp only [List.nil_append, List.cons_append]
      simp only [List.set_cons_zero, List.set_cons_succ, List.eraseIdx_cons_zero, List.eraseIdx_cons_succ, List.cons_append, List.nil_append]
      refine K.WL.perm (K.pp [2, 4] rfl) ?_
      simp only [List.set_cons_zero, List.set_cons_succ, List.eraseIdx_cons_zero, List.eraseIdx_cons_succ, List.cons_append, List.nil_append]
      rw [← flat1]
      refine K.WL.freezeRowN hxe.symm hone (fun h2 le2 hs2 => ?_)
      refine K.WL.freezeRowN hxe.symm hone (fun h3 le3 hs3 => ?_)
      have hs2 := hs2.le le3
      have hle := le2.trans le3
      refine K.l_nil ?_
      refine X.onE hKK ?_
      refine K.d_on rfl (fun KK hKK => ?_)
      refine K.l_callV (Fx.cal rfl) rfl (Numbers h3 _ _ out hs3 hs2 (by dsimp only at hrl; omega)) (K.pp [] rfl) rfl rfl ?_
      simp only [List.nil_append]
      refine K.l_nil ?_
      refine X.onE hKK ?_
      refine K.d_pu rfl (fun _ _ => X.sg) rfl ?_
      refine K.d_nil ?_
      (repeat' (first | refine X.rq ?_ | (refine X.rc ?_ ?_ <;> intro hc <;> first | (exfalso; omega) | skip)))
      refine K.AT.sel [4] rfl ?_
      refine K.AT.perm (K.pp [2, 2] rfl) ?_
      refine K.done (by first | exact Or.inl rfl | exact Or.inr rfl) rfl (by first | exact K.Base.le.refl _ | assumption) (H' := [_, _, _, _]) rfl ⟨rfl, a, k, b3, c3, rfl⟩
    · have hact : actQ l x = l := by rw [actQ, if_neg h0, if_neg h1]
      rw [hact]
      by_cases h2 : x.op = 2
      · have hhas := HasA h BT a k l x.txn x.thing x.mode hinv.wf hG hx.thing (by omega)
        have hrha := RHasA h BR b c l x.txn x.thing x.mode hx.thing (by omega)
        (repeat' (first | refine X.rq ?_ | (refine X.rc ?_ ?_ <;> intro hc <;> first | (exfalso; omega) | skip)))
        all_goals first | (exfalso; simp_all; done) | skip
        generalize hasQ l x.txn x.thing x.mode = rb at hhas hrha
        refine X.draw ([blk B5 38 (cA x)]) [] (.pu 0 (.pu 1 (.pu 3 (.pu 5 (.pu 8 (.pu 9 (.pu 11 (.pu 13 (.st 2 (.st 4 (.st 6 (.st 10 (.st 12 (.st 14 (.on 7 (.on 15 (.pu 16 (.pu 17 .nil)))))))))))))))))) ?_ (hQ := by repeat (first | with_reducible refine K.NoPanic.then ?_ | with_reducible refine K.NoPanic.inBlock ?_ | with_reducible exact K.post_noPanic _ _ | exact K.post_noPanic _ _))
        refine K.d_pu rfl (fun _ _ => X.mv) rfl ?_
        refine K.d_pu rfl (fun _ _ => X.fa) rfl ?_
        refine K.d_pu rfl (fun _ _ => X.fa) rfl ?_
        refine K.d_pu rfl (fun _ _ => X.fa) rfl ?_
        refine K.d_pu rfl (fun _ _ => X.mv) rfl ?_
        refine K.d_pu rfl (fun _ _ => X.fa) rfl ?_
        refine K.d_pu rfl (fun _ _ => X.fa) rfl ?_
        refine K.d_pu rfl (fun _ _ => X.fa) rfl ?_
        refine K.d_st rfl (K.p_load (v := .int .u32 x.txn) (Fx.agg rfl) rfl (K.cel_own 0 rfl rfl)) rfl ?_
        refine K.d_st rfl (K.p_loadN (vs := cT x.thing) (Fx.agg rfl) (Fx.sz rfl) rfl (K.cels_own (pre := [.int .i64 x.op, .int .u32 x.txn]) (post := [.int .i64 x.mode]) 0 rfl rfl)) rfl ?_
        refine K.d_st rfl (K.p_load (v := .int .i64 x.mode) (Fx.agg rfl) rfl (K.cel_own 0 rfl rfl)) rfl ?_
        refine K.d_st rfl (K.p_load (v := .int .u32 x.txn) (Fx.agg rfl) rfl (K.cel_own 0 rfl rfl)) rfl ?_
        refine K.d_st rfl (K.p_loadN (vs := cT x.thing) (Fx.agg rfl) (Fx.sz rfl) rfl (K.cels_own (pre := [.int .i64 x.op, .int .u32 x.txn]) (post := [.int .i64 x.mode]) 0 rfl rfl)) rfl ?_
        refine K.d_st rfl (K.p_load (v := .int .i64 x.mode) (Fx.agg rfl) rfl (K.cel_own 0 rfl rfl)) rfl ?_
        refine K.d_on rfl (fun KK hKK => ?_)
        refine K.l_callV (Fx.cal rfl) rfl hhas (K.pp [1, 1] rfl) rfl rfl ?_
        simp only [List.nil_append, List.cons_append]
        simp only [List.set_cons_zero, List.set_cons_succ, List.eraseIdx_cons_zero, List.eraseIdx_cons_succ, List.cons_append, List.nil_append]
        refine K.l_nil ?_
        refine X.onE hKK ?_
        refine K.d_on rfl (fun KK hKK => ?_)
        refine K.l_callV (Fx.cal rfl) rfl hrha (K.pp [3, 3] rfl) rfl rfl ?_
        simp only [List.nil_append, List.cons_append]
        simp only [List.set_cons_zero, List.set_cons_succ, List.eraseIdx_cons_zero, List.eraseIdx_cons_succ, List.cons_append, List.nil_append]
        refine K.l_nil ?_
        refine X.onE hKK ?_
        refine K.d_pu rfl (fun _ _ => X.beql) rfl ?_
        refine K.d_pu rfl (fun _ _ => X.sg) rfl ?_
        refine K.d_nil ?_
        (repeat' (first | refine X.rq ?_ | (refine X.rc ?_ ?_ <;> intro hc <;> first | (exfalso; omega) | skip)))
        refine K.AT.sel [4] rfl ?_
        refine K.AT.perm (K.pp [2, 2] rfl) ?_
        refine K.done (by first | exact Or.inl rfl | exact Or.inr rfl) rfl (by first | exact K.Base.le.refl _ | assumption) (H' := [_, _, _, _]) rfl ⟨by show Value.bool _ = _; simp, a, k, b, c, rfl⟩
      · (repeat' (first | refine X.rq ?_ | (refine X.rc ?_ ?_ <;> intro hc <;> first | (exfalso; omega) | skip)))
        all_goals first | (exfalso; simp_all; done) | skip
        refine K.AT.sel [0] rfl ?_
        refine K.done (by first | exact Or.inl rfl | exact Or.inr rfl) rfl (by first | exact K.Base.le.refl _ | assumption) (H' := [_, _, _, _]) rfl ⟨rfl, a, k, b, c, rfl⟩
end Go.Proofs.YtcpdfajaggbjlaaDoor.Lk
