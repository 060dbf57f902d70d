/-
  Somebody gives all back: the document's walked. Conditions: each theorem's own.
-/
import Derived.Test.YtcpdfajaggbjlaaDoorTl

namespace Go.Proofs.YtcpdfajaggbjlaaDoor.Lk
open Go Go.K Go.Proofs Go.Proofs.YtcpdfajaggbjlaaDoor
set_option linter.unusedVariables false
set_option linter.unusedSimpArgs false
set_option maxRecDepth 10000

theorem filter_take {α : Type} {p : α → Bool} {l : List α} {j : Nat} {x : α} (hx : l[j]? = some x) : (l.take (j + 1)).filter p = (l.take j).filter p ++ if p x then [x] else [] := by
  obtain ⟨hj, rfl⟩ := List.getElem?_eq_some_iff.1 hx
  rw [List.take_succ_eq_append_getElem hj, List.filter_append]
  congr 1
  cases h : p l[j] <;> simp [h]
set_option maxHeartbeats 4000000 in
theorem RRel (h : Base) (BT : Nat) (a : Option Nat) (k : Nat) (l : List PLock) (txn : Nat) (hw : ∀ x ∈ l, wfK x) (hG : Glob h) (hl : l.length ≤ 999999) :
    Tr Tryd.prog 28 [.pointer (some ⟨BT, 0, none⟩), .int .u32 txn] h [rowsA a k l, refB BT a k l]
      (fun u h' H' => h' = h ∧ ∃ a1 k1 a2 k2, u = bufV a2 (releaseQ l txn).2.length k2 ∧ H' = [rowsA a1 k1 (releaseQ l txn).1, refB BT a1 k1 (releaseQ l txn).1, bufA 34 1 a2 (releaseQ l txn).2.length k2 ((releaseQ l txn).2.map nV)]) := by
  refine K.enter Tryd.func28 rfl (Nat.le_of_ble_eq_true rfl) (fun F => ?_)
  simp only [List.nil_append, List.cons_append]
  (repeat' (first | refine X.rq ?_ | (refine X.rc ?_ ?_ <;> intro hc <;> first | (exfalso; omega) | skip)))
  refine K.WC.nilBuf 46 7 ?_
  refine K.c_loop (σ := RlS) (fun s => [(0, .pointer (some ⟨BT, 0, none⟩)), (1, .int .u32 txn), (5, bufV s.a ((l.take s.j).filter (keepP txn)).length s.k), (6, .int .i64 s.j)]) (fun _ => h)
    (fun s => rowsA s.a s.k ((l.take s.j).filter (keepP txn)) :: rowsA a k l :: refB BT a k l :: F)
    (fun s => s.j ≤ l.length) (fun s => l.length - s.j) ⟨0, none, 0⟩ (Nat.zero_le _) (by repeat (first | exact K.Sub.nil _ | refine K.Sub.cons rfl ?_)) rfl rfl ?_
  rintro ⟨j, a1, k1⟩ hj KL hKL
  dsimp only at hj ⊢
  by_cases hjl : j < l.length
  · have hx1 : l[j]? = some l[j] := List.getElem?_eq_getElem hjl
    generalize l[j] = x at hx1
    have hc0 : (l.map cK)[j]? = some (cK x) := by rw [List.getElem?_map, hx1]; rfl
    have hft := filter_take (p := keepP txn) hx1
    have hfl : ((l.take j).filter (keepP txn)).length ≤ j := Nat.le_trans (List.length_filter_le ..) (List.length_take_le ..)
    generalize (l.take j).filter (keepP txn) = r at hft hfl ⊢
    have hkp : keepP txn x = !decide (x.txn = txn) := rfl
    refine K.WC.someBuf 1 rfl (by omega) (fun b hb' => ?_)
    subst hb'
    (repeat' (first | refine X.rq ?_ | (refine X.rc ?_ ?_ <;> intro hc <;> first | (exfalso; omega) | skip)))
    refine K.s_pure (K.p_load (v := .int .u32 x.txn) (Fx.agg rfl) rfl (K.cel_rowZ (q := 0) 1 rfl (seven l) hc0 rfl)) rfl ?_
    by_cases ht : x.txn = txn
    · rw [hkp, decide_eq_true ht, Bool.not_true, if_neg (by decide), List.append_nil] at hft
      (repeat' (first | refine X.rq ?_ | (refine X.rc ?_ ?_ <;> intro hc <;> first | (exfalso; omega) | skip)))
      refine K.a_round hKL ⟨j + 1, a1, k1⟩ (by dsimp only; omega) ?_ rfl ?_ (by dsimp only; omega)
      · dsimp only
        rw [hft]
        exact (by repeat (first | exact K.Sub.nil _ | refine K.Sub.cons rfl ?_))
      · dsimp only
        rw [hft]
    · rw [hkp, decide_eq_false ht, Bool.not_false, if_pos rfl] at hft
      (repeat' (first | refine X.rq ?_ | (refine X.rc ?_ ?_ <;> intro hc <;> first | (exfalso; omega) | skip)))
      refine K.s_pure (K.p_loadN (vs := cK x) (Fx.agg rfl) (Fx.sz rfl) rfl (by rw [Nat.zero_add]; exact K.cels_rowZ 1 rfl (seven l) hc0)) rfl ?_
      (repeat' (first | refine X.rq ?_ | (refine X.rc ?_ ?_ <;> intro hc <;> first | (exfalso; omega) | skip)))
      refine K.l_buildSlice (Fx.und rfl) (Fx.sz rfl) rfl (Fx.zr rfl) rfl rfl rfl (cs := cK x) rfl rfl (fun Bs => ?_)
      refine K.l_append_at 1 rfl (Fx.und rfl) (Fx.und rfl) rfl (Fx.sz rfl) (Fx.zr rfl) rfl (Fx.byt rfl) rfl rfl (K.src_cells (K.cels_own (pre := []) (cs := cK x) (post := []) 0 rfl rfl) rfl (by simp [oneCell, cK])) (by omega) (by omega) rfl (fun a2 k2 => ?_)
      simp only [List.set_cons_zero, List.set_cons_succ, List.eraseIdx_cons_zero, List.eraseIdx_cons_succ, List.cons_append, List.nil_append]
      (repeat' (first | refine X.rq ?_ | (refine X.rc ?_ ?_ <;> intro hc <;> first | (exfalso; omega) | skip)))
      refine K.AT.sel [0] rfl ?_
      refine K.a_round hKL ⟨j + 1, a2, k2⟩ (by dsimp only; omega) ?_ rfl ?_ (by dsimp only; omega)
      · dsimp only
        rw [hft, List.length_append, List.length_singleton]
        exact (by repeat (first | exact K.Sub.nil _ | refine K.Sub.cons rfl ?_))
      · dsimp only
        rw [hft, rowsA, rowsA, List.length_append, List.length_singleton, List.map_append, List.flatten_append]
        rfl
  · obtain rfl : j = l.length := by omega
    rw [List.take_length]
    have hwf : ∀ x ∈ l.filter (keepP txn), wfK x := fun x hx => hw x (List.mem_filter.1 hx).1
    have hlf : (l.filter (keepP txn)).length ≤ 999999 := Nat.le_trans (List.length_filter_le ..) hl
    rw [releaseQ]
    generalize l.filter (keepP txn) = l1 at hwf hlf ⊢
    (repeat' (first | refine X.rq ?_ | (refine X.rc ?_ ?_ <;> intro hc <;> first | (exfalso; omega) | skip)))
    refine K.WL.perm (K.pp [2] rfl) ?_
    refine X.sto ?_
    simp only [List.set_cons_zero, List.set_cons_succ, List.eraseIdx_cons_zero, List.eraseIdx_cons_succ, List.cons_append, List.nil_append]
    (repeat' (first | refine X.rq ?_ | (refine X.rc ?_ ?_ <;> intro hc <;> first | (exfalso; omega) | skip)))
    refine K.WC.sel [2] rfl ?_
    refine K.WC.perm (K.pp [1] rfl) ?_
    refine K.WC.nilBuf 34 1 ?_
    refine K.c_loop (σ := RlS) (fun s => [(0, .pointer (some ⟨BT, 0, none⟩)), (7, bufV s.a (raiseQ l1 s.j).2.length s.k), (8, .int .i64 s.j)]) (fun _ => h)
      (fun s => bufA 34 1 s.a (raiseQ l1 s.j).2.length s.k ((raiseQ l1 s.j).2.map nV) :: rowsA a1 k1 (raiseQ l1 s.j).1 :: refB BT a1 k1 (raiseQ l1 s.j).1 :: F)
      (fun s => s.j ≤ l1.length) (fun s => l1.length - s.j) ⟨0, none, 0⟩ (Nat.zero_le _) (by repeat (first | exact K.Sub.nil _ | refine K.Sub.cons rfl ?_)) rfl rfl ?_
    rintro ⟨j, a2, k2⟩ hj KM hKM
    dsimp only at hj ⊢
    have hrl := raiseQ_len l1 j
    have hrw := raiseQ_wf hwf j
    by_cases hjl : j < l1.length
    · have hrs := raiseQ_succ l1 j
      generalize raiseQ l1 j = r at hrl hrw hrs ⊢
      obtain ⟨hr1, hr2⟩ := hrl
      have hx1 : r.1[j]? = some (r.1[j]'(by omega)) := List.getElem?_eq_getElem (by omega)
      have hwx := hrw _ (List.getElem_mem (l := r.1) (n := j) (by omega))
      generalize r.1[j]'(by omega) = x at hx1 hwx
      have hc0 : (r.1.map cK)[j]? = some (cK x) := by rw [List.getElem?_map, hx1]; rfl
      refine K.WC.someBuf 1 rfl (by omega) (fun b hb' => ?_)
      subst hb'
      have hst : raise1 r j = if !x.held && (reasonsQ r.1 j x).isEmpty then (r.1.set j { x with held := true }, r.2 ++ [x.txn]) else r := by rw [raise1, hx1]
      rw [hst] at hrs
      cases hxh : x.held with
      | true =>
        rw [hxh, Bool.not_true, Bool.false_and, if_neg (by decide)] at hrs
        (repeat' (first | refine X.rq ?_ | (refine X.rc ?_ ?_ <;> intro hc <;> first | (exfalso; omega) | skip)))
        refine K.s_pure (K.p_load (v := .bool true) (Fx.agg rfl) rfl (by rw [Nat.zero_add]; exact K.cel_rowZ (q := 6) 1 rfl (seven r.1) hc0 (by show some (Value.bool x.held) = _; rw [hxh]))) rfl ?_
        (repeat' (first | refine X.rq ?_ | (refine X.rc ?_ ?_ <;> intro hc <;> first | (exfalso; omega) | skip)))
        refine K.a_round hKM ⟨j + 1, a2, k2⟩ (by dsimp only; omega) ?_ rfl ?_ (by dsimp only; omega)
        · dsimp only
          rw [hrs]
          exact (by repeat (first | exact K.Sub.nil _ | refine K.Sub.cons rfl ?_))
        · dsimp only
          rw [hrs]
      | false =>
        rw [hxh, Bool.not_false, Bool.true_and] at hrs
        have hre := RForA h BT (some b) k1 r.1 j x hrw hG hx1 (by omega)
        cases hem : (reasonsQ r.1 j x).isEmpty with
        | true =>
          rw [hem, if_pos rfl] at hrs
          have hn0 : (reasonsQ r.1 j x).length = 0 := by rw [List.isEmpty_iff.1 hem]; rfl
          (repeat' (first | refine X.rq ?_ | (refine X.rc ?_ ?_ <;> intro hc <;> first | (exfalso; omega) | skip)))
          refine K.s_pure (K.p_load (v := .bool false) (Fx.agg rfl) rfl (by rw [Nat.zero_add]; exact K.cel_rowZ (q := 6) 1 rfl (seven r.1) hc0 (by show some (Value.bool x.held) = _; rw [hxh]))) rfl ?_
          (repeat' (first | refine X.rq ?_ | (refine X.rc ?_ ?_ <;> intro hc <;> first | (exfalso; omega) | skip)))
          refine K.l_call (Fx.cal rfl) rfl hre (K.pp [1, 1] rfl) rfl ?_
          rintro u h' H' - ⟨e, a4, k4, rfl, rfl⟩
          obtain rfl := e.symm
          simp only [List.nil_append, List.cons_append]
          clear hre
          (repeat' (first | refine X.rq ?_ | (refine X.rc ?_ ?_ <;> intro hc <;> first | (exfalso; omega) | skip)))
          refine K.l_storePart1 (i := j) (q := 6) (c := cK x) 0 rfl (Fx.sz rfl) (by show some (Value.pointer (some ⟨b, 0 + ((j : Nat) : Int).toNat * 7 + 6, none⟩)) = _; rw [Nat.zero_add]; rfl) rfl rfl (seven r.1) hc0 (by decide : 6 < 7) ?_
          simp only [List.set_cons_zero, List.set_cons_succ, List.eraseIdx_cons_zero, List.eraseIdx_cons_succ, List.cons_append, List.nil_append]
          have hset : (r.1.map cK).set j ((cK x).set 6 (Value.bool true)) = (r.1.set j { x with held := true }).map cK := by
            rw [List.map_set]; rfl
          rw [hset]
          have hc1 : ((r.1.set j { x with held := true }).map cK)[j]? = some (cK { x with held := true }) := by
            rw [List.getElem?_map, List.getElem?_set_self (by omega)]; rfl
          (repeat' (first | refine X.rq ?_ | (refine X.rc ?_ ?_ <;> intro hc <;> first | (exfalso; omega) | skip)))
          refine K.s_pure (K.p_load (v := .int .u32 x.txn) (Fx.agg rfl) rfl (by exact K.cel_rowZ (q := 0) 0 rfl (seven _) hc1 rfl)) rfl ?_
          (repeat' (first | refine X.rq ?_ | (refine X.rc ?_ ?_ <;> intro hc <;> first | (exfalso; omega) | skip)))
          refine K.l_buildSlice (Fx.und rfl) (Fx.sz rfl) rfl (Fx.zr rfl) rfl rfl rfl (cs := [.int .u32 x.txn]) rfl rfl (fun Bs => ?_)
          refine K.l_append_at 4 rfl (Fx.und rfl) (Fx.und rfl) rfl (Fx.sz rfl) (Fx.zr rfl) rfl (Fx.byt rfl) rfl rfl (K.src_cells (K.cels_own (pre := []) (cs := [.int .u32 x.txn]) (post := []) 0 rfl rfl) rfl (by simp [oneCell])) (by omega) (by omega) rfl (fun a3 k3 => ?_)
          simp only [List.set_cons_zero, List.set_cons_succ, List.eraseIdx_cons_zero, List.eraseIdx_cons_succ, List.cons_append, List.nil_append]
          (repeat' (first | refine X.rq ?_ | (refine X.rc ?_ ?_ <;> intro hc <;> first | (exfalso; omega) | skip)))
          refine K.AT.sel [0, 1] rfl ?_
          refine K.AT.perm (K.pp [2] rfl) ?_
          refine K.a_round hKM ⟨j + 1, a3, k3⟩ (by dsimp only; omega) ?_ rfl ?_ (by dsimp only; omega)
          · dsimp only
            rw [hrs, List.length_append, List.length_singleton]
            exact (by repeat (first | exact K.Sub.nil _ | refine K.Sub.cons rfl ?_))
          · dsimp only
            rw [hrs, List.length_append, List.length_singleton, List.map_append, rowsA, refB, List.length_set]
            rfl
        | false =>
          rw [hem, if_neg (by decide)] at hrs
          have hn0 : (reasonsQ r.1 j x).length ≠ 0 := fun e => by rw [List.length_eq_zero_iff.1 e] at hem; cases hem
          (repeat' (first | refine X.rq ?_ | (refine X.rc ?_ ?_ <;> intro hc <;> first | (exfalso; omega) | skip)))
          refine K.s_pure (K.p_load (v := .bool false) (Fx.agg rfl) rfl (by rw [Nat.zero_add]; exact K.cel_rowZ (q := 6) 1 rfl (seven r.1) hc0 (by show some (Value.bool x.held) = _; rw [hxh]))) rfl ?_
          (repeat' (first | refine X.rq ?_ | (refine X.rc ?_ ?_ <;> intro hc <;> first | (exfalso; omega) | skip)))
          refine K.l_call (Fx.cal rfl) rfl hre (K.pp [1, 1] rfl) rfl ?_
          rintro u h' H' - ⟨e, a4, k4, rfl, rfl⟩
          obtain rfl := e.symm
          simp only [List.nil_append, List.cons_append]
          clear hre
          (repeat' (first | refine X.rq ?_ | (refine X.rc ?_ ?_ <;> intro hc <;> first | (exfalso; omega) | skip)))
          refine K.AT.sel [1] rfl ?_
          refine K.AT.perm (K.pp [2] rfl) ?_
          refine K.a_round hKM ⟨j + 1, a2, k2⟩ (by dsimp only; omega) ?_ rfl ?_ (by dsimp only; omega)
          · dsimp only
            rw [hrs]
            exact (by repeat (first | exact K.Sub.nil _ | refine K.Sub.cons rfl ?_))
          · dsimp only
            rw [hrs]
            rfl
    · obtain rfl : j = l1.length := by omega
      (repeat' (first | refine X.rq ?_ | (refine X.rc ?_ ?_ <;> intro hc <;> first | (exfalso; omega) | skip)))
      refine K.AT.perm (K.pp [1, 1] rfl) ?_
      refine K.done (by first | exact Or.inl rfl | exact Or.inr rfl) rfl (by first | exact K.Base.le.refl _ | assumption) (H' := [_, _, _]) rfl ⟨rfl, a1, k1, a2, k2, rfl, rfl⟩
end Go.Proofs.YtcpdfajaggbjlaaDoor.Lk
