/-
  Somebody gives all back: who comes to hold; the code's walked. Conditions: each theorem's own.
-/
import Derived.Test.YtcpdfajaggbjlaaDoorTk

namespace Go.Proofs.YtcpdfajaggbjlaaDoor.Lk
open Go Go.K Go.Proofs Go.Proofs.YtcpdfajaggbjlaaDoor
set_option linter.unusedVariables false
set_option linter.unusedSimpArgs false
set_option maxRecDepth 10000

/-- One place is looked at: does it come to hold? -/
def raise1 (s : List PLock × List Nat) (i : Nat) : List PLock × List Nat :=
  match s.1[i]? with
  | some x => if !x.held && (reasonsQ s.1 i x).isEmpty then (s.1.set i { x with held := true }, s.2 ++ [x.txn]) else s
  | none => s
def raiseQ (l : List PLock) (n : Nat) : List PLock × List Nat := (List.range n).foldl raise1 (l, [])
theorem raiseQ_succ (l : List PLock) (n : Nat) : raiseQ l (n + 1) = raise1 (raiseQ l n) n := by rw [raiseQ, List.range_succ, List.foldl_append]; rfl
def releaseQ (l : List PLock) (txn : Nat) : List PLock × List Nat := raiseQ (l.filter (keepP txn)) (l.filter (keepP txn)).length
theorem raise1_len (s : List PLock × List Nat) (i : Nat) : (raise1 s i).1.length = s.1.length ∧ (raise1 s i).2.length ≤ s.2.length + 1 := by
  unfold raise1
  split
  · split
    · exact ⟨List.length_set, by rw [List.length_append]; exact Nat.le_refl _⟩
    · exact ⟨rfl, Nat.le_succ _⟩
  · exact ⟨rfl, Nat.le_succ _⟩
theorem raise1_wf {s : List PLock × List Nat} (i : Nat) (hw : ∀ x ∈ s.1, wfK x) : ∀ x ∈ (raise1 s i).1, wfK x := by
  unfold raise1
  split
  · rename_i x hx
    split
    · intro y hy
      rcases List.mem_or_eq_of_mem_set hy with h | h
      · exact hw y h
      · have := hw x (List.mem_of_getElem? hx)
        rw [h]
        exact ⟨this.txn, this.thing, this.mode⟩
    · exact hw
  · exact hw
theorem raiseQ_len (l : List PLock) : ∀ n, (raiseQ l n).1.length = l.length ∧ (raiseQ l n).2.length ≤ n
  | 0 => ⟨rfl, Nat.le_refl _⟩
  | n + 1 => by
    rw [raiseQ_succ]
    have h1 := raise1_len (raiseQ l n) n
    have h2 := raiseQ_len l n
    omega
theorem raiseQ_wf {l : List PLock} (hw : ∀ x ∈ l, wfK x) : ∀ n, ∀ x ∈ (raiseQ l n).1, wfK x
  | 0 => hw
  | n + 1 => by
    rw [raiseQ_succ]
    exact raise1_wf n (raiseQ_wf hw n)
structure RlS where
  j : Nat
  a : Option Nat
  k : Nat
set_option maxHeartbeats 4000000 in
theorem Release (h : Base) (BT : Nat) (a : Option Nat) (k : Nat) (l : List PLock) (txn : Nat) (hw : ∀ x ∈ l, wfK x) (hG : Glob h) (hl : l.length ≤ 999999) :
    Tr Tryd.prog 19 [.pointer (some ⟨BT, 0, none⟩), .int .u32 txn] h [rowsA a k l, tabB BT a k l]
      (fun u h' H' => h' = h ∧ ∃ a2 k2, u = bufV a2 (releaseQ l txn).2.length k2 ∧ H' = [rowsA a k (releaseQ l txn).1, tabB BT a k (releaseQ l txn).1, bufA 34 1 a2 (releaseQ l txn).2.length k2 ((releaseQ l txn).2.map nV)]) := by
  refine K.enter Tryd.func19 rfl (Nat.le_of_ble_eq_true rfl) (fun F => ?_)
  simp only [List.nil_append, List.cons_append]
  (repeat' (first | refine X.rq ?_ | (refine X.rc ?_ ?_ <;> intro hc <;> first | (exfalso; omega) | skip)))
  refine K.l_box rfl rfl rfl (fun B3 => ?_)
  (repeat' (first | refine X.rq ?_ | (refine X.rc ?_ ?_ <;> intro hc <;> first | (exfalso; omega) | skip)))
  refine K.s_pure (K.p_makeFunc rfl) rfl ?_
  refine K.l_call (Fx.cal rfl) rfl (DelL h B3 a k l txn (by omega)) (K.pp [1, 0] rfl) rfl ?_
  rintro u h' H' - ⟨e, rfl, rfl⟩
  obtain rfl := e.symm
  simp only [List.nil_append, List.cons_append]
  have hwf : ∀ x ∈ l.filter (keepP txn), wfK x := fun x hx => hw x (List.mem_filter.1 hx).1
  have hlf : (l.filter (keepP txn)).length ≤ 999999 := Nat.le_trans (List.length_filter_le ..) hl
  rw [releaseQ]
  generalize l.filter (keepP txn) = l1 at hwf hlf ⊢
  (repeat' (first | refine X.rq ?_ | (refine X.rc ?_ ?_ <;> intro hc <;> first | (exfalso; omega) | skip)))
  refine K.WL.perm (K.pp [0, 1] rfl) ?_
  refine X.sto ?_
  simp only [List.set_cons_zero, List.set_cons_succ, List.eraseIdx_cons_zero, List.eraseIdx_cons_succ, List.cons_append, List.nil_append]
  (repeat' (first | refine X.rq ?_ | (refine X.rc ?_ ?_ <;> intro hc <;> first | (exfalso; omega) | skip)))
  refine K.WC.nilBuf 34 1 ?_
  refine K.c_loop (σ := RlS) (fun s => [(0, .pointer (some ⟨BT, 0, none⟩)), (5, bufV s.a (raiseQ l1 s.j).2.length s.k), (22, .int .i64 l1.length), (23, .int .i64 s.j)]) (fun _ => h)
    (fun s => bufA 34 1 s.a (raiseQ l1 s.j).2.length s.k ((raiseQ l1 s.j).2.map nV) :: rowsA a k (raiseQ l1 s.j).1 :: tabB BT a k (raiseQ l1 s.j).1 :: blk B3 34 [.int .u32 txn] :: F)
    (fun s => s.j ≤ l1.length) (fun s => l1.length - s.j) ⟨0, none, 0⟩ (Nat.zero_le _) (by repeat (first | exact K.Sub.nil _ | refine K.Sub.cons rfl ?_)) rfl rfl ?_
  rintro ⟨j, a2, k2⟩ hj KL hKL
  dsimp only at hj ⊢
  have hrl := raiseQ_len l1 j
  have hrw := raiseQ_wf hwf j
  by_cases hjl : j < l1.length
  · have hrs := raiseQ_succ l1 j
    generalize raiseQ l1 j = r at hrl hrw hrs ⊢
    obtain ⟨hr1, hr2⟩ := hrl
    have hx1 : r.1[j]? = some (r.1[j]'(by omega)) := List.getElem?_eq_getElem (by omega)
    have hwx := hrw _ (List.getElem_mem (l := r.1) (n := j) (by omega))
    generalize r.1[j]'(by omega) = x at hx1 hwx
    have hc0 : (r.1.map cK)[j]? = some (cK x) := by rw [List.getElem?_map, hx1]; rfl
    refine K.WC.someBuf 1 rfl (by omega) (fun b hb' => ?_)
    subst hb'
    have hst : raise1 r j = if !x.held && (reasonsQ r.1 j x).isEmpty then (r.1.set j { x with held := true }, r.2 ++ [x.txn]) else r := by rw [raise1, hx1]
    rw [hst] at hrs
    cases hxh : x.held with
    | true =>
      rw [hxh, Bool.not_true, Bool.false_and, if_neg (by decide)] at hrs
      (repeat' (first | refine X.rq ?_ | (refine X.rc ?_ ?_ <;> intro hc <;> first | (exfalso; omega) | skip)))
      refine K.s_pure (K.p_load (v := .bool true) (Fx.agg rfl) rfl (by rw [Nat.zero_add]; exact K.cel_rowZ (q := 6) 1 rfl (seven r.1) hc0 (by show some (Value.bool x.held) = _; rw [hxh]))) rfl ?_
      (repeat' (first | refine X.rq ?_ | (refine X.rc ?_ ?_ <;> intro hc <;> first | (exfalso; omega) | skip)))
      refine K.a_round hKL ⟨j + 1, a2, k2⟩ (by dsimp only; omega) ?_ rfl ?_ (by dsimp only; omega)
      · dsimp only
        rw [hrs]
        exact (by repeat (first | exact K.Sub.nil _ | refine K.Sub.cons rfl ?_))
      · dsimp only
        rw [hrs]
    | false =>
      rw [hxh, Bool.not_false, Bool.true_and] at hrs
      have hre := ReasonsA h BT (some b) k r.1 j x hrw hG hx1 (by omega)
      cases hem : (reasonsQ r.1 j x).isEmpty with
      | true =>
        rw [hem, if_pos rfl] at hrs
        have hn0 : (reasonsQ r.1 j x).length = 0 := by rw [List.isEmpty_iff.1 hem]; rfl
        (repeat' (first | refine X.rq ?_ | (refine X.rc ?_ ?_ <;> intro hc <;> first | (exfalso; omega) | skip)))
        refine K.s_pure (K.p_load (v := .bool false) (Fx.agg rfl) rfl (by rw [Nat.zero_add]; exact K.cel_rowZ (q := 6) 1 rfl (seven r.1) hc0 (by show some (Value.bool x.held) = _; rw [hxh]))) rfl ?_
        (repeat' (first | refine X.rq ?_ | (refine X.rc ?_ ?_ <;> intro hc <;> first | (exfalso; omega) | skip)))
        refine K.l_call (Fx.cal rfl) rfl hre (K.pp [1, 1] rfl) rfl ?_
        rintro u h' H' - ⟨e, a3, k3, rfl, rfl⟩
        obtain rfl := e.symm
        simp only [List.nil_append, List.cons_append]
        clear hre
        (repeat' (first | refine X.rq ?_ | (refine X.rc ?_ ?_ <;> intro hc <;> first | (exfalso; omega) | skip)))
        refine K.l_storePart1 (i := j) (q := 6) (c := cK x) 0 rfl (Fx.sz rfl) (by show some (Value.pointer (some ⟨b, 0 + ((j : Nat) : Int).toNat * 7 + 6, none⟩)) = _; rw [Nat.zero_add]; rfl) rfl rfl (seven r.1) hc0 (by decide : 6 < 7) ?_
        simp only [List.set_cons_zero, List.set_cons_succ, List.eraseIdx_cons_zero, List.eraseIdx_cons_succ, List.cons_append, List.nil_append]
        have hset : (r.1.map cK).set j ((cK x).set 6 (Value.bool true)) = (r.1.set j { x with held := true }).map cK := by
          rw [List.map_set]; rfl
        rw [hset]
        have hc1 : ((r.1.set j { x with held := true }).map cK)[j]? = some (cK { x with held := true }) := by
          rw [List.getElem?_map, List.getElem?_set_self (by omega)]; rfl
        (repeat' (first | refine X.rq ?_ | (refine X.rc ?_ ?_ <;> intro hc <;> first | (exfalso; omega) | skip)))
        refine K.s_pure (K.p_load (v := .int .u32 x.txn) (Fx.agg rfl) rfl (by exact K.cel_rowZ (q := 0) 0 rfl (seven _) hc1 rfl)) rfl ?_
        (repeat' (first | refine X.rq ?_ | (refine X.rc ?_ ?_ <;> intro hc <;> first | (exfalso; omega) | skip)))
        refine K.l_buildSlice (Fx.und rfl) (Fx.sz rfl) rfl (Fx.zr rfl) rfl rfl rfl (cs := [.int .u32 x.txn]) rfl rfl (fun Bs => ?_)
        refine K.l_append_at 4 rfl (Fx.und rfl) (Fx.und rfl) rfl (Fx.sz rfl) (Fx.zr rfl) rfl (Fx.byt rfl) rfl rfl (K.src_cells (K.cels_own (pre := []) (cs := [.int .u32 x.txn]) (post := []) 0 rfl rfl) rfl (by simp [oneCell])) (by omega) (by omega) rfl (fun a1 k1 => ?_)
        simp only [List.set_cons_zero, List.set_cons_succ, List.eraseIdx_cons_zero, List.eraseIdx_cons_succ, List.cons_append, List.nil_append]
        (repeat' (first | refine X.rq ?_ | (refine X.rc ?_ ?_ <;> intro hc <;> first | (exfalso; omega) | skip)))
        refine K.AT.sel [0, 1] rfl ?_
        refine K.AT.perm (K.pp [2] rfl) ?_
        refine K.a_round hKL ⟨j + 1, a1, k1⟩ (by dsimp only; omega) ?_ rfl ?_ (by dsimp only; omega)
        · dsimp only
          rw [hrs, List.length_append, List.length_singleton]
          exact (by repeat (first | exact K.Sub.nil _ | refine K.Sub.cons rfl ?_))
        · dsimp only
          rw [hrs, List.length_append, List.length_singleton, List.map_append, rowsA, tabB, List.length_set]
          rfl
      | false =>
        rw [hem, if_neg (by decide)] at hrs
        have hn0 : (reasonsQ r.1 j x).length ≠ 0 := fun e => by rw [List.length_eq_zero_iff.1 e] at hem; cases hem
        (repeat' (first | refine X.rq ?_ | (refine X.rc ?_ ?_ <;> intro hc <;> first | (exfalso; omega) | skip)))
        refine K.s_pure (K.p_load (v := .bool false) (Fx.agg rfl) rfl (by rw [Nat.zero_add]; exact K.cel_rowZ (q := 6) 1 rfl (seven r.1) hc0 (by show some (Value.bool x.held) = _; rw [hxh]))) rfl ?_
        (repeat' (first | refine X.rq ?_ | (refine X.rc ?_ ?_ <;> intro hc <;> first | (exfalso; omega) | skip)))
        refine K.l_call (Fx.cal rfl) rfl hre (K.pp [1, 1] rfl) rfl ?_
        rintro u h' H' - ⟨e, a3, k3, rfl, rfl⟩
        obtain rfl := e.symm
        simp only [List.nil_append, List.cons_append]
        clear hre
        (repeat' (first | refine X.rq ?_ | (refine X.rc ?_ ?_ <;> intro hc <;> first | (exfalso; omega) | skip)))
        refine K.AT.sel [1] rfl ?_
        refine K.AT.perm (K.pp [2] rfl) ?_
        refine K.a_round hKL ⟨j + 1, a2, k2⟩ (by dsimp only; omega) ?_ rfl ?_ (by dsimp only; omega)
        · dsimp only
          rw [hrs]
          exact (by repeat (first | exact K.Sub.nil _ | refine K.Sub.cons rfl ?_))
        · dsimp only
          rw [hrs]
          rfl
  · obtain rfl : j = l1.length := by omega
    (repeat' (first | refine X.rq ?_ | (refine X.rc ?_ ?_ <;> intro hc <;> first | (exfalso; omega) | skip)))
    refine K.AT.sel [3] rfl ?_
    refine K.AT.perm (K.pp [1, 1] rfl) ?_
    refine K.done (by first | exact Or.inl rfl | exact Or.inr rfl) rfl (by first | exact K.Base.le.refl _ | assumption) (H' := [_, _, _]) rfl ⟨rfl, a2, k2, rfl, rfl⟩
end Go.Proofs.YtcpdfajaggbjlaaDoor.Lk
