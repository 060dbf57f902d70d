/-
  The locks for which a lock waits: walked. Conditions: each theorem's own.
-/
import Derived.Test.YtcpdfajaggbjlaaDoorTc

namespace Go.Proofs.YtcpdfajaggbjlaaDoor.Lk
open Go Go.K Go.Proofs Go.Proofs.YtcpdfajaggbjlaaDoor
set_option linter.unusedVariables false
set_option linter.unusedSimpArgs false
set_option maxRecDepth 10000

/-- The numbers of those that are so, in their order. -/
def selQ (s : Nat → PLock → Bool) : Nat → List PLock → List Nat
  | _, [] => []
  | j, x :: r => (if s j x then [x.txn] else []) ++ selQ s (j + 1) r
theorem selQ_app (s : Nat → PLock → Bool) : ∀ (a b : List PLock) (j : Nat), selQ s j (a ++ b) = selQ s j a ++ selQ s (j + a.length) b
  | [], b, j => rfl
  | x :: a, b, j => by
    rw [List.cons_append, selQ, selQ, selQ_app s a b (j + 1), List.append_assoc, List.length_cons, Nat.add_right_comm]
    rfl
theorem selQ_take {s : Nat → PLock → Bool} {l : List PLock} {n : Nat} {x : PLock} (hx : l[n]? = some x) : selQ s 0 (l.take (n + 1)) = selQ s 0 (l.take n) ++ (if s n x then [x.txn] else []) := by
  obtain ⟨hn, rfl⟩ := List.getElem?_eq_some_iff.1 hx
  rw [List.take_succ_eq_append_getElem hn, selQ_app, List.length_take, Nat.min_eq_left (by omega), Nat.zero_add]
  simp [selQ]
def insideQ (q x : PLock) : Bool := x.held && (decide (x.txn = q.txn) && meetQ x.thing q.thing)
def blockQ (a b : PLock) : Bool := decide (a.txn ≠ b.txn) && (confQ a.mode b.mode && meetQ a.thing b.thing)
def whyQ (l : List PLock) (i : Nat) (q : PLock) (j : Nat) (x : PLock) : Bool := blockQ q x && (x.held || (decide (j < i) && !l.any (insideQ q)))
def reasonsQ (l : List PLock) (i : Nat) (q : PLock) : List Nat := selQ (whyQ l i q) 0 l
structure wfK (x : PLock) : Prop where
  txn : x.txn < 4294967296
  thing : wfT x.thing
  mode : 1 ≤ x.mode ∧ x.mode ≤ 4
theorem selQ_len (s : Nat → PLock → Bool) : ∀ (l : List PLock) (j : Nat), (selQ s j l).length ≤ l.length
  | [], _ => Nat.le_refl _
  | x :: r, j => by
    have := selQ_len s r (j + 1)
    rw [selQ, List.length_append, List.length_cons]
    have h1 : (if s j x then [x.txn] else []).length ≤ 1 := by split <;> simp
    omega
set_option maxHeartbeats 1000000 in
theorem Reasons1 (h : Base) (Bq : Nat) (q x : PLock) : TrV Tryd.prog 53 [.agg (cK x).toArray, .pointer (some ⟨Bq, 0, none⟩)] h [blk Bq 46 (cK q)] (.bool (insideQ q x)) [blk Bq 46 (cK q)] := by
  have hme := CMeet h x.thing q.thing
  refine K.enter Tryd.func53 rfl (Nat.le_of_ble_eq_true rfl) (fun F => ?_)
  simp only [List.nil_append, List.cons_append]
  (repeat' (first | refine X.rq ?_ | (refine X.rc ?_ ?_ <;> intro hc <;> first | (exfalso; omega) | skip)))
  refine K.l_box rfl rfl rfl (fun B2 => ?_)
  rw [insideQ]
  by_cases hh : x.held = true
  · by_cases ht : x.txn = q.txn
    · rw [hh, decide_eq_true ht, Bool.true_and, Bool.true_and]
      (repeat' (first | refine X.rq ?_ | (refine X.rc ?_ ?_ <;> intro hc <;> first | (exfalso; omega) | skip)))
      all_goals first | (exfalso; simp_all; done) | skip
      refine K.s_pure (K.p_loadN (vs := cT x.thing) (Fx.agg rfl) (Fx.sz rfl) rfl (K.cels_own (pre := [_]) (post := [_, _]) 0 rfl rfl)) rfl ?_
      (repeat' (first | refine X.rq ?_ | (refine X.rc ?_ ?_ <;> intro hc <;> first | (exfalso; omega) | skip)))
      refine K.s_pure (K.p_loadN (vs := cT q.thing) (Fx.agg rfl) (Fx.sz rfl) rfl (K.cels_own (pre := [_]) (post := [_, _]) 1 rfl rfl)) rfl ?_
      (repeat' (first | refine X.rq ?_ | (refine X.rc ?_ ?_ <;> intro hc <;> first | (exfalso; omega) | skip)))
      refine K.l_callV (Fx.cal rfl) rfl hme (K.pp [] rfl) rfl rfl ?_
      simp only [List.nil_append]
      (repeat' (first | refine X.rq ?_ | (refine X.rc ?_ ?_ <;> intro hc <;> first | (exfalso; omega) | skip)))
      refine K.AT.sel [0] rfl ?_
      refine K.done (by first | exact Or.inl rfl | exact Or.inr rfl) rfl (by first | exact K.Base.le.refl _ | assumption) (H' := [blk Bq 46 (cK q)]) rfl ⟨rfl, rfl, rfl⟩
    · rw [hh, decide_eq_false ht, Bool.true_and, Bool.false_and]
      (repeat' (first | refine X.rq ?_ | (refine X.rc ?_ ?_ <;> intro hc <;> first | (exfalso; omega) | skip)))
      all_goals first | (exfalso; simp_all; done) | skip
      refine K.AT.sel [0] rfl ?_
      refine K.done (by first | exact Or.inl rfl | exact Or.inr rfl) rfl (by first | exact K.Base.le.refl _ | assumption) (H' := [blk Bq 46 (cK q)]) rfl ⟨rfl, rfl, rfl⟩
  · rw [Bool.not_eq_true] at hh
    rw [hh, Bool.false_and]
    (repeat' (first | refine X.rq ?_ | (refine X.rc ?_ ?_ <;> intro hc <;> first | (exfalso; omega) | skip)))
    all_goals first | (exfalso; simp_all; done) | skip
    refine K.AT.sel [0] rfl ?_
    refine K.done (by first | exact Or.inl rfl | exact Or.inr rfl) rfl (by first | exact K.Base.le.refl _ | assumption) (H' := [blk Bq 46 (cK q)]) rfl ⟨rfl, rfl, rfl⟩
def nV (n : Nat) : Value := .int .u32 n
structure ReS where
  j : Nat
  a : Option Nat
  k : Nat
set_option maxHeartbeats 2000000 in
theorem Reasons (h : Base) (BT : Nat) (v : Value) (l : List PLock) (i : Nat) (q : PLock) (hv : SL h 7 v (l.map cK)) (hw : ∀ x ∈ l, wfK x) (hG : Cels h [] 1 0 confT) (hi : l[i]? = some q) (hl : l.length ≤ 1000000) :
    Tr Tryd.prog 31 [.pointer (some ⟨BT, 0, none⟩), .int .i64 i] h [blk BT 29 [v]]
      (fun u h' H' => h = h' ∧ ∃ a k, u = bufV a (reasonsQ l i q).length k ∧ H' = [bufA 34 1 a (reasonsQ l i q).length k ((reasonsQ l i q).map nV), blk BT 29 [v]]) := by
  have hlen : (l.map cK).length = l.length := List.length_map ..
  have hv0 := hv
  obtain ⟨ao, ca, rfl⟩ := hv.len
  rw [hlen] at hv hv0 ⊢
  have hil := (List.getElem?_eq_some_iff.1 hi).1
  have hq0 : (l.map cK)[((i : Nat) : Int).toNat]? = some (cK q) := by rw [Int.toNat_natCast, List.getElem?_map, hi]; rfl
  have hwq := hw q (List.mem_of_getElem? hi)
  refine K.enter Tryd.func31 rfl (Nat.le_of_ble_eq_true rfl) (fun F => ?_)
  simp only [List.nil_append, List.cons_append]
  (repeat' (first | refine X.rq ?_ | (refine X.rc ?_ ?_ <;> intro hc <;> first | (exfalso; omega) | skip)))
  refine K.s_pureE (K.p_indexL hv (Fx.und rfl) (Fx.sz rfl) rfl rfl (by omega) hq0) rfl ?_
  rintro v2 ⟨b, o, rfl, hcel⟩
  refine K.s_pure (K.p_loadM (Fx.agg rfl) rfl (Cels.up hcel) (Fx.sz rfl) rfl) rfl ?_
  refine K.l_alloc (Fx.zr rfl) rfl rfl (fun B5 => ?_)
  (repeat' (first | refine X.rq ?_ | (refine X.rc ?_ ?_ <;> intro hc <;> first | (exfalso; omega) | skip)))
  refine X.stw ?_
  simp only [List.set_cons_zero, List.set_cons_succ, List.eraseIdx_cons_zero, List.eraseIdx_cons_succ, List.cons_append, List.nil_append]
  (repeat' (first | refine X.rq ?_ | (refine X.rc ?_ ?_ <;> intro hc <;> first | (exfalso; omega) | skip)))
  refine K.s_pure (K.p_makeFunc rfl) rfl ?_
  refine K.l_callV (Fx.cal rfl) rfl (CtnL h [blk B5 46 (cK q)] 53 [_] (Fx.cal rfl) _ l (insideQ q) hv0.k (by omega) (fun x _ => Reasons1 h B5 q x)) (K.pp [0] rfl) rfl rfl ?_
  simp only [List.nil_append, List.cons_append]
  generalize hins : l.any (insideQ q) = ins
  have hwhy : ∀ j x, whyQ l i q j x = (blockQ q x && (x.held || (decide (j < i) && !ins))) := fun j x => by rw [whyQ, hins]
  (repeat' (first | refine X.rq ?_ | (refine X.rc ?_ ?_ <;> intro hc <;> first | (exfalso; omega) | skip)))
  refine K.WC.nilBuf 34 1 ?_
  refine K.c_loop (σ := ReS) (fun s => [(1, .int .i64 i), (5, .pointer (some ⟨B5, 0, none⟩)), (6, .bool ins), (7, bufV s.a (selQ (whyQ l i q) 0 (l.take s.j)).length s.k), (26, .slice ao l.length ca), (27, .int .i64 l.length), (28, .int .i64 s.j)]) (fun _ => h)
    (fun s => bufA 34 1 s.a (selQ (whyQ l i q) 0 (l.take s.j)).length s.k ((selQ (whyQ l i q) 0 (l.take s.j)).map nV) :: blk B5 46 (cK q) :: blk BT 29 [.slice ao l.length ca] :: F)
    (fun s => s.j ≤ l.length) (fun s => l.length - s.j) ⟨0, none, 0⟩ (Nat.zero_le _) (by repeat (first | exact K.Sub.nil _ | refine K.Sub.cons rfl ?_)) rfl rfl ?_
  rintro ⟨j, a, k⟩ hj KL hKL
  dsimp only at hj ⊢
  by_cases hjl : j < l.length
  · have hx1 : l[j]? = some l[j] := List.getElem?_eq_getElem hjl
    have hwx := hw _ (List.getElem_mem hjl)
    generalize l[j] = x at hx1 hwx
    have hc0 : (l.map cK)[((j : Nat) : Int).toNat]? = some (cK x) := by rw [Int.toNat_natCast, List.getElem?_map, hx1]; rfl
    have hst := selQ_take (s := whyQ l i q) hx1
    have hsl := selQ_len (whyQ l i q) (l.take j) 0
    rw [List.length_take] at hsl
    rw [hwhy] at hst
    have hbl : TrV Tryd.prog 55 [.agg (cK q).toArray, .agg (cK x).toArray] h [] (.bool (blockQ q x)) [] := Blocks h q x hG hwq.mode hwx.mode
    generalize blockQ q x = bq at hst hbl
    generalize selQ (whyQ l i q) 0 (l.take j) = out at hst hsl ⊢
    (repeat' (first | refine X.rq ?_ | (refine X.rc ?_ ?_ <;> intro hc <;> first | (exfalso; omega) | skip)))
    refine K.s_pureE (K.p_indexL hv (Fx.und rfl) (Fx.sz rfl) rfl rfl (by omega) hc0) rfl ?_
    rintro v3 ⟨b3, o3, rfl, hcel3⟩
    refine K.s_pure (K.p_loadM (Fx.agg rfl) rfl (Cels.up hcel3) (Fx.sz rfl) rfl) rfl ?_
    refine K.l_alloc (Fx.zr rfl) rfl rfl (fun B9 => ?_)
    (repeat' (first | refine X.rq ?_ | (refine X.rc ?_ ?_ <;> intro hc <;> first | (exfalso; omega) | skip)))
    refine X.stw ?_
    simp only [List.set_cons_zero, List.set_cons_succ, List.eraseIdx_cons_zero, List.eraseIdx_cons_succ, List.cons_append, List.nil_append]
    (repeat' (first | refine X.rq ?_ | (refine X.rc ?_ ?_ <;> intro hc <;> first | (exfalso; omega) | skip)))
    refine K.l_callV (Fx.cal rfl) rfl hbl (K.pp [] rfl) rfl rfl ?_
    simp only [List.nil_append]
    cases bq with
    | false =>
      rw [Bool.false_and, if_neg (by decide), List.append_nil] at hst
      (repeat' (first | refine X.rq ?_ | (refine X.rc ?_ ?_ <;> intro hc <;> first | (exfalso; omega) | skip)))
      refine K.AT.sel [0] rfl ?_
      refine K.a_round hKL ⟨j + 1, a, k⟩ (by dsimp only; omega) ?_ rfl ?_ (by dsimp only; omega)
      · dsimp only
        rw [hst]
        exact (by repeat (first | exact K.Sub.nil _ | refine K.Sub.cons rfl ?_))
      · dsimp only
        rw [hst]
        rfl
    | true =>
      rw [Bool.true_and] at hst
      cases hh : x.held with
      | true =>
        rw [hh, Bool.true_or, if_pos rfl] at hst
        (repeat' (first | refine X.rq ?_ | (refine X.rc ?_ ?_ <;> intro hc <;> first | (exfalso; omega) | skip)))
        all_goals first | (exfalso; simp_all; done) | skip
        refine K.l_buildSlice (Fx.und rfl) (Fx.sz rfl) rfl (Fx.zr rfl) rfl rfl rfl (cs := [.int .u32 x.txn]) rfl rfl (fun Bs => ?_)
        refine K.l_append_at 2 rfl (Fx.und rfl) (Fx.und rfl) rfl (Fx.sz rfl) (Fx.zr rfl) rfl (Fx.byt rfl) rfl rfl (K.src_cells (K.cels_own (pre := []) (cs := [.int .u32 x.txn]) (post := []) 0 rfl rfl) rfl (by simp [oneCell])) (by omega) (by omega) rfl (fun a1 k1 => ?_)
        simp only [List.set_cons_zero, List.set_cons_succ, List.eraseIdx_cons_zero, List.eraseIdx_cons_succ, List.cons_append, List.nil_append]
        (repeat' (first | refine X.rq ?_ | (refine X.rc ?_ ?_ <;> intro hc <;> first | (exfalso; omega) | skip)))
        refine K.AT.sel [0, 0] rfl ?_
        refine K.a_round hKL ⟨j + 1, a1, k1⟩ (by dsimp only; omega) ?_ rfl ?_ (by dsimp only; omega)
        · dsimp only
          rw [hst, List.length_append]
          exact (by repeat (first | exact K.Sub.nil _ | refine K.Sub.cons rfl ?_))
        · dsimp only
          rw [hst, List.length_append, List.map_append]
          rfl
      | false =>
        rw [hh, Bool.false_or] at hst
        by_cases hji : j < i
        · rw [decide_eq_true hji, Bool.true_and] at hst
          cases ins with
          | true =>
            rw [if_neg (by decide), List.append_nil] at hst
            (repeat' (first | refine X.rq ?_ | (refine X.rc ?_ ?_ <;> intro hc <;> first | (exfalso; omega) | skip)))
            all_goals first | (exfalso; simp_all; done) | skip
            refine K.AT.sel [0] rfl ?_
            refine K.a_round hKL ⟨j + 1, a, k⟩ (by dsimp only; omega) ?_ rfl ?_ (by dsimp only; omega)
            · dsimp only
              rw [hst]
              exact (by repeat (first | exact K.Sub.nil _ | refine K.Sub.cons rfl ?_))
            · dsimp only
              rw [hst]
              rfl
          | false =>
            rw [if_pos (by decide)] at hst
            (repeat' (first | refine X.rq ?_ | (refine X.rc ?_ ?_ <;> intro hc <;> first | (exfalso; omega) | skip)))
            all_goals first | (exfalso; simp_all; done) | skip
            refine K.l_buildSlice (Fx.und rfl) (Fx.sz rfl) rfl (Fx.zr rfl) rfl rfl rfl (cs := [.int .u32 x.txn]) rfl rfl (fun Bs => ?_)
            refine K.l_append_at 2 rfl (Fx.und rfl) (Fx.und rfl) rfl (Fx.sz rfl) (Fx.zr rfl) rfl (Fx.byt rfl) rfl rfl (K.src_cells (K.cels_own (pre := []) (cs := [.int .u32 x.txn]) (post := []) 0 rfl rfl) rfl (by simp [oneCell])) (by omega) (by omega) rfl (fun a1 k1 => ?_)
            simp only [List.set_cons_zero, List.set_cons_succ, List.eraseIdx_cons_zero, List.eraseIdx_cons_succ, List.cons_append, List.nil_append]
            (repeat' (first | refine X.rq ?_ | (refine X.rc ?_ ?_ <;> intro hc <;> first | (exfalso; omega) | skip)))
            refine K.AT.sel [0, 0] rfl ?_
            refine K.a_round hKL ⟨j + 1, a1, k1⟩ (by dsimp only; omega) ?_ rfl ?_ (by dsimp only; omega)
            · dsimp only
              rw [hst, List.length_append]
              exact (by repeat (first | exact K.Sub.nil _ | refine K.Sub.cons rfl ?_))
            · dsimp only
              rw [hst, List.length_append, List.map_append]
              rfl
        · rw [decide_eq_false hji, Bool.false_and, if_neg (by decide), List.append_nil] at hst
          (repeat' (first | refine X.rq ?_ | (refine X.rc ?_ ?_ <;> intro hc <;> first | (exfalso; omega) | skip)))
          all_goals first | (exfalso; simp_all; done) | skip
          refine K.AT.sel [0] rfl ?_
          refine K.a_round hKL ⟨j + 1, a, k⟩ (by dsimp only; omega) ?_ rfl ?_ (by dsimp only; omega)
          · dsimp only
            rw [hst]
            exact (by repeat (first | exact K.Sub.nil _ | refine K.Sub.cons rfl ?_))
          · dsimp only
            rw [hst]
            rfl
  · obtain rfl : j = l.length := by omega
    rw [List.take_length]
    (repeat' (first | refine X.rq ?_ | (refine X.rc ?_ ?_ <;> intro hc <;> first | (exfalso; omega) | skip)))
    refine K.AT.sel [1] rfl ?_
    refine K.done (by first | exact Or.inl rfl | exact Or.inr rfl) rfl (by first | exact K.Base.le.refl _ | assumption) (H' := [bufA 34 1 a (reasonsQ l i q).length k ((reasonsQ l i q).map nV), blk BT 29 [.slice ao l.length ca]]) rfl ⟨rfl, a, k, rfl, rfl⟩
end Go.Proofs.YtcpdfajaggbjlaaDoor.Lk
