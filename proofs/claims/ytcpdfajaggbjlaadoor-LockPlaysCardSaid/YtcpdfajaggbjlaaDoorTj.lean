/-
  Somebody asks for a lock: the document's. Conditions: each theorem's own.
-/
import Derived.Test.YtcpdfajaggbjlaaDoorTi

namespace Go.Proofs.YtcpdfajaggbjlaaDoor.Lk
open Go Go.K Go.Proofs Go.Proofs.YtcpdfajaggbjlaaDoor
set_option linter.unusedVariables false
set_option linter.unusedSimpArgs false
set_option maxRecDepth 10000

abbrev refB (BT : Nat) (a : Option Nat) (k : Nat) (l : List PLock) : Asrt := blk BT 32 [bufV a l.length k]
theorem RHasA (h : Base) (BT : Nat) (a : Option Nat) (k : Nat) (l : List PLock) (txn : Nat) (th : PThing) (mode : Int) (hth : wfT th) (hl : l.length ≤ 1000000) :
    TrV Tryd.prog 29 [.pointer (some ⟨BT, 0, none⟩), .int .u32 txn, .agg (cT th).toArray, .int .i64 mode] h [rowsA a k l, refB BT a k l] (.bool (hasQ l txn th mode)) [rowsA a k l, refB BT a k l] :=
  K.TrV.borrow (A := [rowsA a k l]) (R := [refB BT a k l]) fun h' hle hs => RHas h' BT _ l txn th mode (rows_sl hs) hth hl
theorem RForA (h : Base) (BT : Nat) (a : Option Nat) (k : Nat) (l : List PLock) (i : Nat) (q : PLock) (hw : ∀ x ∈ l, wfK x) (hG : Glob h) (hi : l[i]? = some q) (hl : l.length ≤ 1000000) :
    Tr Tryd.prog 37 [.pointer (some ⟨BT, 0, none⟩), .int .i64 i] h [rowsA a k l, refB BT a k l]
      (fun u h' H' => h' = h ∧ ∃ a2 k2, u = bufV a2 (reasonsQ l i q).length k2 ∧ H' = [rowsA a k l, bufA 34 1 a2 (reasonsQ l i q).length k2 ((reasonsQ l i q).map nV), refB BT a k l]) := by
  have := K.Tr.borrow (P := Tryd.prog) (h := h) (f := 37) (args := [.pointer (some ⟨BT, 0, none⟩), .int .i64 i]) (A := [rowsA a k l]) (R := [refB BT a k l])
    (Q := fun u H1 => ∃ a2 k2, u = bufV a2 (reasonsQ l i q).length k2 ∧ H1 = [bufA 34 1 a2 (reasonsQ l i q).length k2 ((reasonsQ l i q).map nV), refB BT a k l]) fun h' hle hs F w ok => by
      refine Calls.mono (RFor h' BT _ l i q (rows_sl hs) hi hl F w ok) fun e w' ⟨u, he, h1, H1, hle1, ⟨q1, a2, k2, q2, q3⟩, ok1⟩ => ⟨u, he, h1, H1, hle1, ⟨q1.symm, a2, k2, q2, q3⟩, ok1⟩
  exact fun F w ok => Calls.mono (this F w ok) fun e w' ⟨u, he, h1, H1, hle1, ⟨q1, H2, q2, a2, k2, q3, q4⟩, ok1⟩ => ⟨u, he, h1, H1, hle1, ⟨q1, a2, k2, q3, by rw [q2, q4]; rfl⟩, ok1⟩
def RAskP (h : Base) (BT : Nat) (r : List PLock × Bool × Int) (u : Value) (h' : Base) (H' : List Asrt) : Prop := h' = h ∧ ∃ a k, u = .tuple #[.bool r.2.1, .int .i64 r.2.2] ∧ H' = [rowsA a k r.1, refB BT a k r.1]
set_option maxHeartbeats 4000000 in
theorem RAsk (h : Base) (BT : Nat) (a : Option Nat) (k : Nat) (l : List PLock) (txn : Nat) (th : PThing) (mode : Int) (hw : ∀ x ∈ l, wfK x) (hG : Glob h) (hth : wfT th) (htx : txn < 4294967296) (hl : l.length ≤ 999999) :
    Tr Tryd.prog 26 [.pointer (some ⟨BT, 0, none⟩), .int .u32 txn, .agg (cT th).toArray, .int .i64 mode] h [rowsA a k l, refB BT a k l] (RAskP h BT (askQ l txn th mode)) := by
  have hma := RMay h th mode hth
  have hha := RHasA h BT a k l txn th mode hth (by omega)
  refine K.enter Tryd.func26 rfl (Nat.le_of_ble_eq_true rfl) (fun F => ?_)
  simp only [List.nil_append, List.cons_append]
  (repeat' (first | refine X.rq ?_ | (refine X.rc ?_ ?_ <;> intro hc <;> first | (exfalso; omega) | skip)))
  refine K.l_box rfl rfl rfl (fun B6 => ?_)
  unfold askQ
  by_cases h0 : txn = 0
  · rw [if_pos (.inl h0)]
    (repeat' (first | refine X.rq ?_ | (refine X.rc ?_ ?_ <;> intro hc <;> first | (exfalso; omega) | skip)))
    refine K.AT.sel [0] rfl ?_
    refine K.done (by first | exact Or.inl rfl | exact Or.inr rfl) rfl (by first | exact K.Base.le.refl _ | assumption) (H' := [_, _]) rfl ⟨rfl, a, k, rfl, rfl⟩
  cases hm : mayQ th mode with
  | false =>
    rw [if_pos (.inr rfl)]
    rw [hm] at hma
    (repeat' (first | refine X.rq ?_ | (refine X.rc ?_ ?_ <;> intro hc <;> first | (exfalso; omega) | skip)))
    refine K.l_callV (Fx.cal rfl) rfl hma (K.pp [] rfl) rfl rfl ?_
    simp only [List.nil_append]
    (repeat' (first | refine X.rq ?_ | (refine X.rc ?_ ?_ <;> intro hc <;> first | (exfalso; omega) | skip)))
    refine K.AT.sel [0] rfl ?_
    refine K.done (by first | exact Or.inl rfl | exact Or.inr rfl) rfl (by first | exact K.Base.le.refl _ | assumption) (H' := [_, _]) rfl ⟨rfl, a, k, rfl, rfl⟩
  | true =>
    rw [if_neg (fun e => e.elim h0 fun e => by cases e)]
    rw [hm] at hma
    have hmm := may_mode hm
    (repeat' (first | refine X.rq ?_ | (refine X.rc ?_ ?_ <;> intro hc <;> first | (exfalso; omega) | skip)))
    refine K.l_callV (Fx.cal rfl) rfl hma (K.pp [] rfl) rfl rfl ?_
    simp only [List.nil_append]
    (repeat' (first | refine X.rq ?_ | (refine X.rc ?_ ?_ <;> intro hc <;> first | (exfalso; omega) | skip)))
    refine K.c_loop (σ := Nat) (fun j => [(0, .pointer (some ⟨BT, 0, none⟩)), (1, .int .u32 txn), (3, .int .i64 mode), (6, .pointer (some ⟨B6, 0, none⟩)), (10, .int .i64 j)]) (fun _ => h) (fun _ => blk B6 36 (cT th) :: rowsA a k l :: refB BT a k l :: F)
      (fun j => j ≤ l.length ∧ (l.take j).any (waitP txn) = false) (fun j => l.length - j) 0 ⟨Nat.zero_le _, rfl⟩ (by repeat (first | exact K.Sub.nil _ | refine K.Sub.cons rfl ?_)) rfl rfl ?_
    rintro j ⟨hj, hno⟩ KL hKL
    by_cases hjl : j < l.length
    · have hx1 : l[j]? = some l[j] := List.getElem?_eq_getElem hjl
      have hmem : l[j] ∈ l := List.getElem_mem hjl
      generalize l[j] = x at hx1 hmem
      have hc0 : (l.map cK)[j]? = some (cK x) := by rw [List.getElem?_map, hx1]; rfl
      have hat := any_take (p := waitP txn) hx1
      rw [hno, Bool.false_or] at hat
      have hwt : waitP txn x = (decide (x.txn = txn) && !x.held) := rfl
      refine K.WC.someBuf 1 rfl (by omega) (fun b hb' => ?_)
      subst hb'
      (repeat' (first | refine X.rq ?_ | (refine X.rc ?_ ?_ <;> intro hc <;> first | (exfalso; omega) | skip)))
      refine K.s_pure (K.p_load (v := .int .u32 x.txn) (Fx.agg rfl) rfl (K.cel_rowZ (q := 0) 1 rfl (seven l) hc0 rfl)) rfl ?_
      by_cases ht : x.txn = txn
      · (repeat' (first | refine X.rq ?_ | (refine X.rc ?_ ?_ <;> intro hc <;> first | (exfalso; omega) | skip)))
        refine K.s_pure (K.p_load (v := .bool x.held) (Fx.agg rfl) rfl (by rw [Nat.zero_add]; exact K.cel_rowZ (q := 6) 1 rfl (seven l) hc0 rfl)) rfl ?_
        cases hxh : x.held with
        | true =>
          (repeat' (first | refine X.rq ?_ | (refine X.rc ?_ ?_ <;> intro hc <;> first | (exfalso; omega) | skip)))
          refine K.a_round hKL (j+1) ⟨by omega, by rw [hat, hwt, hxh]; simp⟩ (by repeat (first | exact K.Sub.nil _ | refine K.Sub.cons rfl ?_)) rfl rfl (by omega)
        | false =>
          have hany : l.any (waitP txn) = true := List.any_eq_true.2 ⟨x, hmem, by rw [hwt, hxh, ht]; simp⟩
          rw [if_pos hany]
          (repeat' (first | refine X.rq ?_ | (refine X.rc ?_ ?_ <;> intro hc <;> first | (exfalso; omega) | skip)))
          refine K.AT.sel [0] rfl ?_
          refine K.done (by first | exact Or.inl rfl | exact Or.inr rfl) rfl (by first | exact K.Base.le.refl _ | assumption) (H' := [_, _]) rfl ⟨rfl, _, k, rfl, rfl⟩
      · (repeat' (first | refine X.rq ?_ | (refine X.rc ?_ ?_ <;> intro hc <;> first | (exfalso; omega) | skip)))
        refine K.a_round hKL (j+1) ⟨by omega, by rw [hat, hwt, decide_eq_false ht]; rfl⟩ (by repeat (first | exact K.Sub.nil _ | refine K.Sub.cons rfl ?_)) rfl rfl (by omega)
    · obtain rfl : j = l.length := by omega
      rw [List.take_length] at hno
      rw [if_neg (by rw [hno]; decide)]
      (repeat' (first | refine X.rq ?_ | (refine X.rc ?_ ?_ <;> intro hc <;> first | (exfalso; omega) | skip)))
      refine K.l_callV (Fx.cal rfl) rfl hha (K.pp [1, 1] rfl) rfl rfl ?_
      simp only [List.nil_append, List.cons_append]
      cases hhs : hasQ l txn th mode with
      | true =>
        rw [if_pos rfl]
        (repeat' (first | refine X.rq ?_ | (refine X.rc ?_ ?_ <;> intro hc <;> first | (exfalso; omega) | skip)))
        refine K.AT.sel [2] rfl ?_
        refine K.done (by first | exact Or.inl rfl | exact Or.inr rfl) rfl (by first | exact K.Base.le.refl _ | assumption) (H' := [_, _]) rfl ⟨rfl, a, k, rfl, rfl⟩
      | false =>
        rw [if_neg (by decide)]
        by_cases hf : 16384 ≤ l.length
        · rw [if_pos hf]
          (repeat' (first | refine X.rq ?_ | (refine X.rc ?_ ?_ <;> intro hc <;> first | (exfalso; omega) | skip)))
          refine K.AT.sel [2] rfl ?_
          refine K.done (by first | exact Or.inl rfl | exact Or.inr rfl) rfl (by first | exact K.Base.le.refl _ | assumption) (H' := [_, _]) rfl ⟨rfl, a, k, rfl, rfl⟩
        · rw [if_neg hf]
          (repeat' (first | refine X.rq ?_ | (refine X.rc ?_ ?_ <;> intro hc <;> first | (exfalso; omega) | skip)))
          refine X.draw ([refB BT a k l, blk B6 36 (cT th)]) [13] (.pu 0 (.pu 1 (.pu 2 (.pu 3 (.pu 5 (.pu 7 (.st 4 (.st 6 (.pu 8 (.on 9 (.on 10 (.pu 11 (.pu 12 (.cl 13 .nil)))))))))))))) ?_ (hQ := by repeat (first | with_reducible refine K.NoPanic.then ?_ | with_reducible refine K.NoPanic.inBlock ?_ | with_reducible exact K.post_noPanic _ _ | exact K.post_noPanic _ _))
          refine K.d_pu rfl (fun _ _ => X.mv) rfl ?_
          refine K.d_pu rfl (fun _ _ => X.mv) rfl ?_
          refine K.d_pu rfl (fun _ _ => X.nc) rfl ?_
          refine K.d_pu rfl (fun _ _ => X.fa) rfl ?_
          refine K.d_pu rfl (fun _ _ => X.mv) rfl ?_
          refine K.d_pu rfl (fun _ _ => X.mv) rfl ?_
          refine K.d_st rfl (K.p_load (Fx.agg rfl) rfl (K.cel_own 0 rfl rfl)) rfl ?_
          refine K.d_st rfl (K.p_loadN (vs := cT th) (Fx.agg rfl) (Fx.sz rfl) rfl (K.cels_own (pre := []) (post := []) 1 rfl rfl)) rfl ?_
          refine K.d_pu rfl (fun _ _ => X.bd) rfl ?_
          refine K.d_on rfl (fun KK hKK => ?_)
          refine K.l_buildSlice (Fx.und rfl) (Fx.sz rfl) rfl (Fx.zr rfl) rfl rfl rfl (cs := cK (newK txn th mode false)) rfl rfl (fun Bs => ?_)
          refine K.l_nil ?_
          refine X.onE hKK ?_
          refine K.d_on rfl (fun KK hKK => ?_)
          refine K.l_append_at 1 rfl (Fx.und rfl) (Fx.und rfl) rfl (Fx.sz rfl) (Fx.zr rfl) rfl (Fx.byt rfl) rfl rfl (K.src_cells (K.cels_own (pre := []) (cs := cK (newK txn th mode false)) (post := []) 0 rfl rfl) rfl (by simp [oneCell, cK])) (by omega) (by omega) rfl (fun a1 k1 => ?_)
          simp only [List.set_cons_zero, List.set_cons_succ, List.eraseIdx_cons_zero, List.eraseIdx_cons_succ, List.cons_append, List.nil_append]
          refine K.l_nil ?_
          refine X.onE hKK ?_
          refine K.d_pu rfl (fun _ _ => X.nc) rfl ?_
          refine K.d_pu rfl (fun _ _ => X.fa) rfl ?_
          refine K.d_cl rfl (fun KK hKK => ?_)
          refine X.sto ?_
          simp only [List.set_cons_zero, List.set_cons_succ, List.eraseIdx_cons_zero, List.eraseIdx_cons_succ, List.cons_append, List.nil_append]
          refine K.l_nil ?_
          refine K.d_clE hKK ?_
          refine K.d_nil ?_
          (repeat' (first | refine X.rq ?_ | (refine X.rc ?_ ?_ <;> intro hc <;> first | (exfalso; omega) | skip)))
          refine K.WC.drop ?_
          rw [show ((l.length + 1 : Nat) : Int) - 1 = ((l.length : Nat) : Int) by omega]
          obtain ⟨x, hx⟩ : ∃ x, x = newK txn th mode false := ⟨_, rfl⟩
          obtain ⟨l1, hl1⟩ : ∃ l1, l1 = l ++ [x] := ⟨_, rfl⟩
          have hn1 : l1.length = l.length + 1 := by rw [hl1, List.length_append]; rfl
          have hfl : (l.map cK).flatten ++ cK (newK txn th mode false) = (l1.map cK).flatten := by rw [hl1, hx, List.map_append, List.flatten_append]; simp
          rw [hfl, ← hn1]
          have hxi : l1[l.length]? = some x := by rw [hl1, List.getElem?_append_right (Nat.le_refl _), Nat.sub_self]; rfl
          have hw1 : ∀ y ∈ l1, wfK y := fun y hy => by
            rw [hl1] at hy
            rcases List.mem_append.1 hy with hy | hy
            · exact hw y hy
            · rw [List.mem_singleton.1 hy, hx]; exact ⟨htx, hth, hmm⟩
          have hfr : decide (((reasonsQ l1 l.length x).length : Int) = 0) = freeQ l txn th mode := by
            rw [freeQ, hl1, hx, Bool.eq_iff_iff, decide_eq_true_iff, List.isEmpty_iff, ← List.length_eq_zero_iff]
            omega
          have hrc : (l1.map cK)[l.length]? = some (cK x) := by rw [List.getElem?_map, hxi]; rfl
          refine K.WC.someBuf 0 rfl (by omega) (fun b hb' => ?_)
          subst hb'
          have hre := RForA h BT (some b) k1 l1 l.length x hw1 hG hxi (by omega)
          refine X.draw ([refB BT (some b) k1 l1]) [] (.pu 0 (.pu 1 (.pu 2 (.pu 4 (.pu 5 (.pu 6 (.st 3 (.on 7 (.pu 8 (.pu 9 (.pu 10 (.pu 11 (.on 12 .nil))))))))))))) ?_ (hQ := by repeat (first | with_reducible refine K.NoPanic.then ?_ | with_reducible refine K.NoPanic.inBlock ?_ | with_reducible exact K.post_noPanic _ _ | exact K.post_noPanic _ _))
          refine K.d_pu rfl (fun _ _ => X.mv) rfl ?_
          refine K.d_pu rfl (fun _ _ => X.nc) rfl ?_
          refine K.d_pu rfl (fun _ _ => X.fa) rfl ?_
          refine K.d_pu rfl (fun _ _ => X.mv) rfl ?_
          refine K.d_pu rfl (fun _ _ => X.mv) rfl ?_
          refine K.d_pu rfl (fun _ _ => X.mv) rfl ?_
          refine K.d_st rfl (K.p_load (Fx.agg rfl) rfl (K.cel_own 0 rfl rfl)) rfl ?_
          refine K.d_on rfl (fun KK hKK => ?_)
          refine K.l_call (Fx.cal rfl) rfl hre (K.pp [0, 0] rfl) rfl ?_
          rintro u h' H' - ⟨e, a2, k2, rfl, rfl⟩
          obtain rfl := e.symm
          simp only [List.nil_append, List.cons_append]
          refine K.l_nil ?_
          refine X.onE hKK ?_
          refine K.d_pu rfl (fun _ _ => X.len) rfl ?_
          refine K.d_pu rfl (fun _ _ => X.beql) rfl ?_
          rw [hfr]
          refine K.d_pu rfl (fun _ _ => X.ia) rfl ?_
          refine K.d_pu rfl (fun _ _ => X.fa) rfl ?_
          refine K.d_on rfl (fun KK hKK => ?_)
          refine K.l_storePart1 (i := l.length) (q := 6) (c := cK x) 0 rfl (Fx.sz rfl) (by show some (Value.pointer (some ⟨b, 0 + ((l.length : Nat) : Int).toNat * 7 + 6, none⟩)) = _; rw [Nat.zero_add]; rfl) rfl rfl (seven l1) hrc (by decide : 6 < 7) ?_
          simp only [List.set_cons_zero, List.set_cons_succ, List.eraseIdx_cons_zero, List.eraseIdx_cons_succ, List.cons_append, List.nil_append]
          refine K.l_nil ?_
          refine X.onE hKK ?_
          refine K.d_nil ?_
          have hset : (l1.map cK).set l.length ((cK x).set 6 (Value.bool (freeQ l txn th mode))) = (l ++ [newK txn th mode (freeQ l txn th mode)]).map cK := by
            rw [hl1, List.map_append, List.set_append_right _ _ (by rw [List.length_map]; exact Nat.le_refl _), List.length_map, Nat.sub_self, hx, List.map_append]
            rfl
          rw [hset]
          generalize freeQ l txn th mode = fr
          have hn2 : (l ++ [newK txn th mode fr]).length = l1.length := by rw [hn1, List.length_append]; rfl
          have hy : ((l ++ [newK txn th mode fr]).map cK)[l.length]? = some (cK (newK txn th mode fr)) := by
            rw [List.getElem?_map, List.getElem?_append_right (Nat.le_refl _), Nat.sub_self]; rfl
          (repeat' (first | refine X.rq ?_ | (refine X.rc ?_ ?_ <;> intro hc <;> first | (exfalso; omega) | skip)))
          refine K.s_pure (K.p_load (v := .bool fr) (Fx.agg rfl) rfl (by rw [Nat.zero_add]; exact K.cel_rowZ 0 rfl (seven _) hy rfl)) rfl ?_
          (repeat' (first | refine X.rq ?_ | (refine X.rc ?_ ?_ <;> intro hc <;> first | (exfalso; omega) | skip)))
          refine K.AT.sel [1, 2] rfl ?_
          refine K.done (by first | exact Or.inl rfl | exact Or.inr rfl) rfl (K.Base.le.refl h) (H' := [_, _]) rfl ⟨rfl, some b, k1, rfl, ?_⟩
          dsimp only
          rw [refB, refB, rowsA, hn2]
end Go.Proofs.YtcpdfajaggbjlaaDoor.Lk
