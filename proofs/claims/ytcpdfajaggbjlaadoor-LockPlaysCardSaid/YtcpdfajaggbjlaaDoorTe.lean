/-
  Whether a transaction has a lock: walked. Conditions: each theorem's own.
-/
import Derived.Test.YtcpdfajaggbjlaaDoorTd

namespace Go.Proofs.YtcpdfajaggbjlaaDoor.Lk
open Go Go.K Go.Proofs Go.Proofs.YtcpdfajaggbjlaaDoor
set_option linter.unusedVariables false
set_option linter.unusedSimpArgs false
set_option maxRecDepth 10000

/-- What the table of modes holds. -/
def hasT : List Value := [.int .u8 0, .int .u8 2, .int .u8 6, .int .u8 10, .int .u8 30]
theorem has_key {m n k : Int} (hm : 1 ≤ m ∧ m ≤ 4) (hn : 1 ≤ n ∧ n ≤ 4) (hk : hasT[m.toNat]? = some (.int .u8 k)) : decide (bits .and .u8 (k.fdiv (2 ^ min n.toNat IntKind.u8.bits)) 1 = 1) = coverQ m n := by
  obtain rfl | rfl | rfl | rfl : m = 1 ∨ m = 2 ∨ m = 3 ∨ m = 4 := by omega
  all_goals
    cases hk
    obtain rfl | rfl | rfl | rfl : n = 1 ∨ n = 2 ∨ n = 3 ∨ n = 4 := by omega
    all_goals decide
def hasP (txn : Nat) (th : PThing) (mode : Int) (x : PLock) : Bool := x.held && (decide (x.txn = txn) && (withinQ th x.thing && coverQ x.mode mode))
def hasQ (l : List PLock) (txn : Nat) (th : PThing) (mode : Int) : Bool := mayQ th mode && l.any (hasP txn th mode)
set_option maxHeartbeats 2000000 in
theorem Has1 (h : Base) (B5 B6 B7 : Nat) (txn : Nat) (th : PThing) (mode : Int) (x : PLock) (hG : Cels h [] 0 0 hasT) (hx : 1 ≤ x.mode ∧ x.mode ≤ 4) (hm : 1 ≤ mode ∧ mode ≤ 4) :
    TrV Tryd.prog 45 [.agg (cK x).toArray, .pointer (some ⟨B5, 0, none⟩), .pointer (some ⟨B6, 0, none⟩), .pointer (some ⟨B7, 0, none⟩)] h [blk B5 34 [.int .u32 txn], blk B6 36 (cT th), blk B7 3 [.int .i64 mode]]
      (.bool (hasP txn th mode x)) [blk B5 34 [.int .u32 txn], blk B6 36 (cT th), blk B7 3 [.int .i64 mode]] := by
  have hwi := CWithin h th x.thing
  obtain ⟨k, hk1, hk2, hk⟩ : ∃ k : Int, 0 ≤ k ∧ k ≤ 255 ∧ hasT[x.mode.toNat]? = some (.int .u8 k) := by
    have : x.mode = 1 ∨ x.mode = 2 ∨ x.mode = 3 ∨ x.mode = 4 := by omega
    rcases this with e | e | e | e <;> rw [e] <;> exact ⟨_, by decide, by decide, rfl⟩
  have hkey := has_key hx hm hk
  refine K.enter Tryd.func45 rfl (Nat.le_of_ble_eq_true rfl) (fun F => ?_)
  simp only [List.nil_append, List.cons_append]
  (repeat' (first | refine X.rq ?_ | (refine X.rc ?_ ?_ <;> intro hc <;> first | (exfalso; omega) | skip)))
  refine K.l_box rfl rfl rfl (fun B4 => ?_)
  have hcl := Cels.get (Cels.up (K := [blk B4 46 (cK x), blk B5 34 [.int .u32 txn], blk B6 36 (cT th), blk B7 3 [.int .i64 mode]]) hG) x.mode.toNat _ hk
  rw [Nat.zero_add] at hcl
  rw [hasP]
  cases hh : x.held with
  | false =>
    rw [Bool.false_and]
    (repeat' (first | refine X.rq ?_ | (refine X.rc ?_ ?_ <;> intro hc <;> first | (exfalso; omega) | skip)))
    refine X.draw ([blk B4 46 (cK x), blk B5 34 [.int .u32 txn], blk B6 36 (cT th), blk B7 3 [.int .i64 mode]]) [] (.pu 0 (.st 1 (.pu 2 (.pu 3 (.st 4 (.st 5 (.pu 6 (.pu 7 (.pu 8 (.pu 10 (.st 9 (.st 11 (.on 12 (.pu 13 (.pu 14 (.pu 15 (.st 16 (.pu 17 (.st 18 (.st 19 (.pu 20 (.pu 21 (.pu 22 (.pu 23 (.pu 24 .nil))))))))))))))))))))))))) ?_
    refine K.d_pu rfl (fun _ _ => X.fa) rfl ?_
    refine K.d_st rfl (K.p_load (v := .bool false) (Fx.agg rfl) rfl (K.cel_own 0 rfl (by show some (Value.bool x.held) = _; rw [hh]))) rfl ?_
    refine K.d_pu rfl (fun _ _ => X.mv) rfl ?_
    first | refine K.d_skip rfl rfl rfl rfl ?_ | refine K.d_skipU rfl rfl rfl rfl rfl ?_ | refine K.d_puG rfl rfl rfl (fun _ _ => X.fa) rfl ?_
    first | refine K.d_skipS rfl rfl rfl rfl ?_ | refine K.d_skipUS rfl rfl rfl rfl rfl ?_ | refine K.d_stG rfl rfl rfl X.ld rfl ?_
    first | refine K.d_skipS rfl rfl rfl rfl ?_ | refine K.d_skipUS rfl rfl rfl rfl rfl ?_ | refine K.d_stG rfl rfl rfl X.ld rfl ?_
    first | refine K.d_skip rfl rfl rfl rfl ?_ | refine K.d_skipU rfl rfl rfl rfl rfl ?_ | refine K.d_puG rfl rfl rfl (fun _ _ => X.beql) rfl ?_
    refine K.d_pu rfl (fun _ _ => X.pk) rfl ?_
    refine K.d_pu rfl (fun _ _ => X.mv) rfl ?_
    first | refine K.d_skip rfl rfl rfl rfl ?_ | refine K.d_skipU rfl rfl rfl rfl rfl ?_ | refine K.d_puG rfl rfl rfl (fun _ _ => X.fa) rfl ?_
    first | refine K.d_skipS rfl rfl rfl rfl ?_ | refine K.d_skipUS rfl rfl rfl rfl rfl ?_ | refine K.d_stG rfl rfl rfl X.ld rfl ?_
    first | refine K.d_skipS rfl rfl rfl rfl ?_ | refine K.d_skipUS rfl rfl rfl rfl rfl ?_ | refine K.d_stG rfl rfl rfl X.ld rfl ?_
    refine K.d_on rfl (fun KK hKK => ?_)
    first | refine K.s_skip rfl rfl rfl ?_ | refine K.s_skipU rfl rfl rfl rfl ?_
    refine K.l_nil ?_
    refine X.onE hKK ?_
    refine K.d_pu rfl (fun _ _ => X.pk) rfl ?_
    refine K.d_pu rfl (fun _ _ => X.mv) rfl ?_
    first | refine K.d_skip rfl rfl rfl rfl ?_ | refine K.d_skipU rfl rfl rfl rfl rfl ?_ | refine K.d_puG rfl rfl rfl (fun _ _ => X.fa) rfl ?_
    first | refine K.d_skipS rfl rfl rfl rfl ?_ | refine K.d_skipUS rfl rfl rfl rfl rfl ?_ | refine K.d_stG rfl rfl rfl X.ld rfl ?_
    first | refine K.d_skip rfl rfl rfl rfl ?_ | refine K.d_skipU rfl rfl rfl rfl rfl ?_ | refine K.d_puG rfl rfl rfl (fun _ _ => X.ia) rfl ?_
    first | refine K.d_skipS rfl rfl rfl rfl ?_ | refine K.d_skipUS rfl rfl rfl rfl rfl ?_ | refine K.d_stG rfl rfl rfl X.ld rfl ?_
    first | refine K.d_skipS rfl rfl rfl rfl ?_ | refine K.d_skipUS rfl rfl rfl rfl rfl ?_ | refine K.d_stG rfl rfl rfl X.ld rfl ?_
    first | refine K.d_skip rfl rfl rfl rfl ?_ | refine K.d_skipU rfl rfl rfl rfl rfl ?_ | refine K.d_puG rfl rfl rfl (fun _ _ => X.bshr) rfl ?_
    first | refine K.d_skip rfl rfl rfl rfl ?_ | refine K.d_skipU rfl rfl rfl rfl rfl ?_ | refine K.d_puG rfl rfl rfl (fun _ _ => X.band) rfl ?_
    first | refine K.d_skip rfl rfl rfl rfl ?_ | refine K.d_skipU rfl rfl rfl rfl rfl ?_ | refine K.d_puG rfl rfl rfl (fun _ _ => X.beql) rfl ?_
    refine K.d_pu rfl (fun _ _ => X.pk) rfl ?_
    refine K.d_pu rfl (fun _ _ => X.sg) rfl ?_
    refine K.d_nil ?_
    (repeat' (first | refine X.rq ?_ | (refine X.rc ?_ ?_ <;> intro hc <;> first | (exfalso; omega) | skip)))
    refine K.AT.sel [0] rfl ?_
    refine K.done (by first | exact Or.inl rfl | exact Or.inr rfl) rfl (by first | exact K.Base.le.refl _ | assumption) (H' := [_, _, _]) rfl ⟨rfl, rfl, rfl⟩
  | true =>
    rw [Bool.true_and]
    by_cases ht : x.txn = txn
    · rw [decide_eq_true ht, Bool.true_and]
      cases hw : withinQ th x.thing with
      | false =>
        rw [hw] at hwi
        (repeat' (first | refine X.rq ?_ | (refine X.rc ?_ ?_ <;> intro hc <;> first | (exfalso; omega) | skip)))
        refine X.draw ([blk B4 46 (cK x), blk B5 34 [.int .u32 txn], blk B6 36 (cT th), blk B7 3 [.int .i64 mode]]) [] (.pu 0 (.st 1 (.pu 2 (.pu 3 (.st 4 (.st 5 (.pu 6 (.pu 7 (.pu 8 (.pu 10 (.st 9 (.st 11 (.on 12 (.pu 13 (.pu 14 (.pu 15 (.st 16 (.pu 17 (.st 18 (.st 19 (.pu 20 (.pu 21 (.pu 22 (.pu 23 (.pu 24 .nil))))))))))))))))))))))))) ?_
        refine K.d_pu rfl (fun _ _ => X.fa) rfl ?_
        refine K.d_st rfl (K.p_load (v := .bool true) (Fx.agg rfl) rfl (K.cel_own 0 rfl (by show some (Value.bool x.held) = _; rw [hh]))) rfl ?_
        refine K.d_pu rfl (fun _ _ => X.mv) rfl ?_
        first | refine K.d_skip rfl rfl rfl rfl ?_ | refine K.d_skipU rfl rfl rfl rfl rfl ?_ | refine K.d_puG rfl rfl rfl (fun _ _ => X.fa) rfl ?_
        refine K.d_stG rfl rfl rfl (K.p_load (Fx.agg rfl) rfl (K.cel_own 0 rfl rfl)) rfl ?_
        refine K.d_stG rfl rfl rfl (K.p_load (Fx.agg rfl) rfl (K.cel_own 1 rfl rfl)) rfl ?_
        first | refine K.d_skip rfl rfl rfl rfl ?_ | refine K.d_skipU rfl rfl rfl rfl rfl ?_ | refine K.d_puG rfl rfl rfl (fun _ _ => X.beql) rfl ?_
        rw [decide_eq_true (show ((x.txn : Nat) : Int) = ((txn : Nat) : Int) by omega)]
        refine K.d_pu rfl (fun _ _ => X.pk) rfl ?_
        refine K.d_pu rfl (fun _ _ => X.mv) rfl ?_
        first | refine K.d_skip rfl rfl rfl rfl ?_ | refine K.d_skipU rfl rfl rfl rfl rfl ?_ | refine K.d_puG rfl rfl rfl (fun _ _ => X.fa) rfl ?_
        refine K.d_stG rfl rfl rfl (K.p_loadN (vs := cT th) (Fx.agg rfl) (Fx.sz rfl) rfl (K.cels_own (pre := []) (post := []) 2 rfl rfl)) rfl ?_
        refine K.d_stG rfl rfl rfl (K.p_loadN (vs := cT x.thing) (Fx.agg rfl) (Fx.sz rfl) rfl (K.cels_own (pre := [_]) (post := [_, _]) 0 rfl rfl)) rfl ?_
        refine K.d_on rfl (fun KK hKK => ?_)
        refine K.s_take rfl rfl ?_
        refine K.l_callV (Fx.cal rfl) rfl hwi (K.pp [] rfl) rfl rfl ?_
        simp only [List.nil_append]
        refine K.l_nil ?_
        refine X.onE hKK ?_
        refine K.d_pu rfl (fun _ _ => X.pk) rfl ?_
        refine K.d_pu rfl (fun _ _ => X.mv) rfl ?_
        first | refine K.d_skip rfl rfl rfl rfl ?_ | refine K.d_skipU rfl rfl rfl rfl rfl ?_ | refine K.d_puG rfl rfl rfl (fun _ _ => X.fa) rfl ?_
        first | refine K.d_skipS rfl rfl rfl rfl ?_ | refine K.d_skipUS rfl rfl rfl rfl rfl ?_ | refine K.d_stG rfl rfl rfl X.ld rfl ?_
        first | refine K.d_skip rfl rfl rfl rfl ?_ | refine K.d_skipU rfl rfl rfl rfl rfl ?_ | refine K.d_puG rfl rfl rfl (fun _ _ => X.ia) rfl ?_
        first | refine K.d_skipS rfl rfl rfl rfl ?_ | refine K.d_skipUS rfl rfl rfl rfl rfl ?_ | refine K.d_stG rfl rfl rfl X.ld rfl ?_
        first | refine K.d_skipS rfl rfl rfl rfl ?_ | refine K.d_skipUS rfl rfl rfl rfl rfl ?_ | refine K.d_stG rfl rfl rfl X.ld rfl ?_
        first | refine K.d_skip rfl rfl rfl rfl ?_ | refine K.d_skipU rfl rfl rfl rfl rfl ?_ | refine K.d_puG rfl rfl rfl (fun _ _ => X.bshr) rfl ?_
        first | refine K.d_skip rfl rfl rfl rfl ?_ | refine K.d_skipU rfl rfl rfl rfl rfl ?_ | refine K.d_puG rfl rfl rfl (fun _ _ => X.band) rfl ?_
        first | refine K.d_skip rfl rfl rfl rfl ?_ | refine K.d_skipU rfl rfl rfl rfl rfl ?_ | refine K.d_puG rfl rfl rfl (fun _ _ => X.beql) rfl ?_
        refine K.d_pu rfl (fun _ _ => X.pk) rfl ?_
        refine K.d_pu rfl (fun _ _ => X.sg) rfl ?_
        refine K.d_nil ?_
        (repeat' (first | refine X.rq ?_ | (refine X.rc ?_ ?_ <;> intro hc <;> first | (exfalso; omega) | skip)))
        refine K.AT.sel [0] rfl ?_
        refine K.done (by first | exact Or.inl rfl | exact Or.inr rfl) rfl (by first | exact K.Base.le.refl _ | assumption) (H' := [_, _, _]) rfl ⟨rfl, rfl, rfl⟩
      | true =>
        rw [hw] at hwi
        rw [Bool.true_and]
        (repeat' (first | refine X.rq ?_ | (refine X.rc ?_ ?_ <;> intro hc <;> first | (exfalso; omega) | skip)))
        refine X.draw ([blk B4 46 (cK x), blk B5 34 [.int .u32 txn], blk B6 36 (cT th), blk B7 3 [.int .i64 mode]]) [] (.pu 0 (.st 1 (.pu 2 (.pu 3 (.st 4 (.st 5 (.pu 6 (.pu 7 (.pu 8 (.pu 10 (.st 9 (.st 11 (.on 12 (.pu 13 (.pu 14 (.pu 15 (.st 16 (.pu 17 (.st 18 (.st 19 (.pu 20 (.pu 21 (.pu 22 (.pu 23 (.pu 24 .nil))))))))))))))))))))))))) ?_
        refine K.d_pu rfl (fun _ _ => X.fa) rfl ?_
        refine K.d_st rfl (K.p_load (v := .bool true) (Fx.agg rfl) rfl (K.cel_own 0 rfl (by show some (Value.bool x.held) = _; rw [hh]))) rfl ?_
        refine K.d_pu rfl (fun _ _ => X.mv) rfl ?_
        first | refine K.d_skip rfl rfl rfl rfl ?_ | refine K.d_skipU rfl rfl rfl rfl rfl ?_ | refine K.d_puG rfl rfl rfl (fun _ _ => X.fa) rfl ?_
        refine K.d_stG rfl rfl rfl (K.p_load (Fx.agg rfl) rfl (K.cel_own 0 rfl rfl)) rfl ?_
        refine K.d_stG rfl rfl rfl (K.p_load (Fx.agg rfl) rfl (K.cel_own 1 rfl rfl)) rfl ?_
        first | refine K.d_skip rfl rfl rfl rfl ?_ | refine K.d_skipU rfl rfl rfl rfl rfl ?_ | refine K.d_puG rfl rfl rfl (fun _ _ => X.beql) rfl ?_
        rw [decide_eq_true (show ((x.txn : Nat) : Int) = ((txn : Nat) : Int) by omega)]
        refine K.d_pu rfl (fun _ _ => X.pk) rfl ?_
        refine K.d_pu rfl (fun _ _ => X.mv) rfl ?_
        first | refine K.d_skip rfl rfl rfl rfl ?_ | refine K.d_skipU rfl rfl rfl rfl rfl ?_ | refine K.d_puG rfl rfl rfl (fun _ _ => X.fa) rfl ?_
        refine K.d_stG rfl rfl rfl (K.p_loadN (vs := cT th) (Fx.agg rfl) (Fx.sz rfl) rfl (K.cels_own (pre := []) (post := []) 2 rfl rfl)) rfl ?_
        refine K.d_stG rfl rfl rfl (K.p_loadN (vs := cT x.thing) (Fx.agg rfl) (Fx.sz rfl) rfl (K.cels_own (pre := [_]) (post := [_, _]) 0 rfl rfl)) rfl ?_
        refine K.d_on rfl (fun KK hKK => ?_)
        refine K.s_take rfl rfl ?_
        refine K.l_callV (Fx.cal rfl) rfl hwi (K.pp [] rfl) rfl rfl ?_
        simp only [List.nil_append]
        refine K.l_nil ?_
        refine X.onE hKK ?_
        refine K.d_pu rfl (fun _ _ => X.pk) rfl ?_
        refine K.d_pu rfl (fun _ _ => X.mv) rfl ?_
        first | refine K.d_skip rfl rfl rfl rfl ?_ | refine K.d_skipU rfl rfl rfl rfl rfl ?_ | refine K.d_puG rfl rfl rfl (fun _ _ => X.fa) rfl ?_
        refine K.d_stG rfl rfl rfl (K.p_load (Fx.agg rfl) rfl (K.cel_own 0 rfl rfl)) rfl ?_
        refine K.d_puG rfl rfl rfl (fun _ _ => K.p_indexA (Fx.und rfl) (Fx.sz rfl) rfl rfl (by omega) (by omega) (Nat.zero_add _)) rfl ?_
        rw [Nat.mul_one]
        refine K.d_stG rfl rfl rfl (K.p_load (Fx.agg rfl) rfl hcl) rfl ?_
        refine K.d_stG rfl rfl rfl (K.p_load (Fx.agg rfl) rfl (K.cel_own 3 rfl rfl)) rfl ?_
        first | refine K.d_skip rfl rfl rfl rfl ?_ | refine K.d_skipU rfl rfl rfl rfl rfl ?_ | refine K.d_puG rfl rfl rfl (fun _ _ => X.bshr) rfl ?_
        first | refine K.d_skip rfl rfl rfl rfl ?_ | refine K.d_skipU rfl rfl rfl rfl rfl ?_ | refine K.d_puG rfl rfl rfl (fun _ _ => X.band) rfl ?_
        first | refine K.d_skip rfl rfl rfl rfl ?_ | refine K.d_skipU rfl rfl rfl rfl rfl ?_ | refine K.d_puG rfl rfl rfl (fun _ _ => X.beql) rfl ?_
        rw [hkey]
        refine K.d_pu rfl (fun _ _ => X.pk) rfl ?_
        refine K.d_pu rfl (fun _ _ => X.sg) rfl ?_
        refine K.d_nil ?_
        (repeat' (first | refine X.rq ?_ | (refine X.rc ?_ ?_ <;> intro hc <;> first | (exfalso; omega) | skip)))
        refine K.AT.sel [0] rfl ?_
        refine K.done (by first | exact Or.inl rfl | exact Or.inr rfl) rfl (by first | exact K.Base.le.refl _ | assumption) (H' := [_, _, _]) rfl ⟨rfl, rfl, rfl⟩
    · rw [decide_eq_false ht, Bool.false_and]
      (repeat' (first | refine X.rq ?_ | (refine X.rc ?_ ?_ <;> intro hc <;> first | (exfalso; omega) | skip)))
      refine X.draw ([blk B4 46 (cK x), blk B5 34 [.int .u32 txn], blk B6 36 (cT th), blk B7 3 [.int .i64 mode]]) [] (.pu 0 (.st 1 (.pu 2 (.pu 3 (.st 4 (.st 5 (.pu 6 (.pu 7 (.pu 8 (.pu 10 (.st 9 (.st 11 (.on 12 (.pu 13 (.pu 14 (.pu 15 (.st 16 (.pu 17 (.st 18 (.st 19 (.pu 20 (.pu 21 (.pu 22 (.pu 23 (.pu 24 .nil))))))))))))))))))))))))) ?_
      refine K.d_pu rfl (fun _ _ => X.fa) rfl ?_
      refine K.d_st rfl (K.p_load (v := .bool true) (Fx.agg rfl) rfl (K.cel_own 0 rfl (by show some (Value.bool x.held) = _; rw [hh]))) rfl ?_
      refine K.d_pu rfl (fun _ _ => X.mv) rfl ?_
      first | refine K.d_skip rfl rfl rfl rfl ?_ | refine K.d_skipU rfl rfl rfl rfl rfl ?_ | refine K.d_puG rfl rfl rfl (fun _ _ => X.fa) rfl ?_
      refine K.d_stG rfl rfl rfl (K.p_load (Fx.agg rfl) rfl (K.cel_own 0 rfl rfl)) rfl ?_
      refine K.d_stG rfl rfl rfl (K.p_load (Fx.agg rfl) rfl (K.cel_own 1 rfl rfl)) rfl ?_
      first | refine K.d_skip rfl rfl rfl rfl ?_ | refine K.d_skipU rfl rfl rfl rfl rfl ?_ | refine K.d_puG rfl rfl rfl (fun _ _ => X.beql) rfl ?_
      rw [decide_eq_false (show ¬ ((x.txn : Nat) : Int) = ((txn : Nat) : Int) by omega)]
      refine K.d_pu rfl (fun _ _ => X.pk) rfl ?_
      refine K.d_pu rfl (fun _ _ => X.mv) rfl ?_
      first | refine K.d_skip rfl rfl rfl rfl ?_ | refine K.d_skipU rfl rfl rfl rfl rfl ?_ | refine K.d_puG rfl rfl rfl (fun _ _ => X.fa) rfl ?_
      first | refine K.d_skipS rfl rfl rfl rfl ?_ | refine K.d_skipUS rfl rfl rfl rfl rfl ?_ | refine K.d_stG rfl rfl rfl X.ld rfl ?_
      first | refine K.d_skipS rfl rfl rfl rfl ?_ | refine K.d_skipUS rfl rfl rfl rfl rfl ?_ | refine K.d_stG rfl rfl rfl X.ld rfl ?_
      refine K.d_on rfl (fun KK hKK => ?_)
      first | refine K.s_skip rfl rfl rfl ?_ | refine K.s_skipU rfl rfl rfl rfl ?_
      refine K.l_nil ?_
      refine X.onE hKK ?_
      refine K.d_pu rfl (fun _ _ => X.pk) rfl ?_
      refine K.d_pu rfl (fun _ _ => X.mv) rfl ?_
      first | refine K.d_skip rfl rfl rfl rfl ?_ | refine K.d_skipU rfl rfl rfl rfl rfl ?_ | refine K.d_puG rfl rfl rfl (fun _ _ => X.fa) rfl ?_
      first | refine K.d_skipS rfl rfl rfl rfl ?_ | refine K.d_skipUS rfl rfl rfl rfl rfl ?_ | refine K.d_stG rfl rfl rfl X.ld rfl ?_
      first | refine K.d_skip rfl rfl rfl rfl ?_ | refine K.d_skipU rfl rfl rfl rfl rfl ?_ | refine K.d_puG rfl rfl rfl (fun _ _ => X.ia) rfl ?_
      first | refine K.d_skipS rfl rfl rfl rfl ?_ | refine K.d_skipUS rfl rfl rfl rfl rfl ?_ | refine K.d_stG rfl rfl rfl X.ld rfl ?_
      first | refine K.d_skipS rfl rfl rfl rfl ?_ | refine K.d_skipUS rfl rfl rfl rfl rfl ?_ | refine K.d_stG rfl rfl rfl X.ld rfl ?_
      first | refine K.d_skip rfl rfl rfl rfl ?_ | refine K.d_skipU rfl rfl rfl rfl rfl ?_ | refine K.d_puG rfl rfl rfl (fun _ _ => X.bshr) rfl ?_
      first | refine K.d_skip rfl rfl rfl rfl ?_ | refine K.d_skipU rfl rfl rfl rfl rfl ?_ | refine K.d_puG rfl rfl rfl (fun _ _ => X.band) rfl ?_
      first | refine K.d_skip rfl rfl rfl rfl ?_ | refine K.d_skipU rfl rfl rfl rfl rfl ?_ | refine K.d_puG rfl rfl rfl (fun _ _ => X.beql) rfl ?_
      refine K.d_pu rfl (fun _ _ => X.pk) rfl ?_
      refine K.d_pu rfl (fun _ _ => X.sg) rfl ?_
      refine K.d_nil ?_
      (repeat' (first | refine X.rq ?_ | (refine X.rc ?_ ?_ <;> intro hc <;> first | (exfalso; omega) | skip)))
      refine K.AT.sel [0] rfl ?_
      refine K.done (by first | exact Or.inl rfl | exact Or.inr rfl) rfl (by first | exact K.Base.le.refl _ | assumption) (H' := [_, _, _]) rfl ⟨rfl, rfl, rfl⟩
theorem may_mode {x : PThing} {mode : Int} (h : mayQ x mode = true) : 1 ≤ mode ∧ mode ≤ 4 := by
  rw [mayQ] at h
  split at h
  · rw [Bool.and_eq_true, decide_eq_true_eq] at h
    omega
  · rw [decide_eq_true_eq] at h
    omega
set_option maxHeartbeats 1000000 in
theorem Has (h : Base) (BT : Nat) (v : Value) (l : List PLock) (txn : Nat) (th : PThing) (mode : Int) (hv : SL h 7 v (l.map cK)) (hw : ∀ x ∈ l, wfK x) (hG : Cels h [] 0 0 hasT) (hth : wfT th) (hl : l.length ≤ 1000000) :
    TrV Tryd.prog 21 [.pointer (some ⟨BT, 0, none⟩), .int .u32 txn, .agg (cT th).toArray, .int .i64 mode] h [blk BT 29 [v]] (.bool (hasQ l txn th mode)) [blk BT 29 [v]] := by
  have hma := CMay h th mode hth
  refine K.enter Tryd.func21 rfl (Nat.le_of_ble_eq_true rfl) (fun F => ?_)
  simp only [List.nil_append, List.cons_append]
  (repeat' (first | refine X.rq ?_ | (refine X.rc ?_ ?_ <;> intro hc <;> first | (exfalso; omega) | skip)))
  refine K.l_box rfl rfl rfl (fun B5 => ?_)
  refine K.l_box rfl rfl rfl (fun B6 => ?_)
  refine K.l_box rfl rfl rfl (fun B7 => ?_)
  rw [hasQ]
  cases hm : mayQ th mode with
  | false =>
    rw [hm] at hma
    rw [Bool.false_and]
    (repeat' (first | refine X.rq ?_ | (refine X.rc ?_ ?_ <;> intro hc <;> first | (exfalso; omega) | skip)))
    refine K.l_callV (Fx.cal rfl) rfl hma (K.pp [] rfl) rfl rfl ?_
    simp only [List.nil_append]
    (repeat' (first | refine X.rq ?_ | (refine X.rc ?_ ?_ <;> intro hc <;> first | (exfalso; omega) | skip)))
    refine K.AT.sel [0, 0, 0] rfl ?_
    refine K.done (by first | exact Or.inl rfl | exact Or.inr rfl) rfl (by first | exact K.Base.le.refl _ | assumption) (H' := [_]) rfl ⟨rfl, rfl, rfl⟩
  | true =>
    rw [hm] at hma
    rw [Bool.true_and]
    have hmm := may_mode hm
    obtain ⟨ao, ca, rfl⟩ := hv.len
    (repeat' (first | refine X.rq ?_ | (refine X.rc ?_ ?_ <;> intro hc <;> first | (exfalso; omega) | skip)))
    refine K.l_callV (Fx.cal rfl) rfl hma (K.pp [] rfl) rfl rfl ?_
    simp only [List.nil_append]
    (repeat' (first | refine X.rq ?_ | (refine X.rc ?_ ?_ <;> intro hc <;> first | (exfalso; omega) | skip)))
    refine K.s_pure (K.p_makeFunc rfl) rfl ?_
    refine K.l_callV (Fx.cal rfl) rfl (CtnL h [blk B5 34 [.int .u32 txn], blk B6 36 (cT th), blk B7 3 [.int .i64 mode]] 45 [_, _, _] (Fx.cal rfl) _ l (hasP txn th mode) hv.k (by omega) (fun x hx => Has1 h B5 B6 B7 txn th mode x hG (hw x hx).mode hmm)) (K.pp [2, 1, 0] rfl) rfl rfl ?_
    simp only [List.nil_append, List.cons_append]
    (repeat' (first | refine X.rq ?_ | (refine X.rc ?_ ?_ <;> intro hc <;> first | (exfalso; omega) | skip)))
    refine K.AT.sel [0, 0, 0] rfl ?_
    refine K.done (by first | exact Or.inl rfl | exact Or.inr rfl) rfl (by first | exact K.Base.le.refl _ | assumption) (H' := [_]) rfl ⟨rfl, rfl, rfl⟩
theorem HasNil (h : Base) (txn : Nat) (th : PThing) (mode : Int) : TrV Tryd.prog 21 [.pointer none, .int .u32 txn, .agg (cT th).toArray, .int .i64 mode] h [] (.bool false) [] := by
  refine K.enter Tryd.func21 rfl (Nat.le_of_ble_eq_true rfl) (fun F => ?_)
  simp only [List.nil_append, List.cons_append]
  (repeat' (first | refine X.rq ?_ | (refine X.rc ?_ ?_ <;> intro hc <;> first | (exfalso; omega) | skip)))
  refine K.l_box rfl rfl rfl (fun B5 => ?_)
  refine K.l_box rfl rfl rfl (fun B6 => ?_)
  refine K.l_box rfl rfl rfl (fun B7 => ?_)
  (repeat' (first | refine X.rq ?_ | (refine X.rc ?_ ?_ <;> intro hc <;> first | (exfalso; omega) | skip)))
  refine K.AT.sel [0, 0, 0] rfl ?_
  refine K.done (by first | exact Or.inl rfl | exact Or.inr rfl) rfl (by first | exact K.Base.le.refl _ | assumption) (H' := []) rfl ⟨rfl, rfl, rfl⟩
end Go.Proofs.YtcpdfajaggbjlaaDoor.Lk
