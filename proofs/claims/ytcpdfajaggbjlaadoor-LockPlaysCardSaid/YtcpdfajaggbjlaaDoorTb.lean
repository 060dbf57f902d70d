/-
  Whether a thing may be, whether one lock is why another one waits: walked. Conditions: each theorem's own.
-/
import Derived.Test.YtcpdfajaggbjlaaDoorTa

namespace Go.Proofs.YtcpdfajaggbjlaaDoor.Lk
open Go Go.K Go.Proofs Go.Proofs.YtcpdfajaggbjlaaDoor
set_option linter.unusedVariables false
set_option linter.unusedSimpArgs false
set_option maxRecDepth 10000

theorem CMay (h : Base) (x : PThing) (mode : Int) (hx : wfT x) : TrV Tryd.prog 42 [.agg (cT x).toArray, .int .i64 mode] h [] (.bool (mayQ x mode)) [] := by
  have hz1 := hx.frm
  have hz2 := hx.to
  refine K.enter Tryd.func42 rfl (Nat.le_of_ble_eq_true rfl) (fun F => ?_)
  simp only [List.nil_append]
  (repeat' (first | refine X.rq ?_ | (refine X.rc ?_ ?_ <;> intro hc <;> first | (exfalso; omega) | skip)))
  refine K.l_box rfl rfl rfl (fun B2 => ?_)
  rw [mayQ]
  cases hr : x.rng with
  | false =>
    rw [if_neg (by decide)]
    (repeat' (first | refine X.rq ?_ | (refine X.rc ?_ ?_ <;> intro hc <;> first | (exfalso; omega) | skip)))
    all_goals first | (exfalso; simp_all; done) | skip
    all_goals
      refine K.AT.sel [0] rfl ?_
      refine K.done (by first | exact Or.inl rfl | exact Or.inr rfl) rfl (by first | exact K.Base.le.refl _ | assumption) (H' := []) rfl ⟨?_, rfl, rfl⟩
      show Value.bool _ = Value.bool _
      congr 1
      rw [Bool.eq_iff_iff]
      simp only [decide_eq_true_iff, true_iff, false_iff, Bool.false_eq_true]
      first | (simp_all; done) | (simp_all; omega) | skip
  | true =>
    rw [if_pos rfl]
    (repeat' (first | refine X.rq ?_ | (refine X.rc ?_ ?_ <;> intro hc <;> first | (exfalso; omega) | skip)))
    all_goals first | (exfalso; simp_all; done) | skip
    all_goals
      refine K.AT.sel [0] rfl ?_
      refine K.done (by first | exact Or.inl rfl | exact Or.inr rfl) rfl (by first | exact K.Base.le.refl _ | assumption) (H' := []) rfl ⟨?_, rfl, rfl⟩
      show Value.bool _ = Value.bool _
      congr 1
      rw [Bool.eq_iff_iff]
      simp only [decide_eq_true_iff, true_iff, false_iff, Bool.false_eq_true, Bool.and_eq_true]
      first | (simp_all [ltS]; done) | (simp_all [ltS]; omega) | skip
theorem RMay (h : Base) (x : PThing) (mode : Int) (hx : wfT x) : TrV Tryd.prog 50 [.agg (cT x).toArray, .int .i64 mode] h [] (.bool (mayQ x mode)) [] := by
  have hz1 := hx.frm
  have hz2 := hx.to
  have hlt : (!Op.bytesLess x.frm.toList x.to.toList) = !ltS x.frm x.to := rfl
  refine K.enter Tryd.func50 rfl (Nat.le_of_ble_eq_true rfl) (fun F => ?_)
  simp only [List.nil_append]
  (repeat' (first | refine X.rq ?_ | (refine X.rc ?_ ?_ <;> intro hc <;> first | (exfalso; omega) | skip)))
  refine K.l_box rfl rfl rfl (fun B2 => ?_)
  rw [mayQ]
  cases hr : x.rng with
  | false =>
    rw [if_neg (by decide)]
    (repeat' (first | refine X.rq ?_ | (refine X.rc ?_ ?_ <;> intro hc <;> first | (exfalso; omega) | skip)))
    all_goals first | (exfalso; simp_all; done) | skip
    all_goals
      refine K.AT.sel [0] rfl ?_
      refine K.done (by first | exact Or.inl rfl | exact Or.inr rfl) rfl (by first | exact K.Base.le.refl _ | assumption) (H' := []) rfl ⟨?_, rfl, rfl⟩
      show Value.bool _ = Value.bool _
      congr 1
      rw [Bool.eq_iff_iff]
      simp only [decide_eq_true_iff, true_iff, false_iff, Bool.false_eq_true]
      first | (simp_all; done) | (simp_all; omega) | skip
  | true =>
    rw [if_pos rfl]
    (repeat' (first | refine X.rq ?_ | (refine X.rc ?_ ?_ <;> intro hc <;> first | (exfalso; omega) | skip)))
    all_goals first | (exfalso; simp_all; done) | skip
    all_goals
      refine K.AT.sel [0] rfl ?_
      refine K.done (by first | exact Or.inl rfl | exact Or.inr rfl) rfl (by first | exact K.Base.le.refl _ | assumption) (H' := []) rfl ⟨?_, rfl, rfl⟩
      show Value.bool _ = Value.bool _
      congr 1
      rw [Bool.eq_iff_iff]
      simp only [decide_eq_true_iff, true_iff, false_iff, Bool.false_eq_true, Bool.and_eq_true, Bool.or_eq_true]
      first | (simp_all [ltS]; done) | (simp_all [ltS]; omega) | skip
/-- What the table of conflicts holds. -/
def confT : List Value := [.int .u8 0, .int .u8 16, .int .u8 24, .int .u8 20, .int .u8 30]
theorem conf_key {m n k : Int} (hm : 1 ≤ m ∧ m ≤ 4) (hn : 1 ≤ n ∧ n ≤ 4) (hk : confT[m.toNat]? = some (.int .u8 k)) : decide (bits .and .u8 (k.fdiv (2 ^ min n.toNat IntKind.u8.bits)) 1 = 1) = confQ m n := by
  obtain rfl | rfl | rfl | rfl : m = 1 ∨ m = 2 ∨ m = 3 ∨ m = 4 := by omega
  all_goals
    cases hk
    obtain rfl | rfl | rfl | rfl : n = 1 ∨ n = 2 ∨ n = 3 ∨ n = 4 := by omega
    all_goals decide
set_option maxHeartbeats 2000000 in
theorem Blocks (h : Base) (a b : PLock) (hG : Cels h [] 1 0 confT) (ha : 1 ≤ a.mode ∧ a.mode ≤ 4) (hb : 1 ≤ b.mode ∧ b.mode ≤ 4) : TrV Tryd.prog 55 [.agg (cK a).toArray, .agg (cK b).toArray] h [] (.bool (decide (a.txn ≠ b.txn) && (confQ a.mode b.mode && meetQ a.thing b.thing))) [] := by
  have hme := CMeet h a.thing b.thing
  obtain ⟨k, hk1, hk2, hk⟩ : ∃ k : Int, 0 ≤ k ∧ k ≤ 255 ∧ confT[a.mode.toNat]? = some (.int .u8 k) := by
    have : a.mode = 1 ∨ a.mode = 2 ∨ a.mode = 3 ∨ a.mode = 4 := by omega
    rcases this with e | e | e | e <;> rw [e] <;> exact ⟨_, by decide, by decide, rfl⟩
  refine K.enter Tryd.func55 rfl (Nat.le_of_ble_eq_true rfl) (fun F => ?_)
  simp only [List.nil_append]
  (repeat' (first | refine X.rq ?_ | (refine X.rc ?_ ?_ <;> intro hc <;> first | (exfalso; omega) | skip)))
  refine K.l_box rfl rfl rfl (fun B2 => ?_)
  refine K.l_box rfl rfl rfl (fun B3 => ?_)
  have hcl := Cels.get (Cels.up (K := blk B3 46 (cK b) :: blk B2 46 (cK a) :: []) hG) a.mode.toNat _ hk
  rw [Nat.zero_add] at hcl
  by_cases hne : a.txn = b.txn
  · rw [decide_eq_false (fun e => e hne), Bool.false_and]
    (repeat' (first | refine X.rq ?_ | (refine X.rc ?_ ?_ <;> intro hc <;> first | (exfalso; omega) | skip)))
    refine X.draw ([blk B3 46 (cK b), blk B2 46 (cK a)]) [] (.pu 0 (.pu 2 (.st 1 (.st 3 (.pu 4 (.pu 5 (.pu 6 (.pu 10 (.st 7 (.pu 8 (.st 9 (.st 11 (.pu 12 (.pu 13 (.pu 14 (.pu 15 (.pu 16 (.pu 17 (.pu 19 (.st 18 (.st 20 (.on 21 (.pu 22 (.pu 23 .nil)))))))))))))))))))))))) ?_
    refine K.d_pu rfl (fun _ _ => X.fa) rfl ?_
    refine K.d_pu rfl (fun _ _ => X.fa) rfl ?_
    refine K.d_st rfl X.ld rfl ?_
    refine K.d_st rfl X.ld rfl ?_
    refine K.d_pu rfl (fun _ _ => X.bneq) rfl ?_
    rw [decide_eq_false (show ¬ ((a.txn : Nat) : Int) ≠ ((b.txn : Nat) : Int) by omega)]
    refine K.d_pu rfl (fun _ _ => X.mv) rfl ?_
    first | refine K.d_skip rfl rfl rfl rfl ?_ | refine K.d_skipU rfl rfl rfl rfl rfl ?_ | refine K.d_puG rfl rfl rfl (fun _ _ => X.fa) rfl ?_
    first | refine K.d_skip rfl rfl rfl rfl ?_ | refine K.d_skipU rfl rfl rfl rfl rfl ?_ | refine K.d_puG rfl rfl rfl (fun _ _ => X.fa) rfl ?_
    first | refine K.d_skipS rfl rfl rfl rfl ?_ | refine K.d_skipUS rfl rfl rfl rfl rfl ?_ | refine K.d_stG rfl rfl rfl X.ld rfl ?_
    first | refine K.d_skip rfl rfl rfl rfl ?_ | refine K.d_skipU rfl rfl rfl rfl rfl ?_ | refine K.d_puG rfl rfl rfl (fun _ _ => X.ia) rfl ?_
    first | refine K.d_skipS rfl rfl rfl rfl ?_ | refine K.d_skipUS rfl rfl rfl rfl rfl ?_ | refine K.d_stG rfl rfl rfl X.ld rfl ?_
    first | refine K.d_skipS rfl rfl rfl rfl ?_ | refine K.d_skipUS rfl rfl rfl rfl rfl ?_ | refine K.d_stG rfl rfl rfl X.ld rfl ?_
    first | refine K.d_skip rfl rfl rfl rfl ?_ | refine K.d_skipU rfl rfl rfl rfl rfl ?_ | refine K.d_puG rfl rfl rfl (fun _ _ => X.bshr) rfl ?_
    first | refine K.d_skip rfl rfl rfl rfl ?_ | refine K.d_skipU rfl rfl rfl rfl rfl ?_ | refine K.d_puG rfl rfl rfl (fun _ _ => X.band) rfl ?_
    first | refine K.d_skip rfl rfl rfl rfl ?_ | refine K.d_skipU rfl rfl rfl rfl rfl ?_ | refine K.d_puG rfl rfl rfl (fun _ _ => X.beql) rfl ?_
    refine K.d_pu rfl (fun _ _ => X.pk) rfl ?_
    refine K.d_pu rfl (fun _ _ => X.mv) rfl ?_
    first | refine K.d_skip rfl rfl rfl rfl ?_ | refine K.d_skipU rfl rfl rfl rfl rfl ?_ | refine K.d_puG rfl rfl rfl (fun _ _ => X.fa) rfl ?_
    first | refine K.d_skip rfl rfl rfl rfl ?_ | refine K.d_skipU rfl rfl rfl rfl rfl ?_ | refine K.d_puG rfl rfl rfl (fun _ _ => X.fa) rfl ?_
    first | refine K.d_skipS rfl rfl rfl rfl ?_ | refine K.d_skipUS rfl rfl rfl rfl rfl ?_ | refine K.d_stG rfl rfl rfl X.ld rfl ?_
    first | refine K.d_skipS rfl rfl rfl rfl ?_ | refine K.d_skipUS rfl rfl rfl rfl rfl ?_ | refine K.d_stG rfl rfl rfl X.ld rfl ?_
    refine K.d_on rfl (fun KK hKK => ?_)
    first | refine K.s_skip rfl rfl rfl ?_ | refine K.s_skipU rfl rfl rfl rfl ?_
    refine K.l_nil ?_
    refine X.onE hKK ?_
    refine K.d_pu rfl (fun _ _ => X.pk) rfl ?_
    refine K.d_pu rfl (fun _ _ => X.sg) rfl ?_
    refine K.d_nil ?_
    (repeat' (first | refine X.rq ?_ | (refine X.rc ?_ ?_ <;> intro hc <;> first | (exfalso; omega) | skip)))
    refine K.AT.sel [0, 0] rfl ?_
    refine K.done (by first | exact Or.inl rfl | exact Or.inr rfl) rfl (by first | exact K.Base.le.refl _ | assumption) (H' := []) rfl ⟨rfl, rfl, rfl⟩
  · rw [decide_eq_true hne, Bool.true_and]
    have hkey := conf_key ha hb hk
    cases hq : confQ a.mode b.mode with
    | false =>
      rw [hq] at hkey
      (repeat' (first | refine X.rq ?_ | (refine X.rc ?_ ?_ <;> intro hc <;> first | (exfalso; omega) | skip)))
      refine X.draw ([blk B3 46 (cK b), blk B2 46 (cK a)]) [] (.pu 0 (.pu 2 (.st 1 (.st 3 (.pu 4 (.pu 5 (.pu 6 (.pu 10 (.st 7 (.pu 8 (.st 9 (.st 11 (.pu 12 (.pu 13 (.pu 14 (.pu 15 (.pu 16 (.pu 17 (.pu 19 (.st 18 (.st 20 (.on 21 (.pu 22 (.pu 23 .nil)))))))))))))))))))))))) ?_
      refine K.d_pu rfl (fun _ _ => X.fa) rfl ?_
      refine K.d_pu rfl (fun _ _ => X.fa) rfl ?_
      refine K.d_st rfl X.ld rfl ?_
      refine K.d_st rfl X.ld rfl ?_
      refine K.d_pu rfl (fun _ _ => X.bneq) rfl ?_
      rw [decide_eq_true (show ((a.txn : Nat) : Int) ≠ ((b.txn : Nat) : Int) by omega)]
      refine K.d_pu rfl (fun _ _ => X.mv) rfl ?_
      first | refine K.d_skip rfl rfl rfl rfl ?_ | refine K.d_skipU rfl rfl rfl rfl rfl ?_ | refine K.d_puG rfl rfl rfl (fun _ _ => X.fa) rfl ?_
      first | refine K.d_skip rfl rfl rfl rfl ?_ | refine K.d_skipU rfl rfl rfl rfl rfl ?_ | refine K.d_puG rfl rfl rfl (fun _ _ => X.fa) rfl ?_
      refine K.d_stG rfl rfl rfl (K.p_load (Fx.agg rfl) rfl (K.cel_own 1 rfl rfl)) rfl ?_
      refine K.d_puG rfl rfl rfl (fun _ _ => K.p_indexA (Fx.und rfl) (Fx.sz rfl) rfl rfl (by omega) (by omega) (Nat.zero_add _)) rfl ?_
      rw [Nat.mul_one]
      refine K.d_stG rfl rfl rfl (K.p_load (Fx.agg rfl) rfl hcl) rfl ?_
      refine K.d_stG rfl rfl rfl (K.p_load (Fx.agg rfl) rfl (K.cel_own 0 rfl rfl)) rfl ?_
      first | refine K.d_skip rfl rfl rfl rfl ?_ | refine K.d_skipU rfl rfl rfl rfl rfl ?_ | refine K.d_puG rfl rfl rfl (fun _ _ => X.bshr) rfl ?_
      first | refine K.d_skip rfl rfl rfl rfl ?_ | refine K.d_skipU rfl rfl rfl rfl rfl ?_ | refine K.d_puG rfl rfl rfl (fun _ _ => X.band) rfl ?_
      first | refine K.d_skip rfl rfl rfl rfl ?_ | refine K.d_skipU rfl rfl rfl rfl rfl ?_ | refine K.d_puG rfl rfl rfl (fun _ _ => X.beql) rfl ?_
      rw [hkey]
      refine K.d_pu rfl (fun _ _ => X.pk) rfl ?_
      refine K.d_pu rfl (fun _ _ => X.mv) rfl ?_
      first | refine K.d_skip rfl rfl rfl rfl ?_ | refine K.d_skipU rfl rfl rfl rfl rfl ?_ | refine K.d_puG rfl rfl rfl (fun _ _ => X.fa) rfl ?_
      first | refine K.d_skip rfl rfl rfl rfl ?_ | refine K.d_skipU rfl rfl rfl rfl rfl ?_ | refine K.d_puG rfl rfl rfl (fun _ _ => X.fa) rfl ?_
      first | refine K.d_skipS rfl rfl rfl rfl ?_ | refine K.d_skipUS rfl rfl rfl rfl rfl ?_ | refine K.d_stG rfl rfl rfl X.ld rfl ?_
      first | refine K.d_skipS rfl rfl rfl rfl ?_ | refine K.d_skipUS rfl rfl rfl rfl rfl ?_ | refine K.d_stG rfl rfl rfl X.ld rfl ?_
      refine K.d_on rfl (fun KK hKK => ?_)
      first | refine K.s_skip rfl rfl rfl ?_ | refine K.s_skipU rfl rfl rfl rfl ?_
      refine K.l_nil ?_
      refine X.onE hKK ?_
      refine K.d_pu rfl (fun _ _ => X.pk) rfl ?_
      refine K.d_pu rfl (fun _ _ => X.sg) rfl ?_
      refine K.d_nil ?_
      (repeat' (first | refine X.rq ?_ | (refine X.rc ?_ ?_ <;> intro hc <;> first | (exfalso; omega) | skip)))
      refine K.AT.sel [0, 0] rfl ?_
      refine K.done (by first | exact Or.inl rfl | exact Or.inr rfl) rfl (by first | exact K.Base.le.refl _ | assumption) (H' := []) rfl ⟨?_, rfl, rfl⟩
      first | rfl | (show Value.bool _ = Value.bool _; congr 1; simp)
    | true =>
      rw [hq] at hkey
      (repeat' (first | refine X.rq ?_ | (refine X.rc ?_ ?_ <;> intro hc <;> first | (exfalso; omega) | skip)))
      refine X.draw ([blk B3 46 (cK b), blk B2 46 (cK a)]) [] (.pu 0 (.pu 2 (.st 1 (.st 3 (.pu 4 (.pu 5 (.pu 6 (.pu 10 (.st 7 (.pu 8 (.st 9 (.st 11 (.pu 12 (.pu 13 (.pu 14 (.pu 15 (.pu 16 (.pu 17 (.pu 19 (.st 18 (.st 20 (.on 21 (.pu 22 (.pu 23 .nil)))))))))))))))))))))))) ?_
      refine K.d_pu rfl (fun _ _ => X.fa) rfl ?_
      refine K.d_pu rfl (fun _ _ => X.fa) rfl ?_
      refine K.d_st rfl X.ld rfl ?_
      refine K.d_st rfl X.ld rfl ?_
      refine K.d_pu rfl (fun _ _ => X.bneq) rfl ?_
      rw [decide_eq_true (show ((a.txn : Nat) : Int) ≠ ((b.txn : Nat) : Int) by omega)]
      refine K.d_pu rfl (fun _ _ => X.mv) rfl ?_
      first | refine K.d_skip rfl rfl rfl rfl ?_ | refine K.d_skipU rfl rfl rfl rfl rfl ?_ | refine K.d_puG rfl rfl rfl (fun _ _ => X.fa) rfl ?_
      first | refine K.d_skip rfl rfl rfl rfl ?_ | refine K.d_skipU rfl rfl rfl rfl rfl ?_ | refine K.d_puG rfl rfl rfl (fun _ _ => X.fa) rfl ?_
      refine K.d_stG rfl rfl rfl (K.p_load (Fx.agg rfl) rfl (K.cel_own 1 rfl rfl)) rfl ?_
      refine K.d_puG rfl rfl rfl (fun _ _ => K.p_indexA (Fx.und rfl) (Fx.sz rfl) rfl rfl (by omega) (by omega) (Nat.zero_add _)) rfl ?_
      rw [Nat.mul_one]
      refine K.d_stG rfl rfl rfl (K.p_load (Fx.agg rfl) rfl hcl) rfl ?_
      refine K.d_stG rfl rfl rfl (K.p_load (Fx.agg rfl) rfl (K.cel_own 0 rfl rfl)) rfl ?_
      first | refine K.d_skip rfl rfl rfl rfl ?_ | refine K.d_skipU rfl rfl rfl rfl rfl ?_ | refine K.d_puG rfl rfl rfl (fun _ _ => X.bshr) rfl ?_
      first | refine K.d_skip rfl rfl rfl rfl ?_ | refine K.d_skipU rfl rfl rfl rfl rfl ?_ | refine K.d_puG rfl rfl rfl (fun _ _ => X.band) rfl ?_
      first | refine K.d_skip rfl rfl rfl rfl ?_ | refine K.d_skipU rfl rfl rfl rfl rfl ?_ | refine K.d_puG rfl rfl rfl (fun _ _ => X.beql) rfl ?_
      rw [hkey]
      refine K.d_pu rfl (fun _ _ => X.pk) rfl ?_
      refine K.d_pu rfl (fun _ _ => X.mv) rfl ?_
      first | refine K.d_skip rfl rfl rfl rfl ?_ | refine K.d_skipU rfl rfl rfl rfl rfl ?_ | refine K.d_puG rfl rfl rfl (fun _ _ => X.fa) rfl ?_
      first | refine K.d_skip rfl rfl rfl rfl ?_ | refine K.d_skipU rfl rfl rfl rfl rfl ?_ | refine K.d_puG rfl rfl rfl (fun _ _ => X.fa) rfl ?_
      refine K.d_stG rfl rfl rfl (K.p_loadN (vs := cT a.thing) (Fx.agg rfl) (Fx.sz rfl) rfl (K.cels_own (pre := [_]) (post := [_, _]) 1 rfl rfl)) rfl ?_
      refine K.d_stG rfl rfl rfl (K.p_loadN (vs := cT b.thing) (Fx.agg rfl) (Fx.sz rfl) rfl (K.cels_own (pre := [_]) (post := [_, _]) 0 rfl rfl)) rfl ?_
      refine K.d_on rfl (fun KK hKK => ?_)
      refine K.s_take rfl rfl ?_
      refine K.l_callV (Fx.cal rfl) rfl hme (K.pp [] rfl) rfl rfl ?_
      simp only [List.nil_append]
      refine K.l_nil ?_
      refine X.onE hKK ?_
      refine K.d_pu rfl (fun _ _ => X.pk) rfl ?_
      refine K.d_pu rfl (fun _ _ => X.sg) rfl ?_
      refine K.d_nil ?_
      (repeat' (first | refine X.rq ?_ | (refine X.rc ?_ ?_ <;> intro hc <;> first | (exfalso; omega) | skip)))
      refine K.AT.sel [0, 0] rfl ?_
      refine K.done (by first | exact Or.inl rfl | exact Or.inr rfl) rfl (by first | exact K.Base.le.refl _ | assumption) (H' := []) rfl ⟨?_, rfl, rfl⟩
      first | rfl | (show Value.bool _ = Value.bool _; congr 1; simp)
end Go.Proofs.YtcpdfajaggbjlaaDoor.Lk
