/-
  The walks of the reference, reading. Conditions: each theorem's own.
-/
import Derived.Test.YtjgfgpdkcojnmaaCf
import Derived.Test.YtjgfgpdkcojnmaaMX
import Derived.Test.YtjgfgpdkcojnmaaRa

namespace Go.Proofs.Ytjgfgpdkcojnmaa.Rb
open Go Go.K Go.Proofs Go.Proofs.Ytjgfgpdkcojnmaa Go.Proofs.Ytjgfgpdkcojnmaa.Cc
set_option linter.unusedVariables false
set_option linter.unusedSimpArgs false
set_option maxRecDepth 10000

def qv (p : Nat) : Value := .pointer (some ⟨p, 0, none⟩)
def qA (p : Nat) (sv : Value) (bad : Bool) : Asrt := blk p 95 [sv, .bool bad]
/-- What every reading does. -/
def QPost (h : Base) (p : Nat) (ok : Bool) (rem : List UInt8) (V : Value → Prop) (v : Value) (h' : Base) (H' : List Asrt) : Prop := h = h' ∧ V v ∧ ∃ sv', BV h sv' rem ∧ H' = [qA p sv' (!ok)]

theorem Q_take_no (h : Base) (p : Nat) (sv : Value) (ok : Bool) (rem : List UInt8) (m : Int) (hb : BV h sv rem) (hl : rem.length ≤ big) (hm1 : -9223372036854775808 ≤ m) (hm2 : m ≤ 9223372036854775807) (hno : ok = false ∨ m < 0 ∨ (rem.length : Int) < m) :
    Tr Try.prog 74 [qv p, .int .i64 m] h [qA p sv (!ok)] (QPost h p false rem (· = .slice none 0 0)) := by
  unfold big at hl
  obtain ⟨ao, c, rfl⟩ := hb.len
  refine K.enter Try.func74 rfl (Nat.le_of_ble_eq_true rfl) (fun F => ?_)
  simp only [qv, qA, List.cons_append, List.nil_append]
  cases ok with
  | false =>
    simp only [Bool.not_false]
    (repeat' (first | (apply K.s_pure; (first | (apply Y.mv; exact X.mv) | (apply Y.sg; exact X.sg) | (apply Y.pk; exact X.pk) | (apply Y.nc; exact X.nc) | (apply Y.fa; exact X.fa) | (apply Y.ld; exact X.ld) | (apply Y.ia; exact X.ia) | (apply Y.sl; exact X.sl) | (apply Y.len; exact X.len) | (apply Y.badd; exact X.badd) | (apply Y.blss; exact X.blss) | (apply Y.bgtr; exact X.bgtr)); exact rfl) | refine X.l ?_ | refine X.w ?_ | refine X.a ?_ | (refine K.c_condD rfl (fun hc => ?_) (fun hc => ?_) <;> first | (exfalso; omega) | skip) | refine K.c_cond rfl (fun hc => ?_) (fun hc => ?_) | (refine K.s_guardD rfl rfl (fun hc => ?_) (fun hc => ?_) <;> first | (exfalso; omega) | skip) | refine K.s_guard rfl rfl (fun hc => ?_) (fun hc => ?_)))
    refine X.sto ?_
    (repeat' (first | (apply K.s_pure; (first | (apply Y.mv; exact X.mv) | (apply Y.sg; exact X.sg) | (apply Y.pk; exact X.pk) | (apply Y.nc; exact X.nc) | (apply Y.fa; exact X.fa) | (apply Y.ld; exact X.ld) | (apply Y.ia; exact X.ia) | (apply Y.sl; exact X.sl) | (apply Y.len; exact X.len) | (apply Y.badd; exact X.badd) | (apply Y.blss; exact X.blss) | (apply Y.bgtr; exact X.bgtr)); exact rfl) | refine X.l ?_ | refine X.w ?_ | refine X.a ?_ | (refine K.c_condD rfl (fun hc => ?_) (fun hc => ?_) <;> first | (exfalso; omega) | skip) | refine K.c_cond rfl (fun hc => ?_) (fun hc => ?_) | (refine K.s_guardD rfl rfl (fun hc => ?_) (fun hc => ?_) <;> first | (exfalso; omega) | skip) | refine K.s_guard rfl rfl (fun hc => ?_) (fun hc => ?_)))
    refine K.done (by first | exact Or.inl rfl | exact Or.inr rfl) rfl (by first | exact K.Base.le.refl _ | assumption) (H' := [qA p _ true]) rfl ⟨rfl, rfl, _, hb, rfl⟩
  | true =>
    have hno' : m < 0 ∨ (rem.length : Int) < m := by simpa using hno
    clear hno
    simp only [Bool.not_true]
    by_cases hneg : m < 0
    · (repeat' (first | (apply K.s_pure; (first | (apply Y.mv; exact X.mv) | (apply Y.sg; exact X.sg) | (apply Y.pk; exact X.pk) | (apply Y.nc; exact X.nc) | (apply Y.fa; exact X.fa) | (apply Y.ld; exact X.ld) | (apply Y.ia; exact X.ia) | (apply Y.sl; exact X.sl) | (apply Y.len; exact X.len) | (apply Y.badd; exact X.badd) | (apply Y.blss; exact X.blss) | (apply Y.bgtr; exact X.bgtr)); exact rfl) | refine X.l ?_ | refine X.w ?_ | refine X.a ?_ | (refine K.c_condD rfl (fun hc => ?_) (fun hc => ?_) <;> first | (exfalso; omega) | skip) | refine K.c_cond rfl (fun hc => ?_) (fun hc => ?_) | (refine K.s_guardD rfl rfl (fun hc => ?_) (fun hc => ?_) <;> first | (exfalso; omega) | skip) | refine K.s_guard rfl rfl (fun hc => ?_) (fun hc => ?_)))
      · refine X.sto ?_
        (repeat' (first | (apply K.s_pure; (first | (apply Y.mv; exact X.mv) | (apply Y.sg; exact X.sg) | (apply Y.pk; exact X.pk) | (apply Y.nc; exact X.nc) | (apply Y.fa; exact X.fa) | (apply Y.ld; exact X.ld) | (apply Y.ia; exact X.ia) | (apply Y.sl; exact X.sl) | (apply Y.len; exact X.len) | (apply Y.badd; exact X.badd) | (apply Y.blss; exact X.blss) | (apply Y.bgtr; exact X.bgtr)); exact rfl) | refine X.l ?_ | refine X.w ?_ | refine X.a ?_ | (refine K.c_condD rfl (fun hc => ?_) (fun hc => ?_) <;> first | (exfalso; omega) | skip) | refine K.c_cond rfl (fun hc => ?_) (fun hc => ?_) | (refine K.s_guardD rfl rfl (fun hc => ?_) (fun hc => ?_) <;> first | (exfalso; omega) | skip) | refine K.s_guard rfl rfl (fun hc => ?_) (fun hc => ?_)))
        refine K.done (by first | exact Or.inl rfl | exact Or.inr rfl) rfl (by first | exact K.Base.le.refl _ | assumption) (H' := [qA p _ true]) rfl ⟨rfl, rfl, _, hb, rfl⟩
    · (repeat' (first | (apply K.s_pure; (first | (apply Y.mv; exact X.mv) | (apply Y.sg; exact X.sg) | (apply Y.pk; exact X.pk) | (apply Y.nc; exact X.nc) | (apply Y.fa; exact X.fa) | (apply Y.ld; exact X.ld) | (apply Y.ia; exact X.ia) | (apply Y.sl; exact X.sl) | (apply Y.len; exact X.len) | (apply Y.badd; exact X.badd) | (apply Y.blss; exact X.blss) | (apply Y.bgtr; exact X.bgtr)); exact rfl) | refine X.l ?_ | refine X.w ?_ | refine X.a ?_ | (refine K.c_condD rfl (fun hc => ?_) (fun hc => ?_) <;> first | (exfalso; omega) | skip) | refine K.c_cond rfl (fun hc => ?_) (fun hc => ?_) | (refine K.s_guardD rfl rfl (fun hc => ?_) (fun hc => ?_) <;> first | (exfalso; omega) | skip) | refine K.s_guard rfl rfl (fun hc => ?_) (fun hc => ?_)))
      · refine X.sto ?_
        (repeat' (first | (apply K.s_pure; (first | (apply Y.mv; exact X.mv) | (apply Y.sg; exact X.sg) | (apply Y.pk; exact X.pk) | (apply Y.nc; exact X.nc) | (apply Y.fa; exact X.fa) | (apply Y.ld; exact X.ld) | (apply Y.ia; exact X.ia) | (apply Y.sl; exact X.sl) | (apply Y.len; exact X.len) | (apply Y.badd; exact X.badd) | (apply Y.blss; exact X.blss) | (apply Y.bgtr; exact X.bgtr)); exact rfl) | refine X.l ?_ | refine X.w ?_ | refine X.a ?_ | (refine K.c_condD rfl (fun hc => ?_) (fun hc => ?_) <;> first | (exfalso; omega) | skip) | refine K.c_cond rfl (fun hc => ?_) (fun hc => ?_) | (refine K.s_guardD rfl rfl (fun hc => ?_) (fun hc => ?_) <;> first | (exfalso; omega) | skip) | refine K.s_guard rfl rfl (fun hc => ?_) (fun hc => ?_)))
        refine K.done (by first | exact Or.inl rfl | exact Or.inr rfl) rfl (by first | exact K.Base.le.refl _ | assumption) (H' := [qA p _ true]) rfl ⟨rfl, rfl, _, hb, rfl⟩

theorem Q_take (h : Base) (p : Nat) (sv : Value) (rem : List UInt8) (m : Nat) (hb : BV h sv rem) (hl : rem.length ≤ big) (hm : m ≤ rem.length) :
    Tr Try.prog 74 [qv p, .int .i64 m] h [qA p sv false] (fun v h' H' => h = h' ∧ ∃ a cap sv', v = bufV a m cap ∧ BV h sv' (rem.drop m) ∧ H' = [bufA 5 1 a m cap ((rem.take m).map u8), qA p sv' false]) := by
  unfold big at hl
  obtain ⟨ao, c, rfl⟩ := hb.len
  refine K.enter Try.func74 rfl (Nat.le_of_ble_eq_true rfl) (fun F => ?_)
  simp only [qv, qA, List.cons_append, List.nil_append]
  (repeat' (first | (apply K.s_pure; (first | (apply Y.mv; exact X.mv) | (apply Y.sg; exact X.sg) | (apply Y.pk; exact X.pk) | (apply Y.nc; exact X.nc) | (apply Y.fa; exact X.fa) | (apply Y.ld; exact X.ld) | (apply Y.ia; exact X.ia) | (apply Y.sl; exact X.sl) | (apply Y.len; exact X.len) | (apply Y.badd; exact X.badd) | (apply Y.blss; exact X.blss) | (apply Y.bgtr; exact X.bgtr)); exact rfl) | refine X.l ?_ | refine X.w ?_ | refine X.a ?_ | (refine K.c_condD rfl (fun hc => ?_) (fun hc => ?_) <;> first | (exfalso; omega) | skip) | refine K.c_cond rfl (fun hc => ?_) (fun hc => ?_) | (refine K.s_guardD rfl rfl (fun hc => ?_) (fun hc => ?_) <;> first | (exfalso; omega) | skip) | refine K.s_guard rfl rfl (fun hc => ?_) (fun hc => ?_)))
  refine K.WC.nilBuf 5 1 ?_
  refine K.c_loop (σ := Nat × Option Nat × Nat) (fun r => [(0, qv p), (1, .int .i64 m), (5, bufV r.2.1 r.1 r.2.2), (6, .int .i64 r.1)]) (fun _ => h)
    (fun r => bufA 5 1 r.2.1 r.1 r.2.2 ((rem.take r.1).map u8) :: qA p (.slice ao rem.length c) false :: F) (fun r => r.1 ≤ m) (fun r => m - r.1) (0, none, 0) (Nat.zero_le _) (by repeat (first | exact K.Sub.nil _ | refine K.Sub.cons rfl ?_)) rfl rfl ?_
  rintro ⟨j, a, cap⟩ hj KL hKL
  dsimp only at hj ⊢
  simp only [qv, qA]
  by_cases hjm : j < m
  · have hjl : j < rem.length := by omega
    have hc0 : rem[((j : Nat) : Int).toNat]? = some rem[j] := by simp [hjl]
    (repeat' (first | (apply K.s_pure; (first | (apply Y.mv; exact X.mv) | (apply Y.sg; exact X.sg) | (apply Y.pk; exact X.pk) | (apply Y.nc; exact X.nc) | (apply Y.fa; exact X.fa) | (apply Y.ld; exact X.ld) | (apply Y.ia; exact X.ia) | (apply Y.sl; exact X.sl) | (apply Y.len; exact X.len) | (apply Y.badd; exact X.badd) | (apply Y.blss; exact X.blss) | (apply Y.bgtr; exact X.bgtr)); exact rfl) | refine X.l ?_ | refine X.w ?_ | refine X.a ?_ | (refine K.c_condD rfl (fun hc => ?_) (fun hc => ?_) <;> first | (exfalso; omega) | skip) | refine K.c_cond rfl (fun hc => ?_) (fun hc => ?_) | (refine K.s_guardD rfl rfl (fun hc => ?_) (fun hc => ?_) <;> first | (exfalso; omega) | skip) | refine K.s_guard rfl rfl (fun hc => ?_) (fun hc => ?_)))
    refine K.s_pureE (K.p_indexB hb (Fx.und rfl) (Fx.sz rfl) rfl rfl (by omega) hc0) rfl ?_
    rintro v2 ⟨b, o, rfl, hcel⟩
    have hcel' := hcel.up (K := bufA 5 1 a j cap ((rem.take j).map u8) :: blk p 95 [.slice ao rem.length c, .bool false] :: F)
    (repeat' (first | (apply K.s_pure; (first | (apply Y.mv; exact X.mv) | (apply Y.sg; exact X.sg) | (apply Y.pk; exact X.pk) | (apply Y.nc; exact X.nc) | (apply Y.fa; exact X.fa) | (apply Y.ld; exact X.ld) | (apply Y.ia; exact X.ia) | (apply Y.sl; exact X.sl) | (apply Y.len; exact X.len) | (apply Y.badd; exact X.badd) | (apply Y.blss; exact X.blss) | (apply Y.bgtr; exact X.bgtr)); exact rfl) | refine X.l ?_ | refine X.w ?_ | refine X.a ?_ | (refine K.c_condD rfl (fun hc => ?_) (fun hc => ?_) <;> first | (exfalso; omega) | skip) | refine K.c_cond rfl (fun hc => ?_) (fun hc => ?_) | (refine K.s_guardD rfl rfl (fun hc => ?_) (fun hc => ?_) <;> first | (exfalso; omega) | skip) | refine K.s_guard rfl rfl (fun hc => ?_) (fun hc => ?_)))
    refine X.bs (fun B => ?_)
    refine K.l_append_at 1 rfl (Fx.und rfl) (Fx.und rfl) rfl (Fx.sz rfl) (Fx.zr rfl) rfl (Fx.byt rfl) rfl rfl (K.src_one (K.cel_own 0 rfl rfl) rfl) (by omega) (by omega) rfl (fun a' cap' => ?_)
    simp only [List.set_cons_zero, List.set_cons_succ, List.eraseIdx_cons_zero, List.eraseIdx_cons_succ, List.cons_append, List.nil_append]
    (repeat' (first | (apply K.s_pure; (first | (apply Y.mv; exact X.mv) | (apply Y.sg; exact X.sg) | (apply Y.pk; exact X.pk) | (apply Y.nc; exact X.nc) | (apply Y.fa; exact X.fa) | (apply Y.ld; exact X.ld) | (apply Y.ia; exact X.ia) | (apply Y.sl; exact X.sl) | (apply Y.len; exact X.len) | (apply Y.badd; exact X.badd) | (apply Y.blss; exact X.blss) | (apply Y.bgtr; exact X.bgtr)); exact rfl) | refine X.l ?_ | refine X.w ?_ | refine X.a ?_ | (refine K.c_condD rfl (fun hc => ?_) (fun hc => ?_) <;> first | (exfalso; omega) | skip) | refine K.c_cond rfl (fun hc => ?_) (fun hc => ?_) | (refine K.s_guardD rfl rfl (fun hc => ?_) (fun hc => ?_) <;> first | (exfalso; omega) | skip) | refine K.s_guard rfl rfl (fun hc => ?_) (fun hc => ?_)))
    refine K.AT.drop (K.a_round hKL (j + 1, a', cap') (by dsimp only; omega) (by repeat (first | exact K.Sub.nil _ | refine K.Sub.cons rfl ?_)) rfl ?_ (by dsimp only; omega))
    dsimp only
    rw [List.take_add_one, List.getElem?_eq_getElem hjl, Option.toList_some, List.map_append]
    rfl
  · obtain rfl : j = m := by omega
    (repeat' (first | (apply K.s_pure; (first | (apply Y.mv; exact X.mv) | (apply Y.sg; exact X.sg) | (apply Y.pk; exact X.pk) | (apply Y.nc; exact X.nc) | (apply Y.fa; exact X.fa) | (apply Y.ld; exact X.ld) | (apply Y.ia; exact X.ia) | (apply Y.sl; exact X.sl) | (apply Y.len; exact X.len) | (apply Y.badd; exact X.badd) | (apply Y.blss; exact X.blss) | (apply Y.bgtr; exact X.bgtr)); exact rfl) | refine X.l ?_ | refine X.w ?_ | refine X.a ?_ | (refine K.c_condD rfl (fun hc => ?_) (fun hc => ?_) <;> first | (exfalso; omega) | skip) | refine K.c_cond rfl (fun hc => ?_) (fun hc => ?_) | (refine K.s_guardD rfl rfl (fun hc => ?_) (fun hc => ?_) <;> first | (exfalso; omega) | skip) | refine K.s_guard rfl rfl (fun hc => ?_) (fun hc => ?_)))
    refine K.s_pureE (K.p_sliceB (k1 := .i64) (k2 := .i64) (p := j) (q := rem.length) hb (Fx.und rfl) (Fx.sz rfl) rfl ⟨_, rfl, rfl⟩ rfl hm (Nat.le_refl _)) rfl ?_
    rintro sv' hb'
    rw [List.take_length] at hb'
    obtain ⟨ao', c', rfl⟩ := hb'.len
    (repeat' (first | (apply K.s_pure; (first | (apply Y.mv; exact X.mv) | (apply Y.sg; exact X.sg) | (apply Y.pk; exact X.pk) | (apply Y.nc; exact X.nc) | (apply Y.fa; exact X.fa) | (apply Y.ld; exact X.ld) | (apply Y.ia; exact X.ia) | (apply Y.sl; exact X.sl) | (apply Y.len; exact X.len) | (apply Y.badd; exact X.badd) | (apply Y.blss; exact X.blss) | (apply Y.bgtr; exact X.bgtr)); exact rfl) | refine X.l ?_ | refine X.w ?_ | refine X.a ?_ | (refine K.c_condD rfl (fun hc => ?_) (fun hc => ?_) <;> first | (exfalso; omega) | skip) | refine K.c_cond rfl (fun hc => ?_) (fun hc => ?_) | (refine K.s_guardD rfl rfl (fun hc => ?_) (fun hc => ?_) <;> first | (exfalso; omega) | skip) | refine K.s_guard rfl rfl (fun hc => ?_) (fun hc => ?_)))
    refine X.sto ?_
    (repeat' (first | (apply K.s_pure; (first | (apply Y.mv; exact X.mv) | (apply Y.sg; exact X.sg) | (apply Y.pk; exact X.pk) | (apply Y.nc; exact X.nc) | (apply Y.fa; exact X.fa) | (apply Y.ld; exact X.ld) | (apply Y.ia; exact X.ia) | (apply Y.sl; exact X.sl) | (apply Y.len; exact X.len) | (apply Y.badd; exact X.badd) | (apply Y.blss; exact X.blss) | (apply Y.bgtr; exact X.bgtr)); exact rfl) | refine X.l ?_ | refine X.w ?_ | refine X.a ?_ | (refine K.c_condD rfl (fun hc => ?_) (fun hc => ?_) <;> first | (exfalso; omega) | skip) | refine K.c_cond rfl (fun hc => ?_) (fun hc => ?_) | (refine K.s_guardD rfl rfl (fun hc => ?_) (fun hc => ?_) <;> first | (exfalso; omega) | skip) | refine K.s_guard rfl rfl (fun hc => ?_) (fun hc => ?_)))
    refine K.done (by first | exact Or.inl rfl | exact Or.inr rfl) rfl (by first | exact K.Base.le.refl _ | assumption) (H' := [bufA 5 1 a j cap ((rem.take j).map u8), qA p _ false]) rfl ⟨rfl, a, cap, _, rfl, hb', rfl⟩

theorem Q_Fixed (h : Base) (p : Nat) (sv : Value) (ok : Bool) (rem : List UInt8) (m : Nat) (hb : BV h sv rem) (hl : rem.length ≤ big) (hm : m ≤ 8) :
    Tr Try.prog 73 [qv p, .int .i64 m] h [qA p sv (!ok)] (QPost h p (getOk ok m rem) (getRem ok m rem) (· = .int .u64 (getN ok m rem : Nat))) := by
  refine K.enter Try.func73 rfl (Nat.le_of_ble_eq_true rfl) (fun F => ?_)
  by_cases hno : ok = false ∨ (m : Int) < 0 ∨ (rem.length : Int) < m
  · have hneg : ¬ (ok = true ∧ m ≤ rem.length) := by rintro ⟨rfl, h2⟩; simp at hno; omega
    have e1 : getN ok m rem = 0 := by rw [getN, if_neg hneg]
    have e2 : getRem ok m rem = rem := by rw [getRem, if_neg hneg]
    have e3 : getOk ok m rem = false := by
      unfold getOk
      cases ok
      · rfl
      · simpa using hneg
    rw [e1, e2, e3]
    (repeat' (first | (apply K.s_pure; (first | (apply Y.mv; exact X.mv) | (apply Y.sg; exact X.sg) | (apply Y.cv; exact X.cv) | (apply Y.ld; exact X.ld) | (apply Y.ia; exact X.ia) | (apply Y.len; exact X.len) | (apply Y.badd; exact X.badd) | (apply Y.bsub; exact X.bsub) | (apply Y.bmul; exact X.bmul) | (apply Y.bgeq; exact X.bgeq)); exact rfl) | refine X.l ?_ | refine X.w ?_ | refine X.a ?_ | (refine K.c_condD rfl (fun hc => ?_) (fun hc => ?_) <;> first | (exfalso; omega) | skip) | refine K.c_cond rfl (fun hc => ?_) (fun hc => ?_)))
    refine K.l_call (Fx.cal rfl) rfl (Q_take_no h p sv ok rem m hb hl (by omega) (by omega) hno) (K.pp [0] rfl) rfl ?_
    rintro v h' H' - ⟨rfl, rfl, sv', hb', rfl⟩
    (repeat' (first | (apply K.s_pure; (first | (apply Y.mv; exact X.mv) | (apply Y.sg; exact X.sg) | (apply Y.cv; exact X.cv) | (apply Y.ld; exact X.ld) | (apply Y.ia; exact X.ia) | (apply Y.len; exact X.len) | (apply Y.badd; exact X.badd) | (apply Y.bsub; exact X.bsub) | (apply Y.bmul; exact X.bmul) | (apply Y.bgeq; exact X.bgeq)); exact rfl) | refine X.l ?_ | refine X.w ?_ | refine X.a ?_ | (refine K.c_condD rfl (fun hc => ?_) (fun hc => ?_) <;> first | (exfalso; omega) | skip) | refine K.c_cond rfl (fun hc => ?_) (fun hc => ?_)))
    refine K.c_loop (σ := Unit) (fun _ => [(6, .int .u64 0), (7, .int .i64 (-1))]) (fun _ => h) (fun _ => qA p sv' true :: F) (fun _ => True) (fun _ => 0) () trivial (by repeat (first | exact K.Sub.nil _ | refine K.Sub.cons rfl ?_)) rfl rfl ?_
    rintro _ - KL hKL
    (repeat' (first | (apply K.s_pure; (first | (apply Y.mv; exact X.mv) | (apply Y.sg; exact X.sg) | (apply Y.cv; exact X.cv) | (apply Y.ld; exact X.ld) | (apply Y.ia; exact X.ia) | (apply Y.len; exact X.len) | (apply Y.badd; exact X.badd) | (apply Y.bsub; exact X.bsub) | (apply Y.bmul; exact X.bmul) | (apply Y.bgeq; exact X.bgeq)); exact rfl) | refine X.l ?_ | refine X.w ?_ | refine X.a ?_ | (refine K.c_condD rfl (fun hc => ?_) (fun hc => ?_) <;> first | (exfalso; omega) | skip) | refine K.c_cond rfl (fun hc => ?_) (fun hc => ?_)))
    refine K.done (by first | exact Or.inl rfl | exact Or.inr rfl) rfl (by first | exact K.Base.le.refl _ | assumption) (H' := [qA p sv' true]) rfl ⟨rfl, rfl, sv', hb', rfl⟩
  · obtain ⟨rfl, hm0⟩ : ok = true ∧ m ≤ rem.length := by
      cases ok
      · simp at hno
      · simp at hno; exact ⟨rfl, by omega⟩
    have hpos : true = true ∧ m ≤ rem.length := ⟨rfl, hm0⟩
    have e1 : getN true m rem = leNum (rem.take m) := by rw [getN, if_pos hpos]
    have e2 : getRem true m rem = rem.drop m := by rw [getRem, if_pos hpos]
    have e3 : getOk true m rem = true := by simp [getOk, hm0]
    rw [e1, e2, e3]
    (repeat' (first | (apply K.s_pure; (first | (apply Y.mv; exact X.mv) | (apply Y.sg; exact X.sg) | (apply Y.cv; exact X.cv) | (apply Y.ld; exact X.ld) | (apply Y.ia; exact X.ia) | (apply Y.len; exact X.len) | (apply Y.badd; exact X.badd) | (apply Y.bsub; exact X.bsub) | (apply Y.bmul; exact X.bmul) | (apply Y.bgeq; exact X.bgeq)); exact rfl) | refine X.l ?_ | refine X.w ?_ | refine X.a ?_ | (refine K.c_condD rfl (fun hc => ?_) (fun hc => ?_) <;> first | (exfalso; omega) | skip) | refine K.c_cond rfl (fun hc => ?_) (fun hc => ?_)))
    refine K.l_call (Fx.cal rfl) rfl (Q_take h p sv rem m hb hl hm0) (K.pp [0] rfl) rfl ?_
    rintro v h' H' - ⟨rfl, a, cap, sv', rfl, hb', rfl⟩
    have hlt : (rem.take m).length = m := by simp; omega
    generalize rem.take m = l at hlt
    (repeat' (first | (apply K.s_pure; (first | (apply Y.mv; exact X.mv) | (apply Y.sg; exact X.sg) | (apply Y.cv; exact X.cv) | (apply Y.ld; exact X.ld) | (apply Y.ia; exact X.ia) | (apply Y.len; exact X.len) | (apply Y.badd; exact X.badd) | (apply Y.bsub; exact X.bsub) | (apply Y.bmul; exact X.bmul) | (apply Y.bgeq; exact X.bgeq)); exact rfl) | refine X.l ?_ | refine X.w ?_ | refine X.a ?_ | (refine K.c_condD rfl (fun hc => ?_) (fun hc => ?_) <;> first | (exfalso; omega) | skip) | refine K.c_cond rfl (fun hc => ?_) (fun hc => ?_)))
    refine K.c_loop (σ := Nat) (fun j => [(5, bufV a m cap), (6, .int .u64 (leNum (l.drop j) : Nat)), (7, .int .i64 ((j : Int) - 1))]) (fun _ => h)
      (fun _ => bufA 5 1 a m cap (l.map u8) :: qA p sv' false :: F) (fun j => j ≤ m) (fun j => j) m (Nat.le_refl _) ?_ rfl rfl ?_
    · have hd : leNum (l.drop m) = 0 := by rw [List.drop_of_length_le (by omega)]; rfl
      rw [hd]
      exact (by repeat (first | exact K.Sub.nil _ | refine K.Sub.cons rfl ?_))
    rintro j hj KL hKL
    by_cases h0 : j = 0
    · subst h0
      (repeat' (first | (apply K.s_pure; (first | (apply Y.mv; exact X.mv) | (apply Y.sg; exact X.sg) | (apply Y.cv; exact X.cv) | (apply Y.ld; exact X.ld) | (apply Y.ia; exact X.ia) | (apply Y.len; exact X.len) | (apply Y.badd; exact X.badd) | (apply Y.bsub; exact X.bsub) | (apply Y.bmul; exact X.bmul) | (apply Y.bgeq; exact X.bgeq)); exact rfl) | refine X.l ?_ | refine X.w ?_ | refine X.a ?_ | (refine K.c_condD rfl (fun hc => ?_) (fun hc => ?_) <;> first | (exfalso; omega) | skip) | refine K.c_cond rfl (fun hc => ?_) (fun hc => ?_)))
      rw [List.drop_zero]
      refine K.AT.drop ?_
      refine K.done (by first | exact Or.inl rfl | exact Or.inr rfl) rfl (by first | exact K.Base.le.refl _ | assumption) (H' := [qA p sv' false]) rfl ⟨rfl, rfl, sv', hb', rfl⟩
    · obtain ⟨i, rfl⟩ : ∃ i, j = i + 1 := ⟨j - 1, by omega⟩
      have hil : i < l.length := by omega
      have hc0 : l[i]? = some l[i] := List.getElem?_eq_getElem hil
      have ei : (((i + 1 : Nat) : Int) - 1) = (i : Int) := by omega
      have hx : leNum (l.drop (i + 1)) < 72057594037927936 := by
        have h1 := leNum_lt (l.drop (i + 1))
        have h2 : (256 : Nat) ^ (l.drop (i + 1)).length ≤ 256 ^ 7 := Nat.pow_le_pow_right (by omega) (by simp; omega)
        have h3 : (256 : Nat) ^ 7 = 72057594037927936 := by decide
        omega
      have hdr := leNum_drop hc0
      generalize l[i] = c at hc0 hdr
      have hcl := c.toNat_lt
      rw [ei]
      refine K.oc_buf (fun _ e _ _ => by omega) ?_
      rintro bb sp fz rfl g2 g3 g4 g5 g6
      have hcel : Cel h (blkF bb 5 (l.map u8 ++ sp) fz :: qA p sv' false :: F) bb i (u8 c) := K.cel_own 0 rfl (by rw [List.getElem?_append_left (by simpa using hil), List.getElem?_map, hc0]; rfl)
      unfold K.u8 at hcel
      (repeat' (first | (apply K.s_pure; (first | (apply Y.mv; exact X.mv) | (apply Y.sg; exact X.sg) | (apply Y.cv; exact X.cv) | (apply Y.ld; exact X.ld) | (apply Y.ia; exact X.ia) | (apply Y.len; exact X.len) | (apply Y.badd; exact X.badd) | (apply Y.bsub; exact X.bsub) | (apply Y.bmul; exact X.bmul) | (apply Y.bgeq; exact X.bgeq)); exact rfl) | refine X.l ?_ | refine X.w ?_ | refine X.a ?_ | (refine K.c_condD rfl (fun hc => ?_) (fun hc => ?_) <;> first | (exfalso; omega) | skip) | refine K.c_cond rfl (fun hc => ?_) (fun hc => ?_)))
      rw [show (256 * ((leNum (l.drop (i+1)) : Nat) : Int) + (c.toNat : Int)) = ((leNum (l.drop i) : Nat) : Int) from by rw [hdr]; omega]
      refine K.AT.shut (s := 1) (m := m) (cap := cap) g2 g3 g4 g5 g6 ?_
      refine K.a_round hKL i (by omega) (by repeat (first | exact K.Sub.nil _ | refine K.Sub.cons rfl ?_)) rfl rfl (by omega)
/-- What Front answers. -/
def frontV (o : Option (Nat × Nat)) : Value := match o with
  | some (x, m) => .tuple #[.int .u64 x, .int .i64 m]
  | none => .tuple #[.int .u64 0, .int .i64 0]

theorem Tr.mono {P : Program} {f : FuncId} {args : List Value} {h : Base} {Pre : List Asrt} {Post Post' : Value → Base → List Asrt → Prop} (ht : Tr P f args h Pre Post)
    (hk : ∀ v h' H', h.le h' → Post v h' H' → ∀ F w, Ok h' (H' ++ F) w → ∃ H'', Post' v h' H'' ∧ Ok h' (H'' ++ F) w) : Tr P f args h Pre Post' :=
  fun F w ok => Calls.mono (ht F w ok) fun e w' ⟨v, he, h', H', hle, hp, ok'⟩ => by
    obtain ⟨H'', hp', ok''⟩ := hk v h' H' hle hp F w' ok'
    exact ⟨v, he, h', H'', hle, hp', ok''⟩

/-- What Take answers. -/
def tk (ok : Bool) (rem : List UInt8) (m : Int) : List UInt8 := if ok = true ∧ 0 ≤ m ∧ m ≤ rem.length then rem.take m.toNat else []
def tkOk (ok : Bool) (rem : List UInt8) (m : Int) : Bool := ok && decide (0 ≤ m ∧ m ≤ rem.length)
def tkRem (ok : Bool) (rem : List UInt8) (m : Int) : List UInt8 := if ok = true ∧ 0 ≤ m ∧ m ≤ rem.length then rem.drop m.toNat else rem

theorem Q_Take (h : Base) (p : Nat) (sv : Value) (ok : Bool) (rem : List UInt8) (m : Int) (hb : BV h sv rem) (hl : rem.length ≤ big) (hm1 : -9223372036854775808 ≤ m) (hm2 : m ≤ 9223372036854775807) :
    Tr Try.prog 74 [qv p, .int .i64 m] h [qA p sv (!ok)] (fun v h' H' => h = h' ∧ ∃ a cap sv', v = bufV a (tk ok rem m).length cap ∧ BV h sv' (tkRem ok rem m) ∧ H' = [bufA 5 1 a (tk ok rem m).length cap ((tk ok rem m).map u8), qA p sv' (!(tkOk ok rem m))]) := by
  by_cases hc : ok = true ∧ 0 ≤ m ∧ m ≤ rem.length
  · have e3 : tkOk ok rem m = true := by simp [tkOk, hc]
    rw [tk, tkRem, if_pos hc, if_pos hc, e3]
    obtain ⟨rfl, h1, h2⟩ := hc
    obtain ⟨k, rfl⟩ := Int.eq_ofNat_of_zero_le h1
    rw [Int.toNat_natCast, show (rem.take k).length = k from by simp; omega]
    refine Tr.mono (Q_take h p sv rem k hb hl (by omega)) ?_
    rintro v h' H' - ⟨rfl, a, cap, sv', rfl, hb', rfl⟩ F w ok
    exact ⟨_, ⟨rfl, a, cap, sv', rfl, hb', rfl⟩, ok⟩
  · have e3 : tkOk ok rem m = false := by
      unfold tkOk
      cases ok with
      | false => rfl
      | true => rw [Bool.true_and]; exact decide_eq_false fun e => hc ⟨rfl, e⟩
    rw [tk, tkRem, if_neg hc, if_neg hc, e3]
    refine Tr.mono (Q_take_no h p sv ok rem m hb hl hm1 hm2 (by
      cases ok with
      | false => exact .inl rfl
      | true =>
        have : ¬ (0 ≤ m ∧ m ≤ (rem.length : Int)) := fun e => hc ⟨rfl, e⟩
        right; omega)) ?_
    rintro v h' H' - ⟨rfl, rfl, sv', hb', rfl⟩ F w ok
    exact ⟨_, ⟨rfl, none, 0, sv', rfl, hb', rfl⟩, ok.nilBuf⟩

theorem R_Raw' (h : Base) (s : Option RS) (ok : Bool) (rem : List UInt8) (m : Int) (hr : Rd h s ok rem) (hl : rem.length ≤ big) (hm1 : -9223372036854775808 ≤ m) (hm2 : m ≤ 9223372036854775807) :
    Tr Try.prog 68 [rv s, .int .i64 m] h [rA s] (fun v h' H' => h = h' ∧ ∃ a cap s', v = bufV a (tk ok rem m).length cap ∧ same s s' ∧ Rd h s' (tkOk ok rem m) (tkRem ok rem m) ∧
      H' = [bufA 5 1 a (tk ok rem m).length cap ((tk ok rem m).map u8), rA s']) := R_Raw h s ok rem m hr hl hm1 hm2
end Go.Proofs.Ytjgfgpdkcojnmaa.Rb
