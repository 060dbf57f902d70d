/-
  The walks of layer 2's statements: long, write. Conditions: each theorem's own.
-/
import Derived.Test.YtgglpkboijjoiaaLa

namespace Go.Proofs.Ytgglpkboijjoiaa.La
open Go Go.K Go.Proofs Go.Proofs.Ytgglpkboijjoiaa
set_option linter.unusedVariables false
set_option linter.unusedSimpArgs false
set_option maxRecDepth 10000

def sumL : List It → Nat
  | [] => 0
  | i :: r => min i.s.size 1048577 + sumL r
theorem sumL_le : ∀ l : List It, sumL l ≤ l.length * 1048577
  | [] => by simp [sumL]
  | i :: r => by have := sumL_le r; rw [sumL, List.length_cons]; omega
theorem sumL_snoc : ∀ (l : List It) (i : It), sumL (l ++ [i]) = sumL l + min i.s.size 1048577
  | [], i => by simp [sumL]
  | x :: r, i => by rw [List.cons_append, sumL, sumL_snoc r i, sumL]; omega
def longB (l : List It) : Bool := decide (300 < l.length) || decide (1048576 < sumL (l.take 301))

theorem long (h : Base) (v : Value) (l : List It) (hv : SL h 4 v (l.map cI)) (hl : l.length ≤ 9223372036854775807) : TrV Try.prog 9 [v] h [] (.bool (longB l)) [] := by
  refine K.enter Try.func9 rfl (Nat.le_of_ble_eq_true rfl) (fun F => ?_)
  have hlen : (l.map cI).length = l.length := List.length_map ..
  (repeat' (first | (apply K.s_pure; (first | (apply Y.mv; exact X.mv) | (apply Y.sg; exact X.sg) | (apply Y.pk; exact X.pk) | (apply Y.fa; exact X.fa) | (apply Y.ld; exact X.ld) | (apply Y.ia; exact X.ia) | (apply Y.len; exact X.len) | (apply Y.mn; exact X.mn) | (apply Y.badd; exact X.badd) | (apply Y.blss; exact X.blss) | (apply Y.bleq; exact X.bleq) | (apply Y.bgtr; exact X.bgtr)); exact rfl) | refine X.l ?_ | refine X.w ?_ | refine X.a ?_ | (refine K.c_condD rfl (fun hc => ?_) (fun hc => ?_) <;> first | (exfalso; omega) | skip) | refine K.c_cond rfl (fun hc => ?_) (fun hc => ?_) | (refine K.s_guardD rfl rfl (fun hc => ?_) (fun hc => ?_) <;> first | (exfalso; omega) | skip) | refine K.s_guard rfl rfl (fun hc => ?_) (fun hc => ?_)))
  refine K.c_loop (σ := Nat) (fun j => [(0, v), (3, .int .i64 (sumL (l.take j) : Nat)), (4, .int .i64 j)]) (fun _ => h) (fun _ => [] ++ F)
    (fun j => j ≤ l.length ∧ j ≤ 301) (fun j => l.length - j) 0 ⟨Nat.zero_le _, by omega⟩ (by repeat (first | exact K.Sub.nil _ | refine K.Sub.cons rfl ?_)) rfl rfl ?_
  rintro j ⟨hj, hj2⟩ KL hKL
  have hs1 := sumL_le (l.take j)
  rw [List.length_take, Nat.min_eq_left hj] at hs1
  have hlong : j = l.length ∨ j = 301 → (decide (300 < l.length) || decide (1048576 < sumL (l.take j))) = longB l := fun e => by
    unfold longB
    rcases e with rfl | rfl
    · rw [List.take_length]
      by_cases h300 : 300 < l.length
      · simp [h300]
      · rw [List.take_of_length_le (by omega)]
    · rfl
  (repeat' (first | (apply K.s_pure; (first | (apply Y.mv; exact X.mv) | (apply Y.sg; exact X.sg) | (apply Y.pk; exact X.pk) | (apply Y.fa; exact X.fa) | (apply Y.ld; exact X.ld) | (apply Y.ia; exact X.ia) | (apply Y.len; exact X.len) | (apply Y.mn; exact X.mn) | (apply Y.badd; exact X.badd) | (apply Y.blss; exact X.blss) | (apply Y.bleq; exact X.bleq) | (apply Y.bgtr; exact X.bgtr)); exact rfl) | refine X.l ?_ | refine X.w ?_ | refine X.a ?_ | (refine K.c_condD rfl (fun hc => ?_) (fun hc => ?_) <;> first | (exfalso; omega) | skip) | refine K.c_cond rfl (fun hc => ?_) (fun hc => ?_) | (refine K.s_guardD rfl rfl (fun hc => ?_) (fun hc => ?_) <;> first | (exfalso; omega) | skip) | refine K.s_guard rfl rfl (fun hc => ?_) (fun hc => ?_)))
  refine K.s_pure (K.p_lenL hv (Fx.und rfl) rfl) rfl ?_
  rw [hlen]
  (repeat' (first | (apply K.s_pure; (first | (apply Y.mv; exact X.mv) | (apply Y.sg; exact X.sg) | (apply Y.pk; exact X.pk) | (apply Y.fa; exact X.fa) | (apply Y.ld; exact X.ld) | (apply Y.ia; exact X.ia) | (apply Y.len; exact X.len) | (apply Y.mn; exact X.mn) | (apply Y.badd; exact X.badd) | (apply Y.blss; exact X.blss) | (apply Y.bleq; exact X.bleq) | (apply Y.bgtr; exact X.bgtr)); exact rfl) | refine X.l ?_ | refine X.w ?_ | refine X.a ?_ | (refine K.c_condD rfl (fun hc => ?_) (fun hc => ?_) <;> first | (exfalso; omega) | skip) | refine K.c_cond rfl (fun hc => ?_) (fun hc => ?_) | (refine K.s_guardD rfl rfl (fun hc => ?_) (fun hc => ?_) <;> first | (exfalso; omega) | skip) | refine K.s_guard rfl rfl (fun hc => ?_) (fun hc => ?_)))
  · have hc0 : (l.map cI)[((j : Nat) : Int).toNat]? = some (cI (l[j]'(by omega))) := by rw [Int.toNat_natCast, List.getElem?_map, List.getElem?_eq_getElem (by omega)]; rfl
    have htk : l.take (j + 1) = l.take j ++ [l[j]'(by omega)] := List.take_succ_eq_append_getElem (by omega)
    generalize l[j]'(by omega) = it at hc0 htk
    refine K.s_pureE (K.p_indexL hv (Fx.und rfl) (Fx.sz rfl) rfl rfl (by omega) hc0) rfl ?_
    rintro v2 ⟨b, o, rfl, hcel⟩
    have hcel' := (Cels.up (K := [] ++ F) hcel).2.2.1
    have hsz : (it.s.size : Int) ≤ 9223372036854775807 ∨ True := .inr trivial
    (repeat' (first | (apply K.s_pure; (first | (apply Y.mv; exact X.mv) | (apply Y.sg; exact X.sg) | (apply Y.pk; exact X.pk) | (apply Y.fa; exact X.fa) | (apply Y.ld; exact X.ld) | (apply Y.ia; exact X.ia) | (apply Y.len; exact X.len) | (apply Y.mn; exact X.mn) | (apply Y.badd; exact X.badd) | (apply Y.blss; exact X.blss) | (apply Y.bleq; exact X.bleq) | (apply Y.bgtr; exact X.bgtr)); exact rfl) | refine X.l ?_ | refine X.w ?_ | refine X.a ?_ | (refine K.c_condD rfl (fun hc => ?_) (fun hc => ?_) <;> first | (exfalso; omega) | skip) | refine K.c_cond rfl (fun hc => ?_) (fun hc => ?_) | (refine K.s_guardD rfl rfl (fun hc => ?_) (fun hc => ?_) <;> first | (exfalso; omega) | skip) | refine K.s_guard rfl rfl (fun hc => ?_) (fun hc => ?_)))
    have e1 : min (it.s.size : Int) 1048577 = ((min it.s.size 1048577 : Nat) : Int) := by omega
    rw [e1]
    have hb : min it.s.size 1048577 ≤ 1048577 := Nat.min_le_right ..
    rw [show ((sumL (l.take j) : Int) + ((min it.s.size 1048577 : Nat) : Int)) = ((sumL (l.take (j + 1)) : Nat) : Int) from by rw [htk, sumL_snoc]; omega]
    refine K.a_round hKL (j + 1) ⟨by omega, by omega⟩ (by repeat (first | exact K.Sub.nil _ | refine K.Sub.cons rfl ?_)) rfl rfl (by omega)
  all_goals
    (try refine K.s_pure (K.p_lenL hv (Fx.und rfl) rfl) rfl ?_)
    (try rw [hlen])
    (repeat' (first | (apply K.s_pure; (first | (apply Y.mv; exact X.mv) | (apply Y.sg; exact X.sg) | (apply Y.pk; exact X.pk) | (apply Y.fa; exact X.fa) | (apply Y.ld; exact X.ld) | (apply Y.ia; exact X.ia) | (apply Y.len; exact X.len) | (apply Y.mn; exact X.mn) | (apply Y.badd; exact X.badd) | (apply Y.blss; exact X.blss) | (apply Y.bleq; exact X.bleq) | (apply Y.bgtr; exact X.bgtr)); exact rfl) | refine X.l ?_ | refine X.w ?_ | refine X.a ?_ | (refine K.c_condD rfl (fun hc => ?_) (fun hc => ?_) <;> first | (exfalso; omega) | skip) | refine K.c_cond rfl (fun hc => ?_) (fun hc => ?_) | (refine K.s_guardD rfl rfl (fun hc => ?_) (fun hc => ?_) <;> first | (exfalso; omega) | skip) | refine K.s_guard rfl rfl (fun hc => ?_) (fun hc => ?_)))
    all_goals
      refine K.done (by first | exact Or.inl rfl | exact Or.inr rfl) rfl (by first | exact K.Base.le.refl _ | assumption) (H' := []) rfl ⟨?_, rfl, rfl⟩
      rw [← hlong (by omega)]
      first
        | (rw [decide_eq_true (show 300 < l.length by omega)]; rfl)
        | (rw [decide_eq_false (show ¬ 300 < l.length by omega), Bool.false_or]
           show Value.bool _ = Value.bool _
           congr 1
           rw [decide_eq_decide]; omega)

theorem longB_no {l : List It} (h : longB l = false) : l.length ≤ 300 ∧ sumL l ≤ 1048576 := by
  simp only [longB, Bool.or_eq_false_iff, decide_eq_false_iff_not] at h
  rw [List.take_of_length_le (by omega)] at h
  omega
theorem sumL_mem : ∀ {l : List It} {i : It}, i ∈ l → sumL l ≤ 1048576 → i.s.size ≤ 1048576
  | x :: r, i, hi, h => by
    rw [sumL] at h
    rcases List.mem_cons.1 hi with rfl | hi
    · omega
    · exact sumL_mem hi (by omega)

theorem wrap64_in (x : Int) : -9223372036854775808 ≤ IntKind.i64.wrap x ∧ IntKind.i64.wrap x ≤ 9223372036854775807 := by
  simp only [IntKind.wrap, IntKind.bits, IntKind.signed, Nat.reduceSub, Int.reducePow, Bool.true_and, decide_eq_true_eq, ge_iff_le]
  split <;> omega
/-- What is written of an item. -/
def itB (i : It) : List UInt8 :=
  if i.kind = 0 then lebs i.x 1 else if i.kind = 1 then lebs i.x 2 else if i.kind = 2 then lebs i.x 4 else if i.kind = 3 then lebs i.x 8
  else if i.kind = 4 then cu i.x else if i.kind = 5 then cu (zig (IntKind.i64.wrap i.x)) else if i.kind = 6 then cu i.s.size ++ i.s.data.toList
  else if i.kind = 7 then i.s.data.toList else []

/-- What write does. -/
def Wr (h : Base) (s : Ca.WSt) (l : List UInt8) (v : Value) (h' : Base) (H' : List Asrt) : Prop :=
  h = h' ∧ ∃ a cap s', v = bufV a l.length cap ∧ Ca.wadd l s s' ∧ H' = [Ca.wA s', bufA 5 1 a l.length cap (l.map u8)]

set_option maxHeartbeats 4000000 in
theorem write (h : Base) (s : Ca.WSt) (i : It) (hw : wfI i) (hs : i.s.size ≤ 1048576) (hl : (Ca.wb s).length + i.s.size + 32 ≤ 1099511627776) :
    Tr Try.prog 12 [Ca.wv s, .agg (cI i).toArray] h [Ca.wA s] (Wr h s (itB i)) := by
  have hbig : Ca.big = 1099511627776 := rfl
  have hx := hw.x
  have hsz : i.s.data.toList.length = i.s.size := by simp
  refine K.enter Try.func12 rfl (Nat.le_of_ble_eq_true rfl) (fun F => ?_)
  (repeat' (first | (apply K.s_pure; (first | (apply Y.mv; exact X.mv) | (apply Y.sg; exact X.sg) | (apply Y.cv; exact X.cv) | (apply Y.fa; exact X.fa) | (apply Y.ld; exact X.ld) | (apply Y.ia; exact X.ia) | (apply Y.len; exact X.len) | (apply Y.badd; exact X.badd) | (apply Y.beql; exact X.beql) | (apply Y.blss; exact X.blss)); exact rfl) | refine X.l ?_ | refine X.w ?_ | refine X.a ?_ | (refine K.c_condD rfl (fun hc => ?_) (fun hc => ?_) <;> first | (exfalso; omega) | skip) | refine K.c_cond rfl (fun hc => ?_) (fun hc => ?_)))
  refine K.l_box rfl rfl rfl (fun B => ?_)
  (repeat' (first | (apply K.s_pure; (first | (apply Y.mv; exact X.mv) | (apply Y.sg; exact X.sg) | (apply Y.cv; exact X.cv) | (apply Y.fa; exact X.fa) | (apply Y.ld; exact X.ld) | (apply Y.ia; exact X.ia) | (apply Y.len; exact X.len) | (apply Y.badd; exact X.badd) | (apply Y.beql; exact X.beql) | (apply Y.blss; exact X.blss)); exact rfl) | refine X.l ?_ | refine X.w ?_ | refine X.a ?_ | (refine K.c_condD rfl (fun hc => ?_) (fun hc => ?_) <;> first | (exfalso; omega) | skip) | refine K.c_cond rfl (fun hc => ?_) (fun hc => ?_)))
  · have e : itB i = lebs i.x 1 := by rw [itB, if_pos hc]
    rw [e]
    rw [K.wn8]
    refine K.l_call (Fx.cal rfl) rfl (Ca.W_U8 h s (i.x % 256) (by omega) (by omega)) (K.pp [1] rfl) rfl ?_
    rintro v h' H' - ⟨rfl, rfl, s', hs', rfl⟩
    (repeat' (first | (apply K.s_pure; (first | (apply Y.mv; exact X.mv) | (apply Y.sg; exact X.sg) | (apply Y.cv; exact X.cv) | (apply Y.fa; exact X.fa) | (apply Y.ld; exact X.ld) | (apply Y.ia; exact X.ia) | (apply Y.len; exact X.len) | (apply Y.badd; exact X.badd) | (apply Y.beql; exact X.beql) | (apply Y.blss; exact X.blss)); exact rfl) | refine X.l ?_ | refine X.w ?_ | refine X.a ?_ | (refine K.c_condD rfl (fun hc => ?_) (fun hc => ?_) <;> first | (exfalso; omega) | skip) | refine K.c_cond rfl (fun hc => ?_) (fun hc => ?_)))
    refine K.l_call (Fx.cal rfl) rfl (Ra.Fixed h i.x 1 hx (by omega)) (K.pp [] rfl) rfl ?_
    rintro v h' H' - ⟨rfl, a, cap, rfl, rfl⟩
    (repeat' (first | (apply K.s_pure; (first | (apply Y.mv; exact X.mv) | (apply Y.sg; exact X.sg) | (apply Y.cv; exact X.cv) | (apply Y.fa; exact X.fa) | (apply Y.ld; exact X.ld) | (apply Y.ia; exact X.ia) | (apply Y.len; exact X.len) | (apply Y.badd; exact X.badd) | (apply Y.beql; exact X.beql) | (apply Y.blss; exact X.blss)); exact rfl) | refine X.l ?_ | refine X.w ?_ | refine X.a ?_ | (refine K.c_condD rfl (fun hc => ?_) (fun hc => ?_) <;> first | (exfalso; omega) | skip) | refine K.c_cond rfl (fun hc => ?_) (fun hc => ?_)))
    refine K.AT.sel [2] rfl (K.AT.perm (List.Perm.swap ..) ?_)
    rw [show lebs (i.x % 256) 1 = lebs i.x 1 from K.lebs_mod 1 i.x] at hs'
    refine K.done (by first | exact Or.inl rfl | exact Or.inr rfl) rfl (by first | exact K.Base.le.refl _ | assumption) (H' := [Ca.wA s', _]) rfl ⟨rfl, a, cap, s', rfl, hs', rfl⟩
  · have e : itB i = lebs i.x 2 := by rw [itB, if_neg (by omega), if_pos hc]
    rw [e]
    rw [K.wn16]
    refine K.l_call (Fx.cal rfl) rfl (Ca.W_U16 h s (i.x % 65536) (by omega) (by omega)) (K.pp [1] rfl) rfl ?_
    rintro v h' H' - ⟨rfl, rfl, s', hs', rfl⟩
    (repeat' (first | (apply K.s_pure; (first | (apply Y.mv; exact X.mv) | (apply Y.sg; exact X.sg) | (apply Y.cv; exact X.cv) | (apply Y.fa; exact X.fa) | (apply Y.ld; exact X.ld) | (apply Y.ia; exact X.ia) | (apply Y.len; exact X.len) | (apply Y.badd; exact X.badd) | (apply Y.beql; exact X.beql) | (apply Y.blss; exact X.blss)); exact rfl) | refine X.l ?_ | refine X.w ?_ | refine X.a ?_ | (refine K.c_condD rfl (fun hc => ?_) (fun hc => ?_) <;> first | (exfalso; omega) | skip) | refine K.c_cond rfl (fun hc => ?_) (fun hc => ?_)))
    refine K.l_call (Fx.cal rfl) rfl (Ra.Fixed h i.x 2 hx (by omega)) (K.pp [] rfl) rfl ?_
    rintro v h' H' - ⟨rfl, a, cap, rfl, rfl⟩
    (repeat' (first | (apply K.s_pure; (first | (apply Y.mv; exact X.mv) | (apply Y.sg; exact X.sg) | (apply Y.cv; exact X.cv) | (apply Y.fa; exact X.fa) | (apply Y.ld; exact X.ld) | (apply Y.ia; exact X.ia) | (apply Y.len; exact X.len) | (apply Y.badd; exact X.badd) | (apply Y.beql; exact X.beql) | (apply Y.blss; exact X.blss)); exact rfl) | refine X.l ?_ | refine X.w ?_ | refine X.a ?_ | (refine K.c_condD rfl (fun hc => ?_) (fun hc => ?_) <;> first | (exfalso; omega) | skip) | refine K.c_cond rfl (fun hc => ?_) (fun hc => ?_)))
    refine K.AT.sel [2] rfl (K.AT.perm (List.Perm.swap ..) ?_)
    rw [show lebs (i.x % 65536) 2 = lebs i.x 2 from K.lebs_mod 2 i.x] at hs'
    refine K.done (by first | exact Or.inl rfl | exact Or.inr rfl) rfl (by first | exact K.Base.le.refl _ | assumption) (H' := [Ca.wA s', _]) rfl ⟨rfl, a, cap, s', rfl, hs', rfl⟩
  · have e : itB i = lebs i.x 4 := by rw [itB, if_neg (by omega), if_neg (by omega), if_pos hc]
    rw [e]
    rw [K.wn32]
    refine K.l_call (Fx.cal rfl) rfl (Ca.W_U32 h s (i.x % 4294967296) (by omega) (by omega)) (K.pp [1] rfl) rfl ?_
    rintro v h' H' - ⟨rfl, rfl, s', hs', rfl⟩
    (repeat' (first | (apply K.s_pure; (first | (apply Y.mv; exact X.mv) | (apply Y.sg; exact X.sg) | (apply Y.cv; exact X.cv) | (apply Y.fa; exact X.fa) | (apply Y.ld; exact X.ld) | (apply Y.ia; exact X.ia) | (apply Y.len; exact X.len) | (apply Y.badd; exact X.badd) | (apply Y.beql; exact X.beql) | (apply Y.blss; exact X.blss)); exact rfl) | refine X.l ?_ | refine X.w ?_ | refine X.a ?_ | (refine K.c_condD rfl (fun hc => ?_) (fun hc => ?_) <;> first | (exfalso; omega) | skip) | refine K.c_cond rfl (fun hc => ?_) (fun hc => ?_)))
    refine K.l_call (Fx.cal rfl) rfl (Ra.Fixed h i.x 4 hx (by omega)) (K.pp [] rfl) rfl ?_
    rintro v h' H' - ⟨rfl, a, cap, rfl, rfl⟩
    (repeat' (first | (apply K.s_pure; (first | (apply Y.mv; exact X.mv) | (apply Y.sg; exact X.sg) | (apply Y.cv; exact X.cv) | (apply Y.fa; exact X.fa) | (apply Y.ld; exact X.ld) | (apply Y.ia; exact X.ia) | (apply Y.len; exact X.len) | (apply Y.badd; exact X.badd) | (apply Y.beql; exact X.beql) | (apply Y.blss; exact X.blss)); exact rfl) | refine X.l ?_ | refine X.w ?_ | refine X.a ?_ | (refine K.c_condD rfl (fun hc => ?_) (fun hc => ?_) <;> first | (exfalso; omega) | skip) | refine K.c_cond rfl (fun hc => ?_) (fun hc => ?_)))
    refine K.AT.sel [2] rfl (K.AT.perm (List.Perm.swap ..) ?_)
    rw [show lebs (i.x % 4294967296) 4 = lebs i.x 4 from K.lebs_mod 4 i.x] at hs'
    refine K.done (by first | exact Or.inl rfl | exact Or.inr rfl) rfl (by first | exact K.Base.le.refl _ | assumption) (H' := [Ca.wA s', _]) rfl ⟨rfl, a, cap, s', rfl, hs', rfl⟩
  · have e : itB i = lebs i.x 8 := by rw [itB, if_neg (by omega), if_neg (by omega), if_neg (by omega), if_pos hc]
    rw [e]
    refine K.l_call (Fx.cal rfl) rfl (Ca.W_U64 h s i.x (by omega) (by omega)) (K.pp [1] rfl) rfl ?_
    rintro v h' H' - ⟨rfl, rfl, s', hs', rfl⟩
    (repeat' (first | (apply K.s_pure; (first | (apply Y.mv; exact X.mv) | (apply Y.sg; exact X.sg) | (apply Y.cv; exact X.cv) | (apply Y.fa; exact X.fa) | (apply Y.ld; exact X.ld) | (apply Y.ia; exact X.ia) | (apply Y.len; exact X.len) | (apply Y.badd; exact X.badd) | (apply Y.beql; exact X.beql) | (apply Y.blss; exact X.blss)); exact rfl) | refine X.l ?_ | refine X.w ?_ | refine X.a ?_ | (refine K.c_condD rfl (fun hc => ?_) (fun hc => ?_) <;> first | (exfalso; omega) | skip) | refine K.c_cond rfl (fun hc => ?_) (fun hc => ?_)))
    refine K.l_call (Fx.cal rfl) rfl (Ra.Fixed h i.x 8 hx (by omega)) (K.pp [] rfl) rfl ?_
    rintro v h' H' - ⟨rfl, a, cap, rfl, rfl⟩
    (repeat' (first | (apply K.s_pure; (first | (apply Y.mv; exact X.mv) | (apply Y.sg; exact X.sg) | (apply Y.cv; exact X.cv) | (apply Y.fa; exact X.fa) | (apply Y.ld; exact X.ld) | (apply Y.ia; exact X.ia) | (apply Y.len; exact X.len) | (apply Y.badd; exact X.badd) | (apply Y.beql; exact X.beql) | (apply Y.blss; exact X.blss)); exact rfl) | refine X.l ?_ | refine X.w ?_ | refine X.a ?_ | (refine K.c_condD rfl (fun hc => ?_) (fun hc => ?_) <;> first | (exfalso; omega) | skip) | refine K.c_cond rfl (fun hc => ?_) (fun hc => ?_)))
    refine K.AT.sel [2] rfl (K.AT.perm (List.Perm.swap ..) ?_)
    refine K.done (by first | exact Or.inl rfl | exact Or.inr rfl) rfl (by first | exact K.Base.le.refl _ | assumption) (H' := [Ca.wA s', _]) rfl ⟨rfl, a, cap, s', rfl, hs', rfl⟩
  · have e : itB i = cu i.x := by rw [itB, if_neg (by omega), if_neg (by omega), if_neg (by omega), if_neg (by omega), if_pos hc]
    rw [e]
    refine K.l_call (Fx.cal rfl) rfl (Ca.W_Uint h s i.x hx (by omega)) (K.pp [1] rfl) rfl ?_
    rintro v h' H' - ⟨rfl, rfl, s', hs', rfl⟩
    (repeat' (first | (apply K.s_pure; (first | (apply Y.mv; exact X.mv) | (apply Y.sg; exact X.sg) | (apply Y.cv; exact X.cv) | (apply Y.fa; exact X.fa) | (apply Y.ld; exact X.ld) | (apply Y.ia; exact X.ia) | (apply Y.len; exact X.len) | (apply Y.badd; exact X.badd) | (apply Y.beql; exact X.beql) | (apply Y.blss; exact X.blss)); exact rfl) | refine X.l ?_ | refine X.w ?_ | refine X.a ?_ | (refine K.c_condD rfl (fun hc => ?_) (fun hc => ?_) <;> first | (exfalso; omega) | skip) | refine K.c_cond rfl (fun hc => ?_) (fun hc => ?_)))
    refine K.l_call (Fx.cal rfl) rfl (Ra.RefUint h i.x hx) (K.pp [] rfl) rfl ?_
    rintro v h' H' - ⟨rfl, a, cap, rfl, rfl⟩
    (repeat' (first | (apply K.s_pure; (first | (apply Y.mv; exact X.mv) | (apply Y.sg; exact X.sg) | (apply Y.cv; exact X.cv) | (apply Y.fa; exact X.fa) | (apply Y.ld; exact X.ld) | (apply Y.ia; exact X.ia) | (apply Y.len; exact X.len) | (apply Y.badd; exact X.badd) | (apply Y.beql; exact X.beql) | (apply Y.blss; exact X.blss)); exact rfl) | refine X.l ?_ | refine X.w ?_ | refine X.a ?_ | (refine K.c_condD rfl (fun hc => ?_) (fun hc => ?_) <;> first | (exfalso; omega) | skip) | refine K.c_cond rfl (fun hc => ?_) (fun hc => ?_)))
    refine K.AT.sel [2] rfl (K.AT.perm (List.Perm.swap ..) ?_)
    refine K.done (by first | exact Or.inl rfl | exact Or.inr rfl) rfl (by first | exact K.Base.le.refl _ | assumption) (H' := [Ca.wA s', _]) rfl ⟨rfl, a, cap, s', rfl, hs', rfl⟩
  · have e : itB i = cu (zig (IntKind.i64.wrap i.x)) := by rw [itB, if_neg (by omega), if_neg (by omega), if_neg (by omega), if_neg (by omega), if_neg (by omega), if_pos hc]
    rw [e]
    have hr := wrap64_in i.x
    refine K.l_call (Fx.cal rfl) rfl (Ca.W_Int h s _ hr.1 hr.2 (by omega)) (K.pp [1] rfl) rfl ?_
    rintro v h' H' - ⟨rfl, rfl, s', hs', rfl⟩
    (repeat' (first | (apply K.s_pure; (first | (apply Y.mv; exact X.mv) | (apply Y.sg; exact X.sg) | (apply Y.cv; exact X.cv) | (apply Y.fa; exact X.fa) | (apply Y.ld; exact X.ld) | (apply Y.ia; exact X.ia) | (apply Y.len; exact X.len) | (apply Y.badd; exact X.badd) | (apply Y.beql; exact X.beql) | (apply Y.blss; exact X.blss)); exact rfl) | refine X.l ?_ | refine X.w ?_ | refine X.a ?_ | (refine K.c_condD rfl (fun hc => ?_) (fun hc => ?_) <;> first | (exfalso; omega) | skip) | refine K.c_cond rfl (fun hc => ?_) (fun hc => ?_)))
    refine K.l_callV (Fx.cal rfl) rfl (Ra.Fold h _ (wrap64_in i.x).1 (wrap64_in i.x).2) (K.pp [] rfl) rfl rfl ?_
    (repeat' (first | (apply K.s_pure; (first | (apply Y.mv; exact X.mv) | (apply Y.sg; exact X.sg) | (apply Y.cv; exact X.cv) | (apply Y.fa; exact X.fa) | (apply Y.ld; exact X.ld) | (apply Y.ia; exact X.ia) | (apply Y.len; exact X.len) | (apply Y.badd; exact X.badd) | (apply Y.beql; exact X.beql) | (apply Y.blss; exact X.blss)); exact rfl) | refine X.l ?_ | refine X.w ?_ | refine X.a ?_ | (refine K.c_condD rfl (fun hc => ?_) (fun hc => ?_) <;> first | (exfalso; omega) | skip) | refine K.c_cond rfl (fun hc => ?_) (fun hc => ?_)))
    refine K.l_call (Fx.cal rfl) rfl (Ra.RefUint h (zig _) (zig_lt hr.1 hr.2)) (K.pp [] rfl) rfl ?_
    rintro v h' H' - ⟨rfl, a, cap, rfl, rfl⟩
    (repeat' (first | (apply K.s_pure; (first | (apply Y.mv; exact X.mv) | (apply Y.sg; exact X.sg) | (apply Y.cv; exact X.cv) | (apply Y.fa; exact X.fa) | (apply Y.ld; exact X.ld) | (apply Y.ia; exact X.ia) | (apply Y.len; exact X.len) | (apply Y.badd; exact X.badd) | (apply Y.beql; exact X.beql) | (apply Y.blss; exact X.blss)); exact rfl) | refine X.l ?_ | refine X.w ?_ | refine X.a ?_ | (refine K.c_condD rfl (fun hc => ?_) (fun hc => ?_) <;> first | (exfalso; omega) | skip) | refine K.c_cond rfl (fun hc => ?_) (fun hc => ?_)))
    refine K.AT.sel [2] rfl (K.AT.perm (List.Perm.swap ..) ?_)
    refine K.done (by first | exact Or.inl rfl | exact Or.inr rfl) rfl (by first | exact K.Base.le.refl _ | assumption) (H' := [Ca.wA s', _]) rfl ⟨rfl, a, cap, s', rfl, hs', rfl⟩
  · have e : itB i = cu i.s.size ++ i.s.data.toList := by rw [itB, if_neg (by omega), if_neg (by omega), if_neg (by omega), if_neg (by omega), if_neg (by omega), if_neg (by omega), if_pos hc]
    rw [e]
    refine K.l_call (Fx.cal rfl) rfl (Ca.W_Text h s i.s (by omega)) (K.pp [1] rfl) rfl ?_
    rintro v h' H' - ⟨rfl, rfl, s', hs', rfl⟩
    (repeat' (first | (apply K.s_pure; (first | (apply Y.mv; exact X.mv) | (apply Y.sg; exact X.sg) | (apply Y.cv; exact X.cv) | (apply Y.fa; exact X.fa) | (apply Y.ld; exact X.ld) | (apply Y.ia; exact X.ia) | (apply Y.len; exact X.len) | (apply Y.badd; exact X.badd) | (apply Y.beql; exact X.beql) | (apply Y.blss; exact X.blss)); exact rfl) | refine X.l ?_ | refine X.w ?_ | refine X.a ?_ | (refine K.c_condD rfl (fun hc => ?_) (fun hc => ?_) <;> first | (exfalso; omega) | skip) | refine K.c_cond rfl (fun hc => ?_) (fun hc => ?_)))
    refine K.l_call (Fx.cal rfl) rfl (Ra.RefText h i.s (by omega)) (K.pp [] rfl) rfl ?_
    rintro v h' H' - ⟨rfl, a, cap, rfl, rfl⟩
    (repeat' (first | (apply K.s_pure; (first | (apply Y.mv; exact X.mv) | (apply Y.sg; exact X.sg) | (apply Y.cv; exact X.cv) | (apply Y.fa; exact X.fa) | (apply Y.ld; exact X.ld) | (apply Y.ia; exact X.ia) | (apply Y.len; exact X.len) | (apply Y.badd; exact X.badd) | (apply Y.beql; exact X.beql) | (apply Y.blss; exact X.blss)); exact rfl) | refine X.l ?_ | refine X.w ?_ | refine X.a ?_ | (refine K.c_condD rfl (fun hc => ?_) (fun hc => ?_) <;> first | (exfalso; omega) | skip) | refine K.c_cond rfl (fun hc => ?_) (fun hc => ?_)))
    refine K.AT.sel [2] rfl (K.AT.perm (List.Perm.swap ..) ?_)
    refine K.done (by first | exact Or.inl rfl | exact Or.inr rfl) rfl (by first | exact K.Base.le.refl _ | assumption) (H' := [Ca.wA s', _]) rfl ⟨rfl, a, cap, s', rfl, hs', rfl⟩
  · have e : itB i = i.s.data.toList := by rw [itB, if_neg (by omega), if_neg (by omega), if_neg (by omega), if_neg (by omega), if_neg (by omega), if_neg (by omega), if_neg (by omega), if_pos hc]
    rw [e]
    refine K.l_toBytes (Fx.und rfl) (Fx.und rfl) (Fx.und rfl) rfl (by unfold maxLen; omega) rfl (fun Bb cap => ?_)
    (repeat' (first | (apply K.s_pure; (first | (apply Y.mv; exact X.mv) | (apply Y.sg; exact X.sg) | (apply Y.cv; exact X.cv) | (apply Y.fa; exact X.fa) | (apply Y.ld; exact X.ld) | (apply Y.ia; exact X.ia) | (apply Y.len; exact X.len) | (apply Y.badd; exact X.badd) | (apply Y.beql; exact X.beql) | (apply Y.blss; exact X.blss)); exact rfl) | refine X.l ?_ | refine X.w ?_ | refine X.a ?_ | (refine K.c_condD rfl (fun hc => ?_) (fun hc => ?_) <;> first | (exfalso; omega) | skip) | refine K.c_cond rfl (fun hc => ?_) (fun hc => ?_)))
    rw [← hsz]
    refine K.l_call (Fx.cal rfl) rfl (Ca.W_Raw h s (some Bb) cap i.s.data.toList (by omega)) (K.pp [2, 0] rfl) rfl ?_
    rintro v h' H' - ⟨rfl, rfl, s', hs', rfl⟩
    (repeat' (first | (apply K.s_pure; (first | (apply Y.mv; exact X.mv) | (apply Y.sg; exact X.sg) | (apply Y.cv; exact X.cv) | (apply Y.fa; exact X.fa) | (apply Y.ld; exact X.ld) | (apply Y.ia; exact X.ia) | (apply Y.len; exact X.len) | (apply Y.badd; exact X.badd) | (apply Y.beql; exact X.beql) | (apply Y.blss; exact X.blss)); exact rfl) | refine X.l ?_ | refine X.w ?_ | refine X.a ?_ | (refine K.c_condD rfl (fun hc => ?_) (fun hc => ?_) <;> first | (exfalso; omega) | skip) | refine K.c_cond rfl (fun hc => ?_) (fun hc => ?_)))
    refine K.WC.perm (List.Perm.swap ..) (K.oc_buf (fun e => by cases e) ?_)
    rintro b sp fz e1 - hcap hle hmax hfr
    cases e1
    rw [Nat.mul_one] at hfr
    generalize hm : i.s.data.toList.length = m at hle
    refine K.c_loop (σ := Nat × List UInt8) (fun r => [(3, .pointer (some ⟨B, 0, none⟩)), (5, bufV (some Bb) m cap), (6, .int .i64 r.1)]) (fun _ => h)
      (fun r => K.blkF Bb 5 (r.2.map u8 ++ sp) fz :: Ca.wA s' :: K.blk B 31 (cI i) :: F) (fun r => r.1 ≤ m ∧ r.2.length = m) (fun r => m - r.1) (0, i.s.data.toList) ⟨Nat.zero_le _, hm⟩ (by repeat (first | exact K.Sub.nil _ | refine K.Sub.cons rfl ?_)) rfl rfl ?_
    rintro ⟨j, bs⟩ ⟨hj, hbs⟩ KL hKL
    dsimp only at hj hbs ⊢
    by_cases hjl : j < m
    · have hc0 : (bs.map u8 ++ sp)[j]? = some (.int .u8 (bs[j]'(by omega)).toNat) := by
        rw [List.getElem?_append_left (by simp; omega), List.getElem?_map, List.getElem?_eq_getElem (by omega)]; rfl
      have hcel := K.cel_own (h := h) (K := K.blkF Bb 5 (bs.map u8 ++ sp) fz :: Ca.wA s' :: K.blk B 31 (cI i) :: F) 0 rfl hc0
      have hcl : (bs[j]'(by omega)).toNat < 256 := (bs[j]'(by omega)).toNat_lt
      (repeat' (first | (apply K.s_pure; (first | (apply Y.mv; exact X.mv) | (apply Y.sg; exact X.sg) | (apply Y.cv; exact X.cv) | (apply Y.fa; exact X.fa) | (apply Y.ld; exact X.ld) | (apply Y.ia; exact X.ia) | (apply Y.len; exact X.len) | (apply Y.badd; exact X.badd) | (apply Y.beql; exact X.beql) | (apply Y.blss; exact X.blss)); exact rfl) | refine X.l ?_ | refine X.w ?_ | refine X.a ?_ | (refine K.c_condD rfl (fun hc => ?_) (fun hc => ?_) <;> first | (exfalso; omega) | skip) | refine K.c_cond rfl (fun hc => ?_) (fun hc => ?_)))
      refine K.l_storeB (c := UInt8.ofNat ((bs[j]'(by omega)).toNat + 1)) (Fx.sz rfl) rfl rfl (by rw [K.wu8]; simp) (by omega) (fun o ho => hfr o (by omega)) ?_
      (repeat' (first | (apply K.s_pure; (first | (apply Y.mv; exact X.mv) | (apply Y.sg; exact X.sg) | (apply Y.cv; exact X.cv) | (apply Y.fa; exact X.fa) | (apply Y.ld; exact X.ld) | (apply Y.ia; exact X.ia) | (apply Y.len; exact X.len) | (apply Y.badd; exact X.badd) | (apply Y.beql; exact X.beql) | (apply Y.blss; exact X.blss)); exact rfl) | refine X.l ?_ | refine X.w ?_ | refine X.a ?_ | (refine K.c_condD rfl (fun hc => ?_) (fun hc => ?_) <;> first | (exfalso; omega) | skip) | refine K.c_cond rfl (fun hc => ?_) (fun hc => ?_)))
      refine K.a_round hKL (j + 1, bs.set j _) ⟨by omega, by simp [hbs]⟩ (by repeat (first | exact K.Sub.nil _ | refine K.Sub.cons rfl ?_)) rfl rfl (by dsimp only; omega)
    · (repeat' (first | (apply K.s_pure; (first | (apply Y.mv; exact X.mv) | (apply Y.sg; exact X.sg) | (apply Y.cv; exact X.cv) | (apply Y.fa; exact X.fa) | (apply Y.ld; exact X.ld) | (apply Y.ia; exact X.ia) | (apply Y.len; exact X.len) | (apply Y.badd; exact X.badd) | (apply Y.beql; exact X.beql) | (apply Y.blss; exact X.blss)); exact rfl) | refine X.l ?_ | refine X.w ?_ | refine X.a ?_ | (refine K.c_condD rfl (fun hc => ?_) (fun hc => ?_) <;> first | (exfalso; omega) | skip) | refine K.c_cond rfl (fun hc => ?_) (fun hc => ?_)))
      refine K.l_toBytes (Fx.und rfl) (Fx.und rfl) (Fx.und rfl) rfl (by unfold maxLen; omega) rfl (fun Bc cap2 => ?_)
      (repeat' (first | (apply K.s_pure; (first | (apply Y.mv; exact X.mv) | (apply Y.sg; exact X.sg) | (apply Y.cv; exact X.cv) | (apply Y.fa; exact X.fa) | (apply Y.ld; exact X.ld) | (apply Y.ia; exact X.ia) | (apply Y.len; exact X.len) | (apply Y.badd; exact X.badd) | (apply Y.beql; exact X.beql) | (apply Y.blss; exact X.blss)); exact rfl) | refine X.l ?_ | refine X.w ?_ | refine X.a ?_ | (refine K.c_condD rfl (fun hc => ?_) (fun hc => ?_) <;> first | (exfalso; omega) | skip) | refine K.c_cond rfl (fun hc => ?_) (fun hc => ?_)))
      refine K.AT.sel [1, 2] rfl (K.AT.perm (List.Perm.swap ..) ?_)
      rw [← hsz]
      refine K.done (by first | exact Or.inl rfl | exact Or.inr rfl) rfl (by first | exact K.Base.le.refl _ | assumption) (H' := [Ca.wA s', _]) rfl ⟨rfl, some Bc, cap2, s', rfl, hs', rfl⟩
  · have e : itB i = [] := by rw [itB, if_neg (by omega), if_neg (by omega), if_neg (by omega), if_neg (by omega), if_neg (by omega), if_neg (by omega), if_neg (by omega), if_neg (by omega)]
    rw [e]
    refine K.AT.sel [0] rfl (K.AT.nilBuf 5 1 (K.AT.perm (List.Perm.swap ..) ?_))
    refine K.done (by first | exact Or.inl rfl | exact Or.inr rfl) rfl (by first | exact K.Base.le.refl _ | assumption) (H' := [Ca.wA s, _]) rfl ⟨rfl, none, 0, s, rfl, Ca.wadd_nil s, rfl⟩
end Go.Proofs.Ytgglpkboijjoiaa.La
