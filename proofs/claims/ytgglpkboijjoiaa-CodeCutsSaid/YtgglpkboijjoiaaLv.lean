/-
  A shorter beginning is not read, and the walk of layer 2's statement CodeCuts. Conditions: each theorem's own.
-/
import Derived.Test.YtgglpkboijjoiaaLu

namespace Go.Proofs.Ytgglpkboijjoiaa.La
open Go Go.K Go.Proofs Go.Proofs.Ytgglpkboijjoiaa Go.Proofs.Ytgglpkboijjoiaa.Cc Go.Proofs.Ytgglpkboijjoiaa.Rb
set_option linter.unusedVariables false
set_option linter.unusedSimpArgs false
set_option maxRecDepth 10000

theorem front_cut {x n : Nat} (hx : x < 18446744073709551616) (hn : n < (cu x).length) : front ((cu x).take n) = none := by
  cases hf : front ((cu x).take n) with
  | none => rfl
  | some p =>
    obtain ⟨y, m⟩ := p
    have h1 := cu_front hf
    obtain ⟨f1, f2, f3⟩ := front_le hf
    have hy := front_lt hf
    rw [List.length_take] at f2
    rw [List.take_take, Nat.min_eq_left (by omega)] at h1
    have h2 := front_cu y hy ((cu x).drop m)
    rw [h1, List.take_append_drop, List.length_take] at h2
    have h3 := front_cu x hx []
    rw [List.append_nil, h2, Option.some.injEq, Prod.mk.injEq] at h3
    omega
/-- The item that is asked for. -/
def cutI (i : It) : It := ⟨i.kind, 0, ⟨#[]⟩, i.s.size⟩
theorem again_cut (i : It) (hw : wfI i) (h0 : 0 ≤ i.kind) (h6 : i.kind ≤ 6) (n : Nat) (hn : n < (itB i).length) :
    agS (cutI i) true ((itB i).take n) = (false, (itB i).take n) ∧ agV (cutI i) true ((itB i).take n) = true := by
  have hx := hw.x
  have get : ∀ m x, n < (lebs x m).length → getOk true m ((lebs x m).take n) = false ∧ getRem true m ((lebs x m).take n) = (lebs x m).take n ∧ getN true m ((lebs x m).take n) = 0 := fun m x hn => by
    rw [lebs_length] at hn
    have hl := lebs_length m x
    have c : ¬ (true = true ∧ m ≤ ((lebs x m).take n).length) := fun e => by have := e.2; rw [List.length_take, hl] at this; omega
    refine ⟨by rw [getOk, decide_eq_false (by rw [List.length_take, hl]; omega)]; rfl, by rw [getRem, if_neg c], by rw [getN, if_neg c]⟩
  unfold cutI
  by_cases k0 : i.kind = 0
  · simp only [itB, if_pos k0] at hn
    simp only [agS, agV, itB, if_pos k0]
    obtain ⟨a, b, c⟩ := get 1 i.x hn
    rw [a, b, c]
    exact ⟨rfl, by simp⟩
  by_cases k1 : i.kind = 1
  · simp only [itB, if_neg k0, if_pos k1] at hn
    simp only [agS, agV, itB, if_neg k0, if_pos k1]
    obtain ⟨a, b, c⟩ := get 2 i.x hn
    rw [a, b, c]
    exact ⟨rfl, by simp⟩
  by_cases k2 : i.kind = 2
  · simp only [itB, if_neg k0, if_neg k1, if_pos k2] at hn
    simp only [agS, agV, itB, if_neg k0, if_neg k1, if_pos k2]
    obtain ⟨a, b, c⟩ := get 4 i.x hn
    rw [a, b, c]
    exact ⟨rfl, by simp⟩
  by_cases k3 : i.kind = 3
  · simp only [itB, if_neg k0, if_neg k1, if_neg k2, if_pos k3] at hn
    simp only [agS, agV, itB, if_neg k0, if_neg k1, if_neg k2, if_pos k3]
    obtain ⟨a, b, c⟩ := get 8 i.x hn
    rw [a, b, c]
    exact ⟨rfl, by simp⟩
  by_cases k4 : i.kind = 4
  · simp only [itB, if_neg k0, if_neg k1, if_neg k2, if_neg k3, if_pos k4] at hn
    simp only [agS, agV, itB, if_neg k0, if_neg k1, if_neg k2, if_neg k3, if_pos k4]
    have e : found true ((cu i.x).take n) = none := front_cut hx hn
    rw [e]
    exact ⟨rfl, rfl⟩
  by_cases k5 : i.kind = 5
  · simp only [itB, if_neg k0, if_neg k1, if_neg k2, if_neg k3, if_neg k4, if_pos k5] at hn
    simp only [agS, agV, itB, if_neg k0, if_neg k1, if_neg k2, if_neg k3, if_neg k4, if_pos k5]
    have hz := wrap64_in i.x
    have e : found true ((cu (zig (IntKind.i64.wrap i.x))).take n) = none := front_cut (zig_lt hz.1 hz.2) hn
    rw [e]
    exact ⟨rfl, rfl⟩
  have k6 : i.kind = 6 := by omega
  simp only [itB, if_neg k0, if_neg k1, if_neg k2, if_neg k3, if_neg k4, if_neg k5, if_pos k6] at hn
  simp only [agS, agV, itB, if_neg k0, if_neg k1, if_neg k2, if_neg k3, if_neg k4, if_neg k5, if_pos k6]
  have hsz : i.s.data.toList.length = i.s.size := by simp
  have hs64 : i.s.size < 18446744073709551616 := by have := hw.s; omega
  have ht : ∀ most, txt true ((cu i.s.size ++ i.s.data.toList).take n) most = none := fun most => by
    by_cases hc : n < (cu i.s.size).length
    · have e : found true ((cu i.s.size ++ i.s.data.toList).take n) = none := by
        rw [List.take_append_of_le_length (by omega)]
        exact front_cut hs64 hc
      simp only [txt, e]
    · have e : found true ((cu i.s.size ++ i.s.data.toList).take n) = some (i.s.size, (cu i.s.size).length) := by
        rw [List.take_append, List.take_of_length_le (by omega)]
        exact front_cu _ hs64 _
      simp only [txt, e]
      rw [if_neg]
      rintro ⟨-, -, h3⟩
      rw [List.length_take] at h3
      rw [List.length_append, hsz] at hn
      omega
  rw [ht]
  exact ⟨rfl, rfl⟩

theorem itB_pos (i : It) (h0 : 0 ≤ i.kind) (h6 : i.kind ≤ 6) : 0 < (itB i).length := by
  unfold itB
  have c1 := cu_len i.x
  have c2 := cu_len (zig (IntKind.i64.wrap i.x))
  have c3 := cu_len i.s.size
  split
  · rw [lebs_length]; omega
  split
  · rw [lebs_length]; omega
  split
  · rw [lebs_length]; omega
  split
  · rw [lebs_length]; omega
  split
  · omega
  split
  · omega
  split
  · rw [List.length_append]; omega
  · omega

theorem get_false (m : Nat) (rem : List UInt8) : getOk false m rem = false ∧ getRem false m rem = rem ∧ getN false m rem = 0 := by
  have c : ¬ (false = true ∧ m ≤ rem.length) := fun e => by cases e.1
  exact ⟨rfl, by rw [getRem, if_neg c], by rw [getN, if_neg c]⟩
set_option maxHeartbeats 4000000 in
theorem CodeCuts (h : Base) (i : It) (cut : Int) (hw : wfI i) (hc1 : -9223372036854775808 ≤ cut) (hc2 : cut ≤ 9223372036854775807) :
    Tr Try.prog 7 [.agg (cI i).toArray, .int .i64 cut] h [] (fun u h' H' => u = .bool true ∧ H' = []) := by
  have hs1 := hw.s
  refine K.enter Try.func7 rfl (Nat.le_of_ble_eq_true rfl) (fun F => ?_)
  (repeat' (first | (apply K.s_pure; (first | (apply Y.mv; exact X.mv) | (apply Y.sg; exact X.sg) | (apply Y.pk; exact X.pk) | (apply Y.fa; exact X.fa) | (apply Y.ld; exact X.ld) | (apply Y.sl; exact X.sl) | (apply Y.bd; exact X.bd) | (apply Y.len; exact X.len) | (apply Y.beql; exact X.beql) | (apply Y.blss; exact X.blss) | (apply Y.bgtr; exact X.bgtr) | (apply Y.brem; exact X.brem)); exact rfl) | refine X.l ?_ | refine X.w ?_ | refine X.a ?_ | (refine K.c_condD rfl (fun hc => ?_) (fun hc => ?_) <;> first | (exfalso; omega) | skip) | refine K.c_cond rfl (fun hc => ?_) (fun hc => ?_) | (refine K.s_guardD rfl rfl (fun hc => ?_) (fun hc => ?_) <;> first | (exfalso; omega) | skip) | refine K.s_guard rfl rfl (fun hc => ?_) (fun hc => ?_)))
  refine K.l_box rfl rfl rfl (fun B => ?_)
  by_cases hno : i.kind < 0 ∨ 6 < i.kind ∨ cut < 0 ∨ (65536 : Int) < i.s.size
  · (repeat' (first | (apply K.s_pure; (first | (apply Y.mv; exact X.mv) | (apply Y.sg; exact X.sg) | (apply Y.pk; exact X.pk) | (apply Y.fa; exact X.fa) | (apply Y.ld; exact X.ld) | (apply Y.sl; exact X.sl) | (apply Y.bd; exact X.bd) | (apply Y.len; exact X.len) | (apply Y.beql; exact X.beql) | (apply Y.blss; exact X.blss) | (apply Y.bgtr; exact X.bgtr) | (apply Y.brem; exact X.brem)); exact rfl) | refine X.l ?_ | refine X.w ?_ | refine X.a ?_ | (refine K.c_condD rfl (fun hc => ?_) (fun hc => ?_) <;> first | (exfalso; omega) | skip) | refine K.c_cond rfl (fun hc => ?_) (fun hc => ?_) | (refine K.s_guardD rfl rfl (fun hc => ?_) (fun hc => ?_) <;> first | (exfalso; omega) | skip) | refine K.s_guard rfl rfl (fun hc => ?_) (fun hc => ?_)))
    all_goals
      refine K.l_call (Fx.cal rfl) rfl (alive h) (K.pp [] rfl) rfl ?_
      rintro v h' H' hle ⟨rfl, rfl⟩
      (repeat' (first | (apply K.s_pure; (first | (apply Y.mv; exact X.mv) | (apply Y.sg; exact X.sg) | (apply Y.pk; exact X.pk) | (apply Y.fa; exact X.fa) | (apply Y.ld; exact X.ld) | (apply Y.sl; exact X.sl) | (apply Y.bd; exact X.bd) | (apply Y.len; exact X.len) | (apply Y.beql; exact X.beql) | (apply Y.blss; exact X.blss) | (apply Y.bgtr; exact X.bgtr) | (apply Y.brem; exact X.brem)); exact rfl) | refine X.l ?_ | refine X.w ?_ | refine X.a ?_ | (refine K.c_condD rfl (fun hc => ?_) (fun hc => ?_) <;> first | (exfalso; omega) | skip) | refine K.c_cond rfl (fun hc => ?_) (fun hc => ?_) | (refine K.s_guardD rfl rfl (fun hc => ?_) (fun hc => ?_) <;> first | (exfalso; omega) | skip) | refine K.s_guard rfl rfl (fun hc => ?_) (fun hc => ?_)))
      refine K.AT.sel [0] rfl ?_
      refine K.done (by first | exact Or.inl rfl | exact Or.inr rfl) rfl (by first | exact K.Base.le.refl _ | assumption) (H' := []) rfl ⟨rfl, rfl⟩
  · (repeat' (first | (apply K.s_pure; (first | (apply Y.mv; exact X.mv) | (apply Y.sg; exact X.sg) | (apply Y.pk; exact X.pk) | (apply Y.fa; exact X.fa) | (apply Y.ld; exact X.ld) | (apply Y.sl; exact X.sl) | (apply Y.bd; exact X.bd) | (apply Y.len; exact X.len) | (apply Y.beql; exact X.beql) | (apply Y.blss; exact X.blss) | (apply Y.bgtr; exact X.bgtr) | (apply Y.brem; exact X.brem)); exact rfl) | refine X.l ?_ | refine X.w ?_ | refine X.a ?_ | (refine K.c_condD rfl (fun hc => ?_) (fun hc => ?_) <;> first | (exfalso; omega) | skip) | refine K.c_cond rfl (fun hc => ?_) (fun hc => ?_) | (refine K.s_guardD rfl rfl (fun hc => ?_) (fun hc => ?_) <;> first | (exfalso; omega) | skip) | refine K.s_guard rfl rfl (fun hc => ?_) (fun hc => ?_)))
    refine K.l_call (Fx.cal rfl) rfl (Ca.NewWriter h) (K.pp [] rfl) rfl ?_
    rintro u h' H' - ⟨rfl, p, rfl, rfl⟩
    (repeat' (first | (apply K.s_pure; (first | (apply Y.mv; exact X.mv) | (apply Y.sg; exact X.sg) | (apply Y.pk; exact X.pk) | (apply Y.fa; exact X.fa) | (apply Y.ld; exact X.ld) | (apply Y.sl; exact X.sl) | (apply Y.bd; exact X.bd) | (apply Y.len; exact X.len) | (apply Y.beql; exact X.beql) | (apply Y.blss; exact X.blss) | (apply Y.bgtr; exact X.bgtr) | (apply Y.brem; exact X.brem)); exact rfl) | refine X.l ?_ | refine X.w ?_ | refine X.a ?_ | (refine K.c_condD rfl (fun hc => ?_) (fun hc => ?_) <;> first | (exfalso; omega) | skip) | refine K.c_cond rfl (fun hc => ?_) (fun hc => ?_) | (refine K.s_guardD rfl rfl (fun hc => ?_) (fun hc => ?_) <;> first | (exfalso; omega) | skip) | refine K.s_guard rfl rfl (fun hc => ?_) (fun hc => ?_)))
    refine K.s_pure (K.p_loadM (Fx.agg rfl) rfl (K.cels_own (pre := []) (cs := cI i) (post := []) 1 rfl rfl) (Fx.sz rfl) rfl) rfl ?_
    (repeat' (first | (apply K.s_pure; (first | (apply Y.mv; exact X.mv) | (apply Y.sg; exact X.sg) | (apply Y.pk; exact X.pk) | (apply Y.fa; exact X.fa) | (apply Y.ld; exact X.ld) | (apply Y.sl; exact X.sl) | (apply Y.bd; exact X.bd) | (apply Y.len; exact X.len) | (apply Y.beql; exact X.beql) | (apply Y.blss; exact X.blss) | (apply Y.bgtr; exact X.bgtr) | (apply Y.brem; exact X.brem)); exact rfl) | refine X.l ?_ | refine X.w ?_ | refine X.a ?_ | (refine K.c_condD rfl (fun hc => ?_) (fun hc => ?_) <;> first | (exfalso; omega) | skip) | refine K.c_cond rfl (fun hc => ?_) (fun hc => ?_) | (refine K.s_guardD rfl rfl (fun hc => ?_) (fun hc => ?_) <;> first | (exfalso; omega) | skip) | refine K.s_guard rfl rfl (fun hc => ?_) (fun hc => ?_)))
    refine K.l_call (Fx.cal rfl) rfl (write h _ i hw (by omega) (by simp [Ca.wb]; omega)) (K.pp [0] rfl) rfl ?_
    rintro u h' H' - ⟨rfl, a1, cap1, s1, rfl, hs1, rfl⟩
    obtain ⟨hmk1, hwb1⟩ := mk_add (s := some (p, some (none, 0, []))) trivial hs1
    replace hwb1 : Ca.wb s1 = itB i := hwb1
    rw [← Ca.wadd_val hs1]
    have hib := itB_len i
    have hpos := itB_pos i (by omega) (by omega)
    (repeat' (first | (apply K.s_pure; (first | (apply Y.mv; exact X.mv) | (apply Y.sg; exact X.sg) | (apply Y.pk; exact X.pk) | (apply Y.fa; exact X.fa) | (apply Y.ld; exact X.ld) | (apply Y.sl; exact X.sl) | (apply Y.bd; exact X.bd) | (apply Y.len; exact X.len) | (apply Y.beql; exact X.beql) | (apply Y.blss; exact X.blss) | (apply Y.bgtr; exact X.bgtr) | (apply Y.brem; exact X.brem)); exact rfl) | refine X.l ?_ | refine X.w ?_ | refine X.a ?_ | (refine K.c_condD rfl (fun hc => ?_) (fun hc => ?_) <;> first | (exfalso; omega) | skip) | refine K.c_cond rfl (fun hc => ?_) (fun hc => ?_) | (refine K.s_guardD rfl rfl (fun hc => ?_) (fun hc => ?_) <;> first | (exfalso; omega) | skip) | refine K.s_guard rfl rfl (fun hc => ?_) (fun hc => ?_)))
    refine K.l_call (Fx.cal rfl) rfl (Ca.W_Bytes h s1 (by rw [hwb1]; unfold Ca.big; omega)) (K.pp [0] rfl) rfl ?_
    rintro u h' H' - ⟨rfl, a2, cap2, rfl, rfl⟩
    rw [hwb1]
    refine K.WL.freezeBuf (fun h1 le1 hb1 => ?_)
    obtain ⟨n, hn, hnl⟩ : ∃ n : Nat, cut % ((itB i).length : Nat) = (n : Int) ∧ n < (itB i).length := by
      have g1 := Int.emod_nonneg cut (show (((itB i).length : Nat) : Int) ≠ 0 by omega)
      have g2 := Int.emod_lt_of_pos cut (show (0 : Int) < (((itB i).length : Nat) : Int) by omega)
      exact ⟨(cut % ((itB i).length : Nat)).toNat, by omega, by omega⟩
    (repeat' (first | (apply K.s_pure; (first | (apply Y.mv; exact X.mv) | (apply Y.sg; exact X.sg) | (apply Y.pk; exact X.pk) | (apply Y.fa; exact X.fa) | (apply Y.ld; exact X.ld) | (apply Y.sl; exact X.sl) | (apply Y.bd; exact X.bd) | (apply Y.len; exact X.len) | (apply Y.beql; exact X.beql) | (apply Y.blss; exact X.blss) | (apply Y.bgtr; exact X.bgtr) | (apply Y.brem; exact X.brem)); exact rfl) | refine X.l ?_ | refine X.w ?_ | refine X.a ?_ | (refine K.c_condD rfl (fun hc => ?_) (fun hc => ?_) <;> first | (exfalso; omega) | skip) | refine K.c_cond rfl (fun hc => ?_) (fun hc => ?_) | (refine K.s_guardD rfl rfl (fun hc => ?_) (fun hc => ?_) <;> first | (exfalso; omega) | skip) | refine K.s_guard rfl rfl (fun hc => ?_) (fun hc => ?_)))
    rw [hn]
    refine K.s_pureE (K.p_sliceB (k1 := .i64) (k2 := .i64) (p := 0) (q := n) hb1 (Fx.und rfl) (Fx.sz rfl) rfl rfl ⟨_, rfl, rfl⟩ (by omega) (by omega)) rfl ?_
    rintro sv2 hb2
    rw [List.drop_zero] at hb2
    have hln : ((itB i).take n).length = n := by rw [List.length_take]; omega
    have hbg : ((itB i).take n).length ≤ Cc.big := by rw [hln]; unfold Cc.big; omega
    (repeat' (first | (apply K.s_pure; (first | (apply Y.mv; exact X.mv) | (apply Y.sg; exact X.sg) | (apply Y.pk; exact X.pk) | (apply Y.fa; exact X.fa) | (apply Y.ld; exact X.ld) | (apply Y.sl; exact X.sl) | (apply Y.bd; exact X.bd) | (apply Y.len; exact X.len) | (apply Y.beql; exact X.beql) | (apply Y.blss; exact X.blss) | (apply Y.bgtr; exact X.bgtr) | (apply Y.brem; exact X.brem)); exact rfl) | refine X.l ?_ | refine X.w ?_ | refine X.a ?_ | (refine K.c_condD rfl (fun hc => ?_) (fun hc => ?_) <;> first | (exfalso; omega) | skip) | refine K.c_cond rfl (fun hc => ?_) (fun hc => ?_) | (refine K.s_guardD rfl rfl (fun hc => ?_) (fun hc => ?_) <;> first | (exfalso; omega) | skip) | refine K.s_guard rfl rfl (fun hc => ?_) (fun hc => ?_)))
    refine K.l_call (Fx.cal rfl) rfl (Cc.NewReader h1 _ ((itB i).take n) [] hb2.src hbg) (K.pp [] rfl) rfl ?_
    rintro u h2 H' le2 ⟨p1, sv1, rfl, hr1, rfl⟩
    have hwc : wfI (cutI i) := ⟨hw.k1, hw.k2, by show (0 : Nat) < _; omega, by show (0 : Nat) ≤ _; omega, by show _ ≤ ((i.s.size : Nat) : Int); omega, by show ((i.s.size : Nat) : Int) ≤ _; omega⟩
    obtain ⟨es, eb⟩ := again_cut i hw (by omega) (by omega) n hnl
    (repeat' (first | (apply K.s_pure; (first | (apply Y.mv; exact X.mv) | (apply Y.sg; exact X.sg) | (apply Y.pk; exact X.pk) | (apply Y.fa; exact X.fa) | (apply Y.ld; exact X.ld) | (apply Y.sl; exact X.sl) | (apply Y.bd; exact X.bd) | (apply Y.len; exact X.len) | (apply Y.beql; exact X.beql) | (apply Y.blss; exact X.blss) | (apply Y.bgtr; exact X.bgtr) | (apply Y.brem; exact X.brem)); exact rfl) | refine X.l ?_ | refine X.w ?_ | refine X.a ?_ | (refine K.c_condD rfl (fun hc => ?_) (fun hc => ?_) <;> first | (exfalso; omega) | skip) | refine K.c_cond rfl (fun hc => ?_) (fun hc => ?_) | (refine K.s_guardD rfl rfl (fun hc => ?_) (fun hc => ?_) <;> first | (exfalso; omega) | skip) | refine K.s_guard rfl rfl (fun hc => ?_) (fun hc => ?_)))
    refine K.l_call (vals := [rv (some ⟨p1, true, sv1, false⟩), .agg (cI (cutI i)).toArray]) (Fx.cal rfl) rfl (again h2 _ true _ (cutI i) hwc hr1 hbg) (K.pp [0] rfl) rfl ?_
    rintro u h' H' - ⟨rfl, rfl, s2, hs2, hr2, rfl⟩
    rw [es] at hr2
    rw [eb]
    dsimp only at hr2
    have hv2 : rv s2 = .pointer (some ⟨p1, 0, none⟩) := same_val hs2
    (repeat' (first | (apply K.s_pure; (first | (apply Y.mv; exact X.mv) | (apply Y.sg; exact X.sg) | (apply Y.pk; exact X.pk) | (apply Y.fa; exact X.fa) | (apply Y.ld; exact X.ld) | (apply Y.sl; exact X.sl) | (apply Y.bd; exact X.bd) | (apply Y.len; exact X.len) | (apply Y.beql; exact X.beql) | (apply Y.blss; exact X.blss) | (apply Y.bgtr; exact X.bgtr) | (apply Y.brem; exact X.brem)); exact rfl) | refine X.l ?_ | refine X.w ?_ | refine X.a ?_ | (refine K.c_condD rfl (fun hc => ?_) (fun hc => ?_) <;> first | (exfalso; omega) | skip) | refine K.c_cond rfl (fun hc => ?_) (fun hc => ?_) | (refine K.s_guardD rfl rfl (fun hc => ?_) (fun hc => ?_) <;> first | (exfalso; omega) | skip) | refine K.s_guard rfl rfl (fun hc => ?_) (fun hc => ?_)))
    refine K.l_callV (vals := [rv s2]) (Fx.cal rfl) (by rw [hv2]; rfl) (R_Err h2 s2 false _ hr2) (K.pp [0] rfl) rfl rfl ?_
    (repeat' (first | (apply K.s_pure; (first | (apply Y.mv; exact X.mv) | (apply Y.sg; exact X.sg) | (apply Y.pk; exact X.pk) | (apply Y.fa; exact X.fa) | (apply Y.ld; exact X.ld) | (apply Y.sl; exact X.sl) | (apply Y.bd; exact X.bd) | (apply Y.len; exact X.len) | (apply Y.beql; exact X.beql) | (apply Y.blss; exact X.blss) | (apply Y.bgtr; exact X.bgtr) | (apply Y.brem; exact X.brem)); exact rfl) | refine X.l ?_ | refine X.w ?_ | refine X.a ?_ | (refine K.c_condD rfl (fun hc => ?_) (fun hc => ?_) <;> first | (exfalso; omega) | skip) | refine K.c_cond rfl (fun hc => ?_) (fun hc => ?_) | (refine K.s_guardD rfl rfl (fun hc => ?_) (fun hc => ?_) <;> first | (exfalso; omega) | skip) | refine K.s_guard rfl rfl (fun hc => ?_) (fun hc => ?_)))
    refine K.l_callV (vals := [rv s2]) (Fx.cal rfl) (by rw [hv2]; rfl) (R_Left h2 s2 false _ hr2) (K.pp [0] rfl) rfl rfl ?_
    rw [hln]
    (repeat' (first | (apply K.s_pure; (first | (apply Y.mv; exact X.mv) | (apply Y.sg; exact X.sg) | (apply Y.pk; exact X.pk) | (apply Y.fa; exact X.fa) | (apply Y.ld; exact X.ld) | (apply Y.sl; exact X.sl) | (apply Y.bd; exact X.bd) | (apply Y.len; exact X.len) | (apply Y.beql; exact X.beql) | (apply Y.blss; exact X.blss) | (apply Y.bgtr; exact X.bgtr) | (apply Y.brem; exact X.brem)); exact rfl) | refine X.l ?_ | refine X.w ?_ | refine X.a ?_ | (refine K.c_condD rfl (fun hc => ?_) (fun hc => ?_) <;> first | (exfalso; omega) | skip) | refine K.c_cond rfl (fun hc => ?_) (fun hc => ?_) | (refine K.s_guardD rfl rfl (fun hc => ?_) (fun hc => ?_) <;> first | (exfalso; omega) | skip) | refine K.s_guard rfl rfl (fun hc => ?_) (fun hc => ?_)))
    refine K.l_call (vals := [rv s2]) (Fx.cal rfl) (by rw [hv2]; rfl) (R_U8 h2 s2 false _ hr2 hbg) (K.pp [0] rfl) rfl ?_
    rintro u h' H' - ⟨rfl, rfl, s3, hs3, hr3, rfl⟩
    obtain ⟨g1, g2, g3⟩ := get_false 1 ((itB i).take n)
    rw [g1, g2] at hr3
    rw [g3]
    have hv3 : rv s3 = .pointer (some ⟨p1, 0, none⟩) := same_val (same_trans hs2 hs3)
    (repeat' (first | (apply K.s_pure; (first | (apply Y.mv; exact X.mv) | (apply Y.sg; exact X.sg) | (apply Y.pk; exact X.pk) | (apply Y.fa; exact X.fa) | (apply Y.ld; exact X.ld) | (apply Y.sl; exact X.sl) | (apply Y.bd; exact X.bd) | (apply Y.len; exact X.len) | (apply Y.beql; exact X.beql) | (apply Y.blss; exact X.blss) | (apply Y.bgtr; exact X.bgtr) | (apply Y.brem; exact X.brem)); exact rfl) | refine X.l ?_ | refine X.w ?_ | refine X.a ?_ | (refine K.c_condD rfl (fun hc => ?_) (fun hc => ?_) <;> first | (exfalso; omega) | skip) | refine K.c_cond rfl (fun hc => ?_) (fun hc => ?_) | (refine K.s_guardD rfl rfl (fun hc => ?_) (fun hc => ?_) <;> first | (exfalso; omega) | skip) | refine K.s_guard rfl rfl (fun hc => ?_) (fun hc => ?_)))
    refine K.l_call (vals := [rv s3, .int .i64 1048576]) (Fx.cal rfl) (by rw [hv3]; rfl) (R_Text h2 s3 false _ 1048576 hr3 hbg (by omega) (by omega)) (K.pp [0] rfl) rfl ?_
    rintro u h' H' - ⟨rfl, rfl, s4, hs4, hr4, rfl⟩
    have hr4 : Rd h2 s4 false ((itB i).take n) := hr4
    have hv4 : rv s4 = .pointer (some ⟨p1, 0, none⟩) := same_val (same_trans (same_trans hs2 hs3) hs4)
    (repeat' (first | (apply K.s_pure; (first | (apply Y.mv; exact X.mv) | (apply Y.sg; exact X.sg) | (apply Y.pk; exact X.pk) | (apply Y.fa; exact X.fa) | (apply Y.ld; exact X.ld) | (apply Y.sl; exact X.sl) | (apply Y.bd; exact X.bd) | (apply Y.len; exact X.len) | (apply Y.beql; exact X.beql) | (apply Y.blss; exact X.blss) | (apply Y.bgtr; exact X.bgtr) | (apply Y.brem; exact X.brem)); exact rfl) | refine X.l ?_ | refine X.w ?_ | refine X.a ?_ | (refine K.c_condD rfl (fun hc => ?_) (fun hc => ?_) <;> first | (exfalso; omega) | skip) | refine K.c_cond rfl (fun hc => ?_) (fun hc => ?_) | (refine K.s_guardD rfl rfl (fun hc => ?_) (fun hc => ?_) <;> first | (exfalso; omega) | skip) | refine K.s_guard rfl rfl (fun hc => ?_) (fun hc => ?_)))
    refine K.l_callV (vals := [rv s4]) (Fx.cal rfl) (by rw [hv4]; rfl) (R_Left h2 s4 false _ hr4) (K.pp [0] rfl) rfl rfl ?_
    rw [hln]
    (repeat' (first | (apply K.s_pure; (first | (apply Y.mv; exact X.mv) | (apply Y.sg; exact X.sg) | (apply Y.pk; exact X.pk) | (apply Y.fa; exact X.fa) | (apply Y.ld; exact X.ld) | (apply Y.sl; exact X.sl) | (apply Y.bd; exact X.bd) | (apply Y.len; exact X.len) | (apply Y.beql; exact X.beql) | (apply Y.blss; exact X.blss) | (apply Y.bgtr; exact X.bgtr) | (apply Y.brem; exact X.brem)); exact rfl) | refine X.l ?_ | refine X.w ?_ | refine X.a ?_ | (refine K.c_condD rfl (fun hc => ?_) (fun hc => ?_) <;> first | (exfalso; omega) | skip) | refine K.c_cond rfl (fun hc => ?_) (fun hc => ?_) | (refine K.s_guardD rfl rfl (fun hc => ?_) (fun hc => ?_) <;> first | (exfalso; omega) | skip) | refine K.s_guard rfl rfl (fun hc => ?_) (fun hc => ?_)))
    refine K.l_call (vals := [rv s4]) (Fx.cal rfl) (by rw [hv4]; rfl) (R_End h2 s4 false _ hr4 hbg) (K.pp [0] rfl) rfl ?_
    rintro u h' H' - ⟨rfl, rfl, s5, hs5, hr5, rfl⟩
    rw [Bool.false_and]
    (repeat' (first | (apply K.s_pure; (first | (apply Y.mv; exact X.mv) | (apply Y.sg; exact X.sg) | (apply Y.pk; exact X.pk) | (apply Y.fa; exact X.fa) | (apply Y.ld; exact X.ld) | (apply Y.sl; exact X.sl) | (apply Y.bd; exact X.bd) | (apply Y.len; exact X.len) | (apply Y.beql; exact X.beql) | (apply Y.blss; exact X.blss) | (apply Y.bgtr; exact X.bgtr) | (apply Y.brem; exact X.brem)); exact rfl) | refine X.l ?_ | refine X.w ?_ | refine X.a ?_ | (refine K.c_condD rfl (fun hc => ?_) (fun hc => ?_) <;> first | (exfalso; omega) | skip) | refine K.c_cond rfl (fun hc => ?_) (fun hc => ?_) | (refine K.s_guardD rfl rfl (fun hc => ?_) (fun hc => ?_) <;> first | (exfalso; omega) | skip) | refine K.s_guard rfl rfl (fun hc => ?_) (fun hc => ?_)))
    refine K.l_call (Fx.cal rfl) rfl (alive h2) (K.pp [] rfl) rfl ?_
    rintro v h' H' hle ⟨rfl, rfl⟩
    (repeat' (first | (apply K.s_pure; (first | (apply Y.mv; exact X.mv) | (apply Y.sg; exact X.sg) | (apply Y.pk; exact X.pk) | (apply Y.fa; exact X.fa) | (apply Y.ld; exact X.ld) | (apply Y.sl; exact X.sl) | (apply Y.bd; exact X.bd) | (apply Y.len; exact X.len) | (apply Y.beql; exact X.beql) | (apply Y.blss; exact X.blss) | (apply Y.bgtr; exact X.bgtr) | (apply Y.brem; exact X.brem)); exact rfl) | refine X.l ?_ | refine X.w ?_ | refine X.a ?_ | (refine K.c_condD rfl (fun hc => ?_) (fun hc => ?_) <;> first | (exfalso; omega) | skip) | refine K.c_cond rfl (fun hc => ?_) (fun hc => ?_) | (refine K.s_guardD rfl rfl (fun hc => ?_) (fun hc => ?_) <;> first | (exfalso; omega) | skip) | refine K.s_guard rfl rfl (fun hc => ?_) (fun hc => ?_)))
    refine K.AT.sel [0, 0, 0, 0] rfl ?_
    skip
    refine K.done (by first | exact Or.inl rfl | exact Or.inr rfl) rfl ((le1.trans le2).trans hle) (H' := []) rfl ⟨rfl, rfl⟩
end Go.Proofs.Ytgglpkboijjoiaa.La
