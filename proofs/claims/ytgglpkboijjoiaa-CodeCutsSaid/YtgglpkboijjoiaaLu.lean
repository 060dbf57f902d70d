/-
  What was written is read as it was, and the walk of layer 2's statement CodeBack. Conditions: each theorem's own.
-/
import Derived.Test.YtgglpkboijjoiaaLt
import Derived.Test.YtgglpkboijjoiaaLw

namespace Go.Proofs.Ytgglpkboijjoiaa.La
open Go Go.K Go.Proofs Go.Proofs.Ytgglpkboijjoiaa Go.Proofs.Ytgglpkboijjoiaa.Cc Go.Proofs.Ytgglpkboijjoiaa.Rb
set_option linter.unusedVariables false
set_option linter.unusedSimpArgs false
set_option maxRecDepth 10000

theorem leNum_mod (m x : Nat) : leNum (lebs x m) = x % 256 ^ m := by
  rw [← lebs_mod m x]
  exact leNum_lebs m _ (Nat.mod_lt _ (Nat.pow_pos (by omega)))
theorem get_back (m x : Nat) (r : List UInt8) : getOk true m (lebs x m ++ r) = true ∧ getRem true m (lebs x m ++ r) = r ∧ getN true m (lebs x m ++ r) = x % 256 ^ m := by
  have hl := lebs_length m x
  have c : true = true ∧ m ≤ (lebs x m ++ r).length := ⟨rfl, by rw [List.length_append, hl]; omega⟩
  refine ⟨by rw [getOk, decide_eq_true c.2]; rfl, by rw [getRem, if_pos c, List.drop_left' hl], by rw [getN, if_pos c, List.take_left' hl, leNum_mod]⟩
theorem found_back {x : Nat} (hx : x < 18446744073709551616) (r : List UInt8) : found true (cu x ++ r) = some (x, (cu x).length) := front_cu x hx r

theorem again_back (i : It) (hw : wfI i) (r : List UInt8) : agS i true (itB i ++ r) = (true, r) ∧ agV i true (itB i ++ r) = true := by
  have hx := hw.x
  by_cases h0 : i.kind = 0
  · simp only [agS, agV, itB, if_pos h0]
    obtain ⟨a, b, c⟩ := get_back 1 i.x r
    rw [a, b, c]
    exact ⟨rfl, by simp⟩
  by_cases h1 : i.kind = 1
  · simp only [agS, agV, itB, if_neg h0, if_pos h1]
    obtain ⟨a, b, c⟩ := get_back 2 i.x r
    rw [a, b, c]
    exact ⟨rfl, by simp⟩
  by_cases h2 : i.kind = 2
  · simp only [agS, agV, itB, if_neg h0, if_neg h1, if_pos h2]
    obtain ⟨a, b, c⟩ := get_back 4 i.x r
    rw [a, b, c]
    exact ⟨rfl, by simp⟩
  by_cases h3 : i.kind = 3
  · simp only [agS, agV, itB, if_neg h0, if_neg h1, if_neg h2, if_pos h3]
    obtain ⟨a, b, c⟩ := get_back 8 i.x r
    rw [a, b, c, Nat.mod_eq_of_lt (show i.x < 256 ^ 8 from hx)]
    exact ⟨rfl, by simp⟩
  by_cases h4 : i.kind = 4
  · simp only [agS, agV, itB, if_neg h0, if_neg h1, if_neg h2, if_neg h3, if_pos h4]
    rw [found_back hx]
    exact ⟨by simp [uRem], by simp [uN]⟩
  by_cases h5 : i.kind = 5
  · simp only [agS, agV, itB, if_neg h0, if_neg h1, if_neg h2, if_neg h3, if_neg h4, if_pos h5]
    have hz := wrap64_in i.x
    rw [found_back (zig_lt hz.1 hz.2)]
    exact ⟨by simp [uRem], by simp [uN, unzig_zig]⟩
  by_cases h6 : i.kind = 6
  · simp only [agS, agV, itB, if_neg h0, if_neg h1, if_neg h2, if_neg h3, if_neg h4, if_neg h5, if_pos h6]
    have hsz : i.s.data.toList.length = i.s.size := by simp
    have hs64 : i.s.size < 18446744073709551616 := by have := hw.s; omega
    rw [List.append_assoc]
    have ht : txt true (cu i.s.size ++ (i.s.data.toList ++ r)) (max i.n i.s.size) = some (i.s.size, (cu i.s.size).length) := by
      rw [txt, found_back hs64]
      dsimp only
      rw [if_pos ⟨by omega, by omega, by rw [List.length_append, List.length_append, hsz]; omega⟩]
    rw [ht]
    have e1 : txtV (some (i.s.size, (cu i.s.size).length)) (cu i.s.size ++ (i.s.data.toList ++ r)) = i.s.data.toList := by
      simp only [txtV]; rw [List.drop_left, List.take_left' hsz]
    have e2 : txtRem (some (i.s.size, (cu i.s.size).length)) (cu i.s.size ++ (i.s.data.toList ++ r)) = r := by
      simp only [txtRem]; rw [List.drop_left, List.drop_left' hsz]
    rw [e1, e2]
    exact ⟨rfl, by simp⟩
  by_cases h7 : i.kind = 7
  · simp only [agS, agV, itB, if_neg h0, if_neg h1, if_neg h2, if_neg h3, if_neg h4, if_neg h5, if_neg h6, if_pos h7]
    have hsz : i.s.data.toList.length = i.s.size := by simp
    have c : true = true ∧ (0 : Int) ≤ (i.s.size : Int) ∧ (i.s.size : Int) ≤ ((i.s.data.toList ++ r).length : Nat) := ⟨rfl, by omega, by rw [List.length_append, hsz]; omega⟩
    have e1 : tk true (i.s.data.toList ++ r) i.s.size = i.s.data.toList := by rw [tk, if_pos c, Int.toNat_natCast, List.take_left' hsz]
    have e2 : tkRem true (i.s.data.toList ++ r) i.s.size = r := by rw [tkRem, if_pos c, Int.toNat_natCast, List.drop_left' hsz]
    have e3 : tkOk true (i.s.data.toList ++ r) i.s.size = true := by rw [tkOk, decide_eq_true c.2]; rfl
    rw [e1, e2, e3]
    exact ⟨rfl, by simp⟩
  · simp only [agS, agV, itB, if_neg h0, if_neg h1, if_neg h2, if_neg h3, if_neg h4, if_neg h5, if_neg h6, if_neg h7]
    exact ⟨rfl, trivial⟩

set_option maxHeartbeats 4000000 in
theorem CodeBack (h : Base) (v : Value) (l : List It) (hv : SL h 4 v (l.map cI)) (hw : ∀ i ∈ l, wfI i) (hl : l.length ≤ 9223372036854775807) :
    Tr Try.prog 6 [v] h [] (fun u h' H' => u = .bool true ∧ H' = []) := by
  refine K.enter Try.func6 rfl (Nat.le_of_ble_eq_true rfl) (fun F => ?_)
  have hlen : (l.map cI).length = l.length := List.length_map ..
  (repeat' (first | (apply K.s_pure; (first | (apply Y.mv; exact X.mv) | (apply Y.sg; exact X.sg) | (apply Y.pk; exact X.pk) | (apply Y.ld; exact X.ld) | (apply Y.ia; exact X.ia) | (apply Y.len; exact X.len) | (apply Y.nt; exact X.nt) | (apply Y.badd; exact X.badd) | (apply Y.beql; exact X.beql) | (apply Y.bneq; exact X.bneq) | (apply Y.blss; exact X.blss)); exact rfl) | refine X.l ?_ | refine X.w ?_ | refine X.a ?_ | (refine K.c_condD rfl (fun hc => ?_) (fun hc => ?_) <;> first | (exfalso; omega) | skip) | refine K.c_cond rfl (fun hc => ?_) (fun hc => ?_) | (refine K.s_guardD rfl rfl (fun hc => ?_) (fun hc => ?_) <;> first | (exfalso; omega) | skip) | refine K.s_guard rfl rfl (fun hc => ?_) (fun hc => ?_)))
  refine K.l_callV (Fx.cal rfl) rfl (long h v l hv hl) (K.pp [] rfl) rfl rfl ?_
  cases hlong : longB l with
  | true =>
    (repeat' (first | (apply K.s_pure; (first | (apply Y.mv; exact X.mv) | (apply Y.sg; exact X.sg) | (apply Y.pk; exact X.pk) | (apply Y.ld; exact X.ld) | (apply Y.ia; exact X.ia) | (apply Y.len; exact X.len) | (apply Y.nt; exact X.nt) | (apply Y.badd; exact X.badd) | (apply Y.beql; exact X.beql) | (apply Y.bneq; exact X.bneq) | (apply Y.blss; exact X.blss)); exact rfl) | refine X.l ?_ | refine X.w ?_ | refine X.a ?_ | (refine K.c_condD rfl (fun hc => ?_) (fun hc => ?_) <;> first | (exfalso; omega) | skip) | refine K.c_cond rfl (fun hc => ?_) (fun hc => ?_) | (refine K.s_guardD rfl rfl (fun hc => ?_) (fun hc => ?_) <;> first | (exfalso; omega) | skip) | refine K.s_guard rfl rfl (fun hc => ?_) (fun hc => ?_)))
    refine K.l_call (Fx.cal rfl) rfl (alive h) (K.pp [] rfl) rfl ?_
    rintro v h' H' hle ⟨rfl, rfl⟩
    (repeat' (first | (apply K.s_pure; (first | (apply Y.mv; exact X.mv) | (apply Y.sg; exact X.sg) | (apply Y.pk; exact X.pk) | (apply Y.ld; exact X.ld) | (apply Y.ia; exact X.ia) | (apply Y.len; exact X.len) | (apply Y.nt; exact X.nt) | (apply Y.badd; exact X.badd) | (apply Y.beql; exact X.beql) | (apply Y.bneq; exact X.bneq) | (apply Y.blss; exact X.blss)); exact rfl) | refine X.l ?_ | refine X.w ?_ | refine X.a ?_ | (refine K.c_condD rfl (fun hc => ?_) (fun hc => ?_) <;> first | (exfalso; omega) | skip) | refine K.c_cond rfl (fun hc => ?_) (fun hc => ?_) | (refine K.s_guardD rfl rfl (fun hc => ?_) (fun hc => ?_) <;> first | (exfalso; omega) | skip) | refine K.s_guard rfl rfl (fun hc => ?_) (fun hc => ?_)))
    refine K.done (by first | exact Or.inl rfl | exact Or.inr rfl) rfl (by first | exact K.Base.le.refl _ | assumption) (H' := []) rfl ⟨rfl, rfl⟩
  | false =>
    obtain ⟨hl300, hsum⟩ := longB_no hlong
    have hsz : ∀ i ∈ l, i.s.size ≤ 1048576 := fun i hi => sumL_mem hi hsum
    have hall : (allB l).length ≤ 1051586 := by
      have h1 := allB_len l hsz
      omega
    (repeat' (first | (apply K.s_pure; (first | (apply Y.mv; exact X.mv) | (apply Y.sg; exact X.sg) | (apply Y.pk; exact X.pk) | (apply Y.ld; exact X.ld) | (apply Y.ia; exact X.ia) | (apply Y.len; exact X.len) | (apply Y.nt; exact X.nt) | (apply Y.badd; exact X.badd) | (apply Y.beql; exact X.beql) | (apply Y.bneq; exact X.bneq) | (apply Y.blss; exact X.blss)); exact rfl) | refine X.l ?_ | refine X.w ?_ | refine X.a ?_ | (refine K.c_condD rfl (fun hc => ?_) (fun hc => ?_) <;> first | (exfalso; omega) | skip) | refine K.c_cond rfl (fun hc => ?_) (fun hc => ?_) | (refine K.s_guardD rfl rfl (fun hc => ?_) (fun hc => ?_) <;> first | (exfalso; omega) | skip) | refine K.s_guard rfl rfl (fun hc => ?_) (fun hc => ?_)))
    refine K.l_call (Fx.cal rfl) rfl (Ca.NewWriter h) (K.pp [] rfl) rfl ?_
    rintro u h' H' - ⟨rfl, p, rfl, rfl⟩
    (repeat' (first | (apply K.s_pure; (first | (apply Y.mv; exact X.mv) | (apply Y.sg; exact X.sg) | (apply Y.pk; exact X.pk) | (apply Y.ld; exact X.ld) | (apply Y.ia; exact X.ia) | (apply Y.len; exact X.len) | (apply Y.nt; exact X.nt) | (apply Y.badd; exact X.badd) | (apply Y.beql; exact X.beql) | (apply Y.bneq; exact X.bneq) | (apply Y.blss; exact X.blss)); exact rfl) | refine X.l ?_ | refine X.w ?_ | refine X.a ?_ | (refine K.c_condD rfl (fun hc => ?_) (fun hc => ?_) <;> first | (exfalso; omega) | skip) | refine K.c_cond rfl (fun hc => ?_) (fun hc => ?_) | (refine K.s_guardD rfl rfl (fun hc => ?_) (fun hc => ?_) <;> first | (exfalso; omega) | skip) | refine K.s_guard rfl rfl (fun hc => ?_) (fun hc => ?_)))
    refine K.c_loop (σ := Nat × Ca.WSt) (fun r => [(0, v), (3, Ca.wv r.2), (4, .int .i64 r.1)]) (fun _ => h) (fun r => Ca.wA r.2 :: F)
      (fun r => r.1 ≤ l.length ∧ mk r.2 ∧ Ca.wb r.2 = allB (l.take r.1)) (fun r => l.length - r.1) (0, _) ⟨Nat.zero_le _, (show mk (some (p, some (none, 0, []))) from trivial), rfl⟩ (by repeat (first | exact K.Sub.nil _ | refine K.Sub.cons rfl ?_)) rfl rfl ?_
    rintro ⟨j, s⟩ ⟨hj, hmk, hwb⟩ KL hKL
    dsimp only at hj hmk hwb ⊢
    have hab : (allB (l.take j)).length ≤ 1051586 := by
      have h1 := allB_len (l.take j) fun i hi => hsz i (List.mem_of_mem_take hi)
      have h2 := sumL_take_le l j
      rw [List.length_take] at h1
      omega
    (repeat' (first | (apply K.s_pure; (first | (apply Y.mv; exact X.mv) | (apply Y.sg; exact X.sg) | (apply Y.pk; exact X.pk) | (apply Y.ld; exact X.ld) | (apply Y.ia; exact X.ia) | (apply Y.len; exact X.len) | (apply Y.nt; exact X.nt) | (apply Y.badd; exact X.badd) | (apply Y.beql; exact X.beql) | (apply Y.bneq; exact X.bneq) | (apply Y.blss; exact X.blss)); exact rfl) | refine X.l ?_ | refine X.w ?_ | refine X.a ?_ | (refine K.c_condD rfl (fun hc => ?_) (fun hc => ?_) <;> first | (exfalso; omega) | skip) | refine K.c_cond rfl (fun hc => ?_) (fun hc => ?_) | (refine K.s_guardD rfl rfl (fun hc => ?_) (fun hc => ?_) <;> first | (exfalso; omega) | skip) | refine K.s_guard rfl rfl (fun hc => ?_) (fun hc => ?_)))
    refine K.s_pure (K.p_lenL hv (Fx.und rfl) rfl) rfl ?_
    rw [hlen]
    (repeat' (first | (apply K.s_pure; (first | (apply Y.mv; exact X.mv) | (apply Y.sg; exact X.sg) | (apply Y.pk; exact X.pk) | (apply Y.ld; exact X.ld) | (apply Y.ia; exact X.ia) | (apply Y.len; exact X.len) | (apply Y.nt; exact X.nt) | (apply Y.badd; exact X.badd) | (apply Y.beql; exact X.beql) | (apply Y.bneq; exact X.bneq) | (apply Y.blss; exact X.blss)); exact rfl) | refine X.l ?_ | refine X.w ?_ | refine X.a ?_ | (refine K.c_condD rfl (fun hc => ?_) (fun hc => ?_) <;> first | (exfalso; omega) | skip) | refine K.c_cond rfl (fun hc => ?_) (fun hc => ?_) | (refine K.s_guardD rfl rfl (fun hc => ?_) (fun hc => ?_) <;> first | (exfalso; omega) | skip) | refine K.s_guard rfl rfl (fun hc => ?_) (fun hc => ?_)))
    · have hjl : j < l.length := by omega
      have hc0 : (l.map cI)[((j : Nat) : Int).toNat]? = some (cI (l[j]'hjl)) := by rw [Int.toNat_natCast, List.getElem?_map, List.getElem?_eq_getElem hjl]; rfl
      have htk : allB (l.take (j + 1)) = allB (l.take j) ++ itB (l[j]'hjl) := by
        rw [List.take_succ_eq_append_getElem hjl]; unfold allB; rw [List.flatMap_append]; simp only [List.flatMap_cons, List.flatMap_nil, List.append_nil]
      have hwi : wfI (l[j]'hjl) := hw _ (List.getElem_mem hjl)
      have hsi : (l[j]'hjl).s.size ≤ 1048576 := hsz _ (List.getElem_mem hjl)
      generalize l[j]'hjl = it at hc0 htk hwi hsi
      refine K.s_pureE (K.p_indexL hv (Fx.und rfl) (Fx.sz rfl) rfl rfl (by omega) hc0) rfl ?_
      rintro v2 ⟨b, o, rfl, hcel⟩
      have hcel' := Cels.up (K := Ca.wA s :: F) hcel
      (repeat' (first | (apply K.s_pure; (first | (apply Y.mv; exact X.mv) | (apply Y.sg; exact X.sg) | (apply Y.pk; exact X.pk) | (apply Y.ld; exact X.ld) | (apply Y.ia; exact X.ia) | (apply Y.len; exact X.len) | (apply Y.nt; exact X.nt) | (apply Y.badd; exact X.badd) | (apply Y.beql; exact X.beql) | (apply Y.bneq; exact X.bneq) | (apply Y.blss; exact X.blss)); exact rfl) | refine X.l ?_ | refine X.w ?_ | refine X.a ?_ | (refine K.c_condD rfl (fun hc => ?_) (fun hc => ?_) <;> first | (exfalso; omega) | skip) | refine K.c_cond rfl (fun hc => ?_) (fun hc => ?_) | (refine K.s_guardD rfl rfl (fun hc => ?_) (fun hc => ?_) <;> first | (exfalso; omega) | skip) | refine K.s_guard rfl rfl (fun hc => ?_) (fun hc => ?_)))
      refine K.l_call (Fx.cal rfl) rfl (write h s it hwi hsi (by rw [hwb]; omega)) (K.pp [0] rfl) rfl ?_
      rintro u h' H' - ⟨rfl, a1, cap1, s1, rfl, hs1, rfl⟩
      obtain ⟨hmk1, hwb1⟩ := mk_add hmk hs1
      rw [hwb, ← htk] at hwb1
      rw [← Ca.wadd_val hs1]
      (repeat' (first | (apply K.s_pure; (first | (apply Y.mv; exact X.mv) | (apply Y.sg; exact X.sg) | (apply Y.pk; exact X.pk) | (apply Y.ld; exact X.ld) | (apply Y.ia; exact X.ia) | (apply Y.len; exact X.len) | (apply Y.nt; exact X.nt) | (apply Y.badd; exact X.badd) | (apply Y.beql; exact X.beql) | (apply Y.bneq; exact X.bneq) | (apply Y.blss; exact X.blss)); exact rfl) | refine X.l ?_ | refine X.w ?_ | refine X.a ?_ | (refine K.c_condD rfl (fun hc => ?_) (fun hc => ?_) <;> first | (exfalso; omega) | skip) | refine K.c_cond rfl (fun hc => ?_) (fun hc => ?_) | (refine K.s_guardD rfl rfl (fun hc => ?_) (fun hc => ?_) <;> first | (exfalso; omega) | skip) | refine K.s_guard rfl rfl (fun hc => ?_) (fun hc => ?_)))
      refine K.AT.sel [1] rfl ?_
      refine K.a_round hKL (j + 1, s1) ⟨by omega, hmk1, hwb1⟩ (by repeat (first | exact K.Sub.nil _ | refine K.Sub.cons rfl ?_)) rfl rfl (by dsimp only; omega)
    · obtain rfl : j = l.length := by omega
      rw [List.take_length] at hab hwb
      refine K.l_call (Fx.cal rfl) rfl (Ca.W_Bytes h s (by rw [hwb]; unfold Ca.big; omega)) (K.pp [0] rfl) rfl ?_
      rintro u h' H' - ⟨rfl, a2, cap2, rfl, rfl⟩
      rw [hwb]
      (repeat' (first | (apply K.s_pure; (first | (apply Y.mv; exact X.mv) | (apply Y.sg; exact X.sg) | (apply Y.pk; exact X.pk) | (apply Y.ld; exact X.ld) | (apply Y.ia; exact X.ia) | (apply Y.len; exact X.len) | (apply Y.nt; exact X.nt) | (apply Y.badd; exact X.badd) | (apply Y.beql; exact X.beql) | (apply Y.bneq; exact X.bneq) | (apply Y.blss; exact X.blss)); exact rfl) | refine X.l ?_ | refine X.w ?_ | refine X.a ?_ | (refine K.c_condD rfl (fun hc => ?_) (fun hc => ?_) <;> first | (exfalso; omega) | skip) | refine K.c_cond rfl (fun hc => ?_) (fun hc => ?_) | (refine K.s_guardD rfl rfl (fun hc => ?_) (fun hc => ?_) <;> first | (exfalso; omega) | skip) | refine K.s_guard rfl rfl (fun hc => ?_) (fun hc => ?_)))
      refine K.l_call (Fx.cal rfl) rfl (Cc.NewReader h _ (allB l) [bufA 5 1 a2 (allB l).length cap2 ((allB l).map u8)] (K.src_buf 0 rfl (by simp [K.u8_one]) (by simp)) (by unfold Cc.big; omega)) (K.pp [0] rfl) rfl ?_
      rintro u h1 H' le1 ⟨p1, sv1, rfl, hr1, rfl⟩
      (repeat' (first | (apply K.s_pure; (first | (apply Y.mv; exact X.mv) | (apply Y.sg; exact X.sg) | (apply Y.pk; exact X.pk) | (apply Y.ld; exact X.ld) | (apply Y.ia; exact X.ia) | (apply Y.len; exact X.len) | (apply Y.nt; exact X.nt) | (apply Y.badd; exact X.badd) | (apply Y.beql; exact X.beql) | (apply Y.bneq; exact X.bneq) | (apply Y.blss; exact X.blss)); exact rfl) | refine X.l ?_ | refine X.w ?_ | refine X.a ?_ | (refine K.c_condD rfl (fun hc => ?_) (fun hc => ?_) <;> first | (exfalso; omega) | skip) | refine K.c_cond rfl (fun hc => ?_) (fun hc => ?_) | (refine K.s_guardD rfl rfl (fun hc => ?_) (fun hc => ?_) <;> first | (exfalso; omega) | skip) | refine K.s_guard rfl rfl (fun hc => ?_) (fun hc => ?_)))
      simp only [List.set_cons_zero, List.set_cons_succ, List.eraseIdx_cons_zero, List.eraseIdx_cons_succ, List.cons_append, List.nil_append]
      refine K.WC.sel [1, 1] rfl ?_
      have hi2 := hv.le le1
      refine K.c_loop (σ := Nat × Option RS) (fun r => [(0, v), (5, .pointer (some ⟨p1, 0, none⟩)), (6, .int .i64 r.1)]) (fun _ => h1) (fun r => rA r.2 :: F)
        (fun r => r.1 ≤ l.length ∧ same (some ⟨p1, true, sv1, false⟩) r.2 ∧ Rd h1 r.2 true (allB (l.drop r.1))) (fun r => l.length - r.1) (0, some ⟨p1, true, sv1, false⟩) ⟨Nat.zero_le _, same_refl _, hr1⟩ (by repeat (first | exact K.Sub.nil _ | refine K.Sub.cons rfl ?_)) rfl rfl ?_
      rintro ⟨k, s2⟩ ⟨hk, hsm, hrd⟩ KM hKM
      dsimp only at hk hsm hrd ⊢
      have hrv : rv s2 = .pointer (some ⟨p1, 0, none⟩) := same_val hsm
      (repeat' (first | (apply K.s_pure; (first | (apply Y.mv; exact X.mv) | (apply Y.sg; exact X.sg) | (apply Y.pk; exact X.pk) | (apply Y.ld; exact X.ld) | (apply Y.ia; exact X.ia) | (apply Y.len; exact X.len) | (apply Y.nt; exact X.nt) | (apply Y.badd; exact X.badd) | (apply Y.beql; exact X.beql) | (apply Y.bneq; exact X.bneq) | (apply Y.blss; exact X.blss)); exact rfl) | refine X.l ?_ | refine X.w ?_ | refine X.a ?_ | (refine K.c_condD rfl (fun hc => ?_) (fun hc => ?_) <;> first | (exfalso; omega) | skip) | refine K.c_cond rfl (fun hc => ?_) (fun hc => ?_) | (refine K.s_guardD rfl rfl (fun hc => ?_) (fun hc => ?_) <;> first | (exfalso; omega) | skip) | refine K.s_guard rfl rfl (fun hc => ?_) (fun hc => ?_)))
      refine K.s_pure (K.p_lenL hi2 (Fx.und rfl) rfl) rfl ?_
      rw [hlen]
      (repeat' (first | (apply K.s_pure; (first | (apply Y.mv; exact X.mv) | (apply Y.sg; exact X.sg) | (apply Y.pk; exact X.pk) | (apply Y.ld; exact X.ld) | (apply Y.ia; exact X.ia) | (apply Y.len; exact X.len) | (apply Y.nt; exact X.nt) | (apply Y.badd; exact X.badd) | (apply Y.beql; exact X.beql) | (apply Y.bneq; exact X.bneq) | (apply Y.blss; exact X.blss)); exact rfl) | refine X.l ?_ | refine X.w ?_ | refine X.a ?_ | (refine K.c_condD rfl (fun hc => ?_) (fun hc => ?_) <;> first | (exfalso; omega) | skip) | refine K.c_cond rfl (fun hc => ?_) (fun hc => ?_) | (refine K.s_guardD rfl rfl (fun hc => ?_) (fun hc => ?_) <;> first | (exfalso; omega) | skip) | refine K.s_guard rfl rfl (fun hc => ?_) (fun hc => ?_)))
      · have hkl : k < l.length := by omega
        have hc0 : (l.map cI)[((k : Nat) : Int).toNat]? = some (cI (l[k]'hkl)) := by rw [Int.toNat_natCast, List.getElem?_map, List.getElem?_eq_getElem hkl]; rfl
        have hdr : allB (l.drop k) = itB (l[k]'hkl) ++ allB (l.drop (k + 1)) := by
          rw [List.drop_eq_getElem_cons hkl]; unfold allB; rw [List.flatMap_cons]
        have hwi : wfI (l[k]'hkl) := hw _ (List.getElem_mem hkl)
        have hdl : (allB (l.drop k)).length ≤ Cc.big := by
          have e : allB l = allB (l.take k) ++ allB (l.drop k) := by unfold allB; rw [← List.flatMap_append, List.take_append_drop]
          have e2 := congrArg List.length e
          rw [List.length_append] at e2
          unfold Cc.big
          omega
        rw [hdr] at hrd hdl
        generalize l[k]'hkl = it at hc0 hdr hwi hrd hdl
        obtain ⟨es, eb⟩ := again_back it hwi (allB (l.drop (k + 1)))
        refine K.s_pureE (K.p_indexL hi2 (Fx.und rfl) (Fx.sz rfl) rfl rfl (by omega) hc0) rfl ?_
        rintro v2 ⟨b, o, rfl, hcel⟩
        have hcel' := Cels.up (K := rA s2 :: F) hcel
        (repeat' (first | (apply K.s_pure; (first | (apply Y.mv; exact X.mv) | (apply Y.sg; exact X.sg) | (apply Y.pk; exact X.pk) | (apply Y.ld; exact X.ld) | (apply Y.ia; exact X.ia) | (apply Y.len; exact X.len) | (apply Y.nt; exact X.nt) | (apply Y.badd; exact X.badd) | (apply Y.beql; exact X.beql) | (apply Y.bneq; exact X.bneq) | (apply Y.blss; exact X.blss)); exact rfl) | refine X.l ?_ | refine X.w ?_ | refine X.a ?_ | (refine K.c_condD rfl (fun hc => ?_) (fun hc => ?_) <;> first | (exfalso; omega) | skip) | refine K.c_cond rfl (fun hc => ?_) (fun hc => ?_) | (refine K.s_guardD rfl rfl (fun hc => ?_) (fun hc => ?_) <;> first | (exfalso; omega) | skip) | refine K.s_guard rfl rfl (fun hc => ?_) (fun hc => ?_)))
        refine K.l_call (vals := [rv s2, .agg (cI it).toArray]) (Fx.cal rfl) (by rw [hrv]; rfl) (again h1 s2 true _ it hwi hrd hdl) (K.pp [0] rfl) rfl ?_
        rintro u h' H' - ⟨rfl, rfl, s3, hs3, hr3, rfl⟩
        rw [es] at hr3
        rw [eb]
        dsimp only at hr3
        have hsm3 := same_trans hsm hs3
        have hrv3 : rv s3 = .pointer (some ⟨p1, 0, none⟩) := same_val hsm3
        (repeat' (first | (apply K.s_pure; (first | (apply Y.mv; exact X.mv) | (apply Y.sg; exact X.sg) | (apply Y.pk; exact X.pk) | (apply Y.ld; exact X.ld) | (apply Y.ia; exact X.ia) | (apply Y.len; exact X.len) | (apply Y.nt; exact X.nt) | (apply Y.badd; exact X.badd) | (apply Y.beql; exact X.beql) | (apply Y.bneq; exact X.bneq) | (apply Y.blss; exact X.blss)); exact rfl) | refine X.l ?_ | refine X.w ?_ | refine X.a ?_ | (refine K.c_condD rfl (fun hc => ?_) (fun hc => ?_) <;> first | (exfalso; omega) | skip) | refine K.c_cond rfl (fun hc => ?_) (fun hc => ?_) | (refine K.s_guardD rfl rfl (fun hc => ?_) (fun hc => ?_) <;> first | (exfalso; omega) | skip) | refine K.s_guard rfl rfl (fun hc => ?_) (fun hc => ?_)))
        refine K.l_callV (vals := [rv s3]) (Fx.cal rfl) (by rw [hrv3]; rfl) (R_Err h1 s3 true _ hr3) (K.pp [0] rfl) rfl rfl ?_
        (repeat' (first | (apply K.s_pure; (first | (apply Y.mv; exact X.mv) | (apply Y.sg; exact X.sg) | (apply Y.pk; exact X.pk) | (apply Y.ld; exact X.ld) | (apply Y.ia; exact X.ia) | (apply Y.len; exact X.len) | (apply Y.nt; exact X.nt) | (apply Y.badd; exact X.badd) | (apply Y.beql; exact X.beql) | (apply Y.bneq; exact X.bneq) | (apply Y.blss; exact X.blss)); exact rfl) | refine X.l ?_ | refine X.w ?_ | refine X.a ?_ | (refine K.c_condD rfl (fun hc => ?_) (fun hc => ?_) <;> first | (exfalso; omega) | skip) | refine K.c_cond rfl (fun hc => ?_) (fun hc => ?_) | (refine K.s_guardD rfl rfl (fun hc => ?_) (fun hc => ?_) <;> first | (exfalso; omega) | skip) | refine K.s_guard rfl rfl (fun hc => ?_) (fun hc => ?_)))
        refine K.a_round hKM (k + 1, s3) ⟨by dsimp only; omega, hsm3, hr3⟩ (by repeat (first | exact K.Sub.nil _ | refine K.Sub.cons rfl ?_)) rfl rfl (by dsimp only; omega)
      · obtain rfl : k = l.length := by omega
        rw [List.drop_length] at hrd
        have hrd : Rd h1 s2 true [] := hrd
        refine K.l_callV (vals := [rv s2]) (Fx.cal rfl) (by rw [hrv]; rfl) (R_Left h1 s2 true [] hrd) (K.pp [0] rfl) rfl rfl ?_
        (repeat' (first | (apply K.s_pure; (first | (apply Y.mv; exact X.mv) | (apply Y.sg; exact X.sg) | (apply Y.pk; exact X.pk) | (apply Y.ld; exact X.ld) | (apply Y.ia; exact X.ia) | (apply Y.len; exact X.len) | (apply Y.nt; exact X.nt) | (apply Y.badd; exact X.badd) | (apply Y.beql; exact X.beql) | (apply Y.bneq; exact X.bneq) | (apply Y.blss; exact X.blss)); exact rfl) | refine X.l ?_ | refine X.w ?_ | refine X.a ?_ | (refine K.c_condD rfl (fun hc => ?_) (fun hc => ?_) <;> first | (exfalso; omega) | skip) | refine K.c_cond rfl (fun hc => ?_) (fun hc => ?_) | (refine K.s_guardD rfl rfl (fun hc => ?_) (fun hc => ?_) <;> first | (exfalso; omega) | skip) | refine K.s_guard rfl rfl (fun hc => ?_) (fun hc => ?_)))
        refine K.l_call (vals := [rv s2]) (Fx.cal rfl) (by rw [hrv]; rfl) (R_End h1 s2 true [] hrd (by unfold Cc.big; simp)) (K.pp [0] rfl) rfl ?_
        rintro u h' H' - ⟨rfl, rfl, s4, hs4, hr4, rfl⟩
        (repeat' (first | (apply K.s_pure; (first | (apply Y.mv; exact X.mv) | (apply Y.sg; exact X.sg) | (apply Y.pk; exact X.pk) | (apply Y.ld; exact X.ld) | (apply Y.ia; exact X.ia) | (apply Y.len; exact X.len) | (apply Y.nt; exact X.nt) | (apply Y.badd; exact X.badd) | (apply Y.beql; exact X.beql) | (apply Y.bneq; exact X.bneq) | (apply Y.blss; exact X.blss)); exact rfl) | refine X.l ?_ | refine X.w ?_ | refine X.a ?_ | (refine K.c_condD rfl (fun hc => ?_) (fun hc => ?_) <;> first | (exfalso; omega) | skip) | refine K.c_cond rfl (fun hc => ?_) (fun hc => ?_) | (refine K.s_guardD rfl rfl (fun hc => ?_) (fun hc => ?_) <;> first | (exfalso; omega) | skip) | refine K.s_guard rfl rfl (fun hc => ?_) (fun hc => ?_)))
        refine K.l_call (Fx.cal rfl) rfl (alive h1) (K.pp [] rfl) rfl ?_
        rintro u h' H' hle ⟨rfl, rfl⟩
        (repeat' (first | (apply K.s_pure; (first | (apply Y.mv; exact X.mv) | (apply Y.sg; exact X.sg) | (apply Y.pk; exact X.pk) | (apply Y.ld; exact X.ld) | (apply Y.ia; exact X.ia) | (apply Y.len; exact X.len) | (apply Y.nt; exact X.nt) | (apply Y.badd; exact X.badd) | (apply Y.beql; exact X.beql) | (apply Y.bneq; exact X.bneq) | (apply Y.blss; exact X.blss)); exact rfl) | refine X.l ?_ | refine X.w ?_ | refine X.a ?_ | (refine K.c_condD rfl (fun hc => ?_) (fun hc => ?_) <;> first | (exfalso; omega) | skip) | refine K.c_cond rfl (fun hc => ?_) (fun hc => ?_) | (refine K.s_guardD rfl rfl (fun hc => ?_) (fun hc => ?_) <;> first | (exfalso; omega) | skip) | refine K.s_guard rfl rfl (fun hc => ?_) (fun hc => ?_)))
        refine K.AT.sel [0] rfl ?_
        refine K.done (by first | exact Or.inl rfl | exact Or.inr rfl) rfl (le1.trans hle) (H' := []) rfl ⟨rfl, rfl⟩
end Go.Proofs.Ytgglpkboijjoiaa.La
