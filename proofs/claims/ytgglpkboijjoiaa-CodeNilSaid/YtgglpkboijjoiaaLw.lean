/-
  The walk of CodeWrites. Conditions: each theorem's own.
-/
import Derived.Test.YtgglpkboijjoiaaLb

namespace Go.Proofs.Ytgglpkboijjoiaa.La
open Go Go.K Go.Proofs Go.Proofs.Ytgglpkboijjoiaa
set_option linter.unusedVariables false
set_option linter.unusedSimpArgs false
set_option maxRecDepth 10000

def allB (l : List It) : List UInt8 := l.flatMap itB
theorem itB_len (i : It) : (itB i).length ≤ i.s.size + 10 := by
  have h1 := cu_len i.x
  have h2 := cu_len (zig (IntKind.i64.wrap i.x))
  have h3 := cu_len i.s.size
  have h4 : i.s.data.toList.length = i.s.size := by simp
  unfold itB
  split
  · rw [lebs_length]; omega
  split
  · rw [lebs_length]; omega
  split
  · rw [lebs_length]; omega
  split
  · rw [lebs_length]; omega
  split
  · omega
  split
  · omega
  split
  · rw [List.length_append]; omega
  split
  · omega
  · simp
theorem allB_len : ∀ l : List It, (∀ i ∈ l, i.s.size ≤ 1048576) → (allB l).length ≤ l.length * 10 + sumL l
  | [], _ => by simp [allB, sumL]
  | i :: r, h => by
    have h1 := allB_len r fun x hx => h x (List.mem_cons_of_mem _ hx)
    have h2 := itB_len i
    have h3 := h i (List.mem_cons_self ..)
    unfold allB at h1 ⊢
    rw [List.flatMap_cons, List.length_append, sumL, List.length_cons]
    omega
theorem sumL_take_le : ∀ (l : List It) (j : Nat), sumL (l.take j) ≤ sumL l
  | [], j => by simp [sumL]
  | i :: r, 0 => by simp [sumL]
  | i :: r, j + 1 => by have := sumL_take_le r j; rw [List.take_succ_cons, sumL, sumL]; omega

/-- Noughts are written over a row of bytes. -/
theorem set_len {bs : List UInt8} {j : Nat} {c : UInt8} : (bs.set j c).length = bs.length := List.length_set ..

set_option maxHeartbeats 4000000 in
theorem CodeWrites (h : Base) (v : Value) (l : List It) (hv : SL h 4 v (l.map cI)) (hw : ∀ i ∈ l, wfI i) (hl : l.length ≤ 9223372036854775807) :
    Tr Try.prog 3 [v] h [] (fun u h' H' => u = .bool true ∧ H' = []) := by
  refine K.enter Try.func3 rfl (Nat.le_of_ble_eq_true rfl) (fun F => ?_)
  have hlen : (l.map cI).length = l.length := List.length_map ..
  (repeat' (first | (apply K.s_pure; (first | (apply Y.mv; exact X.mv) | (apply Y.sg; exact X.sg) | (apply Y.pk; exact X.pk) | (apply Y.cv; exact X.cv) | (apply Y.ld; exact X.ld) | (apply Y.ia; exact X.ia) | (apply Y.len; exact X.len) | (apply Y.badd; exact X.badd) | (apply Y.beql; exact X.beql) | (apply Y.bneq; exact X.bneq) | (apply Y.blss; exact X.blss)); exact rfl) | refine X.l ?_ | refine X.w ?_ | refine X.a ?_ | (refine K.c_condD rfl (fun hc => ?_) (fun hc => ?_) <;> first | (exfalso; omega) | skip) | refine K.c_cond rfl (fun hc => ?_) (fun hc => ?_) | (refine K.s_guardD rfl rfl (fun hc => ?_) (fun hc => ?_) <;> first | (exfalso; omega) | skip) | refine K.s_guard rfl rfl (fun hc => ?_) (fun hc => ?_)))
  refine K.l_callV (Fx.cal rfl) rfl (long h v l hv hl) (K.pp [] rfl) rfl rfl ?_
  cases hlong : longB l with
  | true =>
    (repeat' (first | (apply K.s_pure; (first | (apply Y.mv; exact X.mv) | (apply Y.sg; exact X.sg) | (apply Y.pk; exact X.pk) | (apply Y.cv; exact X.cv) | (apply Y.ld; exact X.ld) | (apply Y.ia; exact X.ia) | (apply Y.len; exact X.len) | (apply Y.badd; exact X.badd) | (apply Y.beql; exact X.beql) | (apply Y.bneq; exact X.bneq) | (apply Y.blss; exact X.blss)); exact rfl) | refine X.l ?_ | refine X.w ?_ | refine X.a ?_ | (refine K.c_condD rfl (fun hc => ?_) (fun hc => ?_) <;> first | (exfalso; omega) | skip) | refine K.c_cond rfl (fun hc => ?_) (fun hc => ?_) | (refine K.s_guardD rfl rfl (fun hc => ?_) (fun hc => ?_) <;> first | (exfalso; omega) | skip) | refine K.s_guard rfl rfl (fun hc => ?_) (fun hc => ?_)))
    refine K.l_call (Fx.cal rfl) rfl (alive h) (K.pp [] rfl) rfl ?_
    rintro v h' H' hle ⟨rfl, rfl⟩
    (repeat' (first | (apply K.s_pure; (first | (apply Y.mv; exact X.mv) | (apply Y.sg; exact X.sg) | (apply Y.pk; exact X.pk) | (apply Y.cv; exact X.cv) | (apply Y.ld; exact X.ld) | (apply Y.ia; exact X.ia) | (apply Y.len; exact X.len) | (apply Y.badd; exact X.badd) | (apply Y.beql; exact X.beql) | (apply Y.bneq; exact X.bneq) | (apply Y.blss; exact X.blss)); exact rfl) | refine X.l ?_ | refine X.w ?_ | refine X.a ?_ | (refine K.c_condD rfl (fun hc => ?_) (fun hc => ?_) <;> first | (exfalso; omega) | skip) | refine K.c_cond rfl (fun hc => ?_) (fun hc => ?_) | (refine K.s_guardD rfl rfl (fun hc => ?_) (fun hc => ?_) <;> first | (exfalso; omega) | skip) | refine K.s_guard rfl rfl (fun hc => ?_) (fun hc => ?_)))
    refine K.done (by first | exact Or.inl rfl | exact Or.inr rfl) rfl (by first | exact K.Base.le.refl _ | assumption) (H' := []) rfl ⟨rfl, rfl⟩
  | false =>
    obtain ⟨hl300, hsum⟩ := longB_no hlong
    have hsz : ∀ i ∈ l, i.s.size ≤ 1048576 := fun i hi => sumL_mem hi hsum
    (repeat' (first | (apply K.s_pure; (first | (apply Y.mv; exact X.mv) | (apply Y.sg; exact X.sg) | (apply Y.pk; exact X.pk) | (apply Y.cv; exact X.cv) | (apply Y.ld; exact X.ld) | (apply Y.ia; exact X.ia) | (apply Y.len; exact X.len) | (apply Y.badd; exact X.badd) | (apply Y.beql; exact X.beql) | (apply Y.bneq; exact X.bneq) | (apply Y.blss; exact X.blss)); exact rfl) | refine X.l ?_ | refine X.w ?_ | refine X.a ?_ | (refine K.c_condD rfl (fun hc => ?_) (fun hc => ?_) <;> first | (exfalso; omega) | skip) | refine K.c_cond rfl (fun hc => ?_) (fun hc => ?_) | (refine K.s_guardD rfl rfl (fun hc => ?_) (fun hc => ?_) <;> first | (exfalso; omega) | skip) | refine K.s_guard rfl rfl (fun hc => ?_) (fun hc => ?_)))
    refine K.l_call (Fx.cal rfl) rfl (Ca.NewWriter h) (K.pp [] rfl) rfl ?_
    rintro u h' H' - ⟨rfl, p, rfl, rfl⟩
    (repeat' (first | (apply K.s_pure; (first | (apply Y.mv; exact X.mv) | (apply Y.sg; exact X.sg) | (apply Y.pk; exact X.pk) | (apply Y.cv; exact X.cv) | (apply Y.ld; exact X.ld) | (apply Y.ia; exact X.ia) | (apply Y.len; exact X.len) | (apply Y.badd; exact X.badd) | (apply Y.beql; exact X.beql) | (apply Y.bneq; exact X.bneq) | (apply Y.blss; exact X.blss)); exact rfl) | refine X.l ?_ | refine X.w ?_ | refine X.a ?_ | (refine K.c_condD rfl (fun hc => ?_) (fun hc => ?_) <;> first | (exfalso; omega) | skip) | refine K.c_cond rfl (fun hc => ?_) (fun hc => ?_) | (refine K.s_guardD rfl rfl (fun hc => ?_) (fun hc => ?_) <;> first | (exfalso; omega) | skip) | refine K.s_guard rfl rfl (fun hc => ?_) (fun hc => ?_)))
    refine K.WC.nilBuf 5 1 ?_
    refine K.c_loop (σ := Nat × Ca.WSt × Option Nat × Nat) (fun r => [(0, v), (3, Ca.wv r.2.1), (4, bufV r.2.2.1 (allB (l.take r.1)).length r.2.2.2), (5, .int .i64 r.1)]) (fun _ => h)
      (fun r => bufA 5 1 r.2.2.1 (allB (l.take r.1)).length r.2.2.2 ((allB (l.take r.1)).map u8) :: Ca.wA r.2.1 :: F)
      (fun r => r.1 ≤ l.length ∧ mk r.2.1 ∧ Ca.wb r.2.1 = allB (l.take r.1)) (fun r => l.length - r.1) (0, _, none, 0) ⟨Nat.zero_le _, (show mk (some (p, some (none, 0, []))) from trivial), rfl⟩ (by repeat (first | exact K.Sub.nil _ | refine K.Sub.cons rfl ?_)) rfl rfl ?_
    rintro ⟨j, s, a, cap⟩ ⟨hj, hmk, hwb⟩ KL hKL
    dsimp only at hj hmk hwb ⊢
    have hab : (allB (l.take j)).length ≤ 1051586 := by
      have h1 := allB_len (l.take j) fun i hi => hsz i (List.mem_of_mem_take hi)
      have h2 := sumL_take_le l j
      rw [List.length_take] at h1
      omega
    (repeat' (first | (apply K.s_pure; (first | (apply Y.mv; exact X.mv) | (apply Y.sg; exact X.sg) | (apply Y.pk; exact X.pk) | (apply Y.cv; exact X.cv) | (apply Y.ld; exact X.ld) | (apply Y.ia; exact X.ia) | (apply Y.len; exact X.len) | (apply Y.badd; exact X.badd) | (apply Y.beql; exact X.beql) | (apply Y.bneq; exact X.bneq) | (apply Y.blss; exact X.blss)); exact rfl) | refine X.l ?_ | refine X.w ?_ | refine X.a ?_ | (refine K.c_condD rfl (fun hc => ?_) (fun hc => ?_) <;> first | (exfalso; omega) | skip) | refine K.c_cond rfl (fun hc => ?_) (fun hc => ?_) | (refine K.s_guardD rfl rfl (fun hc => ?_) (fun hc => ?_) <;> first | (exfalso; omega) | skip) | refine K.s_guard rfl rfl (fun hc => ?_) (fun hc => ?_)))
    refine K.s_pure (K.p_lenL hv (Fx.und rfl) rfl) rfl ?_
    rw [hlen]
    (repeat' (first | (apply K.s_pure; (first | (apply Y.mv; exact X.mv) | (apply Y.sg; exact X.sg) | (apply Y.pk; exact X.pk) | (apply Y.cv; exact X.cv) | (apply Y.ld; exact X.ld) | (apply Y.ia; exact X.ia) | (apply Y.len; exact X.len) | (apply Y.badd; exact X.badd) | (apply Y.beql; exact X.beql) | (apply Y.bneq; exact X.bneq) | (apply Y.blss; exact X.blss)); exact rfl) | refine X.l ?_ | refine X.w ?_ | refine X.a ?_ | (refine K.c_condD rfl (fun hc => ?_) (fun hc => ?_) <;> first | (exfalso; omega) | skip) | refine K.c_cond rfl (fun hc => ?_) (fun hc => ?_) | (refine K.s_guardD rfl rfl (fun hc => ?_) (fun hc => ?_) <;> first | (exfalso; omega) | skip) | refine K.s_guard rfl rfl (fun hc => ?_) (fun hc => ?_)))
    · have hjl : j < l.length := by omega
      have hc0 : (l.map cI)[((j : Nat) : Int).toNat]? = some (cI (l[j]'hjl)) := by rw [Int.toNat_natCast, List.getElem?_map, List.getElem?_eq_getElem hjl]; rfl
      have htk : allB (l.take (j + 1)) = allB (l.take j) ++ itB (l[j]'hjl) := by
        rw [List.take_succ_eq_append_getElem hjl]; unfold allB; rw [List.flatMap_append]; simp only [List.flatMap_cons, List.flatMap_nil, List.append_nil]
      have hwi : wfI (l[j]'hjl) := hw _ (List.getElem_mem hjl)
      have hsi : (l[j]'hjl).s.size ≤ 1048576 := hsz _ (List.getElem_mem hjl)
      generalize l[j]'hjl = it at hc0 htk hwi hsi
      have hib := itB_len it
      refine K.s_pureE (K.p_indexL hv (Fx.und rfl) (Fx.sz rfl) rfl rfl (by omega) hc0) rfl ?_
      rintro v2 ⟨b, o, rfl, hcel⟩
      have hcel' := Cels.up (K := bufA 5 1 a (allB (l.take j)).length cap ((allB (l.take j)).map u8) :: Ca.wA s :: F) hcel
      (repeat' (first | (apply K.s_pure; (first | (apply Y.mv; exact X.mv) | (apply Y.sg; exact X.sg) | (apply Y.pk; exact X.pk) | (apply Y.cv; exact X.cv) | (apply Y.ld; exact X.ld) | (apply Y.ia; exact X.ia) | (apply Y.len; exact X.len) | (apply Y.badd; exact X.badd) | (apply Y.beql; exact X.beql) | (apply Y.bneq; exact X.bneq) | (apply Y.blss; exact X.blss)); exact rfl) | refine X.l ?_ | refine X.w ?_ | refine X.a ?_ | (refine K.c_condD rfl (fun hc => ?_) (fun hc => ?_) <;> first | (exfalso; omega) | skip) | refine K.c_cond rfl (fun hc => ?_) (fun hc => ?_) | (refine K.s_guardD rfl rfl (fun hc => ?_) (fun hc => ?_) <;> first | (exfalso; omega) | skip) | refine K.s_guard rfl rfl (fun hc => ?_) (fun hc => ?_)))
      refine K.l_call (Fx.cal rfl) rfl (write h s it hwi hsi (by rw [hwb]; omega)) (K.pp [1] rfl) rfl ?_
      rintro u h' H' - ⟨rfl, a1, cap1, s1, rfl, hs1, rfl⟩
      obtain ⟨hmk1, hwb1⟩ := mk_add hmk hs1
      rw [hwb] at hwb1
      rw [← Ca.wadd_val hs1]
      (repeat' (first | (apply K.s_pure; (first | (apply Y.mv; exact X.mv) | (apply Y.sg; exact X.sg) | (apply Y.pk; exact X.pk) | (apply Y.cv; exact X.cv) | (apply Y.ld; exact X.ld) | (apply Y.ia; exact X.ia) | (apply Y.len; exact X.len) | (apply Y.badd; exact X.badd) | (apply Y.beql; exact X.beql) | (apply Y.bneq; exact X.bneq) | (apply Y.blss; exact X.blss)); exact rfl) | refine X.l ?_ | refine X.w ?_ | refine X.a ?_ | (refine K.c_condD rfl (fun hc => ?_) (fun hc => ?_) <;> first | (exfalso; omega) | skip) | refine K.c_cond rfl (fun hc => ?_) (fun hc => ?_) | (refine K.s_guardD rfl rfl (fun hc => ?_) (fun hc => ?_) <;> first | (exfalso; omega) | skip) | refine K.s_guard rfl rfl (fun hc => ?_) (fun hc => ?_)))
      refine K.l_append_at 2 rfl (Fx.und rfl) (Fx.und rfl) rfl (Fx.sz rfl) (Fx.zr rfl) rfl (Fx.byt rfl) rfl rfl (K.src_buf 1 rfl (by simp [K.u8_one]) (by simp)) (by omega) (by omega) rfl (fun a' cap' => ?_)
      simp only [List.set_cons_zero, List.set_cons_succ, List.eraseIdx_cons_zero, List.eraseIdx_cons_succ, List.cons_append, List.nil_append]
      rw [← List.map_append, ← List.length_append]
      (repeat' (first | (apply K.s_pure; (first | (apply Y.mv; exact X.mv) | (apply Y.sg; exact X.sg) | (apply Y.pk; exact X.pk) | (apply Y.cv; exact X.cv) | (apply Y.ld; exact X.ld) | (apply Y.ia; exact X.ia) | (apply Y.len; exact X.len) | (apply Y.badd; exact X.badd) | (apply Y.beql; exact X.beql) | (apply Y.bneq; exact X.bneq) | (apply Y.blss; exact X.blss)); exact rfl) | refine X.l ?_ | refine X.w ?_ | refine X.a ?_ | (refine K.c_condD rfl (fun hc => ?_) (fun hc => ?_) <;> first | (exfalso; omega) | skip) | refine K.c_cond rfl (fun hc => ?_) (fun hc => ?_) | (refine K.s_guardD rfl rfl (fun hc => ?_) (fun hc => ?_) <;> first | (exfalso; omega) | skip) | refine K.s_guard rfl rfl (fun hc => ?_) (fun hc => ?_)))
      refine K.l_call (Fx.cal rfl) rfl (Ca.W_Bytes h s1 (by rw [hwb1, List.length_append]; unfold Ca.big; omega)) (K.pp [0] rfl) rfl ?_
      rintro u h' H' - ⟨rfl, a2, cap2, rfl, rfl⟩
      rw [hwb1]
      (repeat' (first | (apply K.s_pure; (first | (apply Y.mv; exact X.mv) | (apply Y.sg; exact X.sg) | (apply Y.pk; exact X.pk) | (apply Y.cv; exact X.cv) | (apply Y.ld; exact X.ld) | (apply Y.ia; exact X.ia) | (apply Y.len; exact X.len) | (apply Y.badd; exact X.badd) | (apply Y.beql; exact X.beql) | (apply Y.bneq; exact X.bneq) | (apply Y.blss; exact X.blss)); exact rfl) | refine X.l ?_ | refine X.w ?_ | refine X.a ?_ | (refine K.c_condD rfl (fun hc => ?_) (fun hc => ?_) <;> first | (exfalso; omega) | skip) | refine K.c_cond rfl (fun hc => ?_) (fun hc => ?_) | (refine K.s_guardD rfl rfl (fun hc => ?_) (fun hc => ?_) <;> first | (exfalso; omega) | skip) | refine K.s_guard rfl rfl (fun hc => ?_) (fun hc => ?_)))
      · exact absurd rfl hc
      refine K.l_call (Fx.cal rfl) rfl (Ca.W_Len h s1) (K.pp [1] rfl) rfl ?_
      rintro u h' H' - ⟨rfl, rfl, rfl⟩
      rw [hwb1]
      (repeat' (first | (apply K.s_pure; (first | (apply Y.mv; exact X.mv) | (apply Y.sg; exact X.sg) | (apply Y.pk; exact X.pk) | (apply Y.cv; exact X.cv) | (apply Y.ld; exact X.ld) | (apply Y.ia; exact X.ia) | (apply Y.len; exact X.len) | (apply Y.badd; exact X.badd) | (apply Y.beql; exact X.beql) | (apply Y.bneq; exact X.bneq) | (apply Y.blss; exact X.blss)); exact rfl) | refine X.l ?_ | refine X.w ?_ | refine X.a ?_ | (refine K.c_condD rfl (fun hc => ?_) (fun hc => ?_) <;> first | (exfalso; omega) | skip) | refine K.c_cond rfl (fun hc => ?_) (fun hc => ?_) | (refine K.s_guardD rfl rfl (fun hc => ?_) (fun hc => ?_) <;> first | (exfalso; omega) | skip) | refine K.s_guard rfl rfl (fun hc => ?_) (fun hc => ?_)))
      rw [← htk] at hwb1 ⊢
      have hmb : (allB (l.take (j + 1))).length ≤ 4000000 := by rw [htk, List.length_append]; omega
      generalize hm : (allB (l.take (j + 1))).length = m at hmb
      refine K.WC.perm (List.Perm.swap ..) ?_
      refine K.c_loop (σ := Nat × List UInt8) (fun r => [(0, v), (3, Ca.wv s1), (4, bufV a' m cap'), (5, .int .i64 j), (7, bufV a2 m cap2), (8, .int .i64 r.1)]) (fun _ => h)
        (fun r => bufA 5 1 a2 m cap2 (r.2.map u8) :: Ca.wA s1 :: bufA 5 1 a1 (itB it).length cap1 ((itB it).map u8) :: bufA 5 1 a' m cap' ((allB (l.take (j + 1))).map u8) :: F)
        (fun r => r.1 ≤ m ∧ r.2.length = m) (fun r => m - r.1) (0, allB (l.take (j + 1))) ⟨Nat.zero_le _, hm⟩ (by repeat (first | exact K.Sub.nil _ | refine K.Sub.cons rfl ?_)) rfl rfl ?_
      rintro ⟨k, bs⟩ ⟨hk, hbs⟩ KM hKM
      dsimp only at hk hbs ⊢
      by_cases hkm : k < m
      · refine K.oc_buf (fun _ e _ _ => by omega) ?_
        rintro bb sp fz rfl g2 g3 g4 g5 g6
        (repeat' (first | (apply K.s_pure; (first | (apply Y.mv; exact X.mv) | (apply Y.sg; exact X.sg) | (apply Y.pk; exact X.pk) | (apply Y.cv; exact X.cv) | (apply Y.ld; exact X.ld) | (apply Y.ia; exact X.ia) | (apply Y.len; exact X.len) | (apply Y.badd; exact X.badd) | (apply Y.beql; exact X.beql) | (apply Y.bneq; exact X.bneq) | (apply Y.blss; exact X.blss)); exact rfl) | refine X.l ?_ | refine X.w ?_ | refine X.a ?_ | (refine K.c_condD rfl (fun hc => ?_) (fun hc => ?_) <;> first | (exfalso; omega) | skip) | refine K.c_cond rfl (fun hc => ?_) (fun hc => ?_) | (refine K.s_guardD rfl rfl (fun hc => ?_) (fun hc => ?_) <;> first | (exfalso; omega) | skip) | refine K.s_guard rfl rfl (fun hc => ?_) (fun hc => ?_)))
        refine K.l_storeB (c := 0) (Fx.sz rfl) rfl rfl rfl (by omega) (fun o ho => g6 o (by omega)) ?_
        (repeat' (first | (apply K.s_pure; (first | (apply Y.mv; exact X.mv) | (apply Y.sg; exact X.sg) | (apply Y.pk; exact X.pk) | (apply Y.cv; exact X.cv) | (apply Y.ld; exact X.ld) | (apply Y.ia; exact X.ia) | (apply Y.len; exact X.len) | (apply Y.badd; exact X.badd) | (apply Y.beql; exact X.beql) | (apply Y.bneq; exact X.bneq) | (apply Y.blss; exact X.blss)); exact rfl) | refine X.l ?_ | refine X.w ?_ | refine X.a ?_ | (refine K.c_condD rfl (fun hc => ?_) (fun hc => ?_) <;> first | (exfalso; omega) | skip) | refine K.c_cond rfl (fun hc => ?_) (fun hc => ?_) | (refine K.s_guardD rfl rfl (fun hc => ?_) (fun hc => ?_) <;> first | (exfalso; omega) | skip) | refine K.s_guard rfl rfl (fun hc => ?_) (fun hc => ?_)))
        refine K.AT.shut (s := 1) (m := m) (cap := cap2) (by simp [hbs]) (by simpa using g3) g4 g5 g6 ?_
        refine K.a_round hKM (k + 1, bs.set k 0) ⟨by omega, by simp [hbs]⟩ (by repeat (first | exact K.Sub.nil _ | refine K.Sub.cons rfl ?_)) rfl rfl (by dsimp only; omega)
      · (repeat' (first | (apply K.s_pure; (first | (apply Y.mv; exact X.mv) | (apply Y.sg; exact X.sg) | (apply Y.pk; exact X.pk) | (apply Y.cv; exact X.cv) | (apply Y.ld; exact X.ld) | (apply Y.ia; exact X.ia) | (apply Y.len; exact X.len) | (apply Y.badd; exact X.badd) | (apply Y.beql; exact X.beql) | (apply Y.bneq; exact X.bneq) | (apply Y.blss; exact X.blss)); exact rfl) | refine X.l ?_ | refine X.w ?_ | refine X.a ?_ | (refine K.c_condD rfl (fun hc => ?_) (fun hc => ?_) <;> first | (exfalso; omega) | skip) | refine K.c_cond rfl (fun hc => ?_) (fun hc => ?_) | (refine K.s_guardD rfl rfl (fun hc => ?_) (fun hc => ?_) <;> first | (exfalso; omega) | skip) | refine K.s_guard rfl rfl (fun hc => ?_) (fun hc => ?_)))
        refine K.AT.sel [0, 1] rfl (K.AT.perm (List.Perm.swap ..) ?_)
        subst hm
        refine K.a_round hKL (j + 1, s1, a', cap') ⟨by omega, hmk1, hwb1⟩ (by repeat (first | exact K.Sub.nil _ | refine K.Sub.cons rfl ?_)) rfl rfl (by dsimp only; omega)
    · obtain rfl : j = l.length := by omega
      rw [List.take_length] at hab hwb ⊢
      refine X.draw ([bufA 5 1 a (allB l).length cap ((allB l).map u8)]) [] [(0, .pu), (3, .pu), (4, .st), (1, .on), (2, .on), (5, .pu), (6, .pu), (7, .on), (8, .pu), (9, .pu)] ?_
      refine K.d_pu rfl (fun _ _ => X.mv) rfl ?_
      refine K.d_pu rfl (fun _ _ => X.mv) rfl ?_
      refine K.d_st rfl X.cv rfl ?_
      refine K.d_on rfl (fun KK hKK => ?_)
      refine K.l_call (Fx.cal rfl) rfl (Ca.W_Bytes h s (by rw [hwb]; unfold Ca.big; omega)) (K.pp [1] rfl) rfl ?_
      rintro u h' H' - ⟨rfl, a2, cap2, rfl, rfl⟩
      rw [hwb]
      refine K.l_nil ?_
      refine X.onE hKK ?_
      refine K.d_on rfl (fun KK hKK => ?_)
      refine K.s_pure X.cv rfl ?_
      refine K.l_nil ?_
      refine X.onE hKK ?_
      refine K.d_pu rfl (fun _ _ => X.beql) rfl ?_
      refine K.d_pu rfl (fun _ _ => X.mv) rfl ?_
      refine K.d_on rfl (fun KK hKK => ?_)
      simp only [decide_true]
      refine K.s_take rfl rfl ?_
      refine K.l_call (Fx.cal rfl) rfl (alive h) (K.pp [] rfl) rfl ?_
      rintro u h' H' hle ⟨rfl, rfl⟩
      refine K.l_nil ?_
      refine X.onE hKK ?_
      refine K.d_pu rfl (fun _ _ => X.pk) rfl ?_
      refine K.d_pu rfl (fun _ _ => X.sg) rfl ?_
      refine K.d_nil ?_
      (repeat' (first | (apply K.s_pure; (first | (apply Y.mv; exact X.mv) | (apply Y.sg; exact X.sg) | (apply Y.pk; exact X.pk) | (apply Y.cv; exact X.cv) | (apply Y.ld; exact X.ld) | (apply Y.ia; exact X.ia) | (apply Y.len; exact X.len) | (apply Y.badd; exact X.badd) | (apply Y.beql; exact X.beql) | (apply Y.bneq; exact X.bneq) | (apply Y.blss; exact X.blss)); exact rfl) | refine X.l ?_ | refine X.w ?_ | refine X.a ?_ | (refine K.c_condD rfl (fun hc => ?_) (fun hc => ?_) <;> first | (exfalso; omega) | skip) | refine K.c_cond rfl (fun hc => ?_) (fun hc => ?_) | (refine K.s_guardD rfl rfl (fun hc => ?_) (fun hc => ?_) <;> first | (exfalso; omega) | skip) | refine K.s_guard rfl rfl (fun hc => ?_) (fun hc => ?_)))
      refine K.AT.sel [0, 0, 0] rfl ?_
      refine K.done (by first | exact Or.inl rfl | exact Or.inr rfl) rfl (by first | exact K.Base.le.refl _ | assumption) (H' := []) rfl ⟨rfl, rfl⟩
end Go.Proofs.Ytgglpkboijjoiaa.La
