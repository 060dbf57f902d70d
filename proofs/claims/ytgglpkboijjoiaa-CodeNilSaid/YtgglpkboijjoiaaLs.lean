/-
  The walk of layer 2's statement CodeReads. Conditions: each theorem's own.
-/
import Derived.Test.YtgglpkboijjoiaaLr

namespace Go.Proofs.Ytgglpkboijjoiaa.La
open Go Go.K Go.Proofs Go.Proofs.Ytgglpkboijjoiaa Go.Proofs.Ytgglpkboijjoiaa.Cc Go.Proofs.Ytgglpkboijjoiaa.Rb
set_option linter.unusedVariables false
set_option linter.unusedSimpArgs false
set_option maxRecDepth 10000

theorem getRem_len (ok : Bool) (m : Nat) (rem : List UInt8) : (getRem ok m rem).length ≤ rem.length := by
  unfold getRem
  split
  · rw [List.length_drop]; omega
  · omega
theorem uRem_len (o : Option (Nat × Nat)) (rem : List UInt8) : (uRem o rem).length ≤ rem.length := by
  unfold uRem
  split
  · rw [List.length_drop]; omega
  · omega
theorem rdS_len (i : It) (ok : Bool) (rem : List UInt8) : (rdS i ok rem).2.length ≤ rem.length := by
  unfold rdS
  split
  · exact getRem_len ..
  split
  · exact getRem_len ..
  split
  · exact getRem_len ..
  split
  · exact getRem_len ..
  split
  · exact uRem_len ..
  split
  · exact uRem_len ..
  split
  · show (txtRem _ rem).length ≤ _
    unfold txtRem
    split
    · rw [List.length_drop, List.length_drop]; omega
    · omega
  split
  · show (tkRem ok rem i.n).length ≤ _
    unfold tkRem
    split
    · rw [List.length_drop]; omega
    · omega
  split
  · exact Nat.le_refl _
  · exact Nat.le_refl _

set_option maxHeartbeats 4000000 in
theorem CodeReads (h : Base) (v : Value) (l : List UInt8) (v2 : Value) (its : List It) (hv : BV h v l) (hl : l.length ≤ 9223372036854775807) (hi : SL h 4 v2 (its.map cI)) (hw : ∀ i ∈ its, wfI i) (hil : its.length ≤ 9223372036854775807) :
    Tr Try.prog 5 [v, v2] h [] (fun u h' H' => u = .bool true ∧ H' = []) := by
  refine K.enter Try.func5 rfl (Nat.le_of_ble_eq_true rfl) (fun F => ?_)
  have hlen : (its.map cI).length = its.length := List.length_map ..
  obtain ⟨ao, c0, rfl⟩ := hv.len
  (repeat' (first | (apply K.s_pure; (first | (apply Y.mv; exact X.mv) | (apply Y.sg; exact X.sg) | (apply Y.pk; exact X.pk) | (apply Y.nc; exact X.nc) | (apply Y.fa; exact X.fa) | (apply Y.ld; exact X.ld) | (apply Y.ia; exact X.ia) | (apply Y.bd; exact X.bd) | (apply Y.len; exact X.len) | (apply Y.nt; exact X.nt) | (apply Y.badd; exact X.badd) | (apply Y.beql; exact X.beql) | (apply Y.bneq; exact X.bneq) | (apply Y.blss; exact X.blss) | (apply Y.bgtr; exact X.bgtr)); exact rfl) | refine X.l ?_ | refine X.w ?_ | refine X.a ?_ | (refine K.c_condD rfl (fun hc => ?_) (fun hc => ?_) <;> first | (exfalso; omega) | skip) | refine K.c_cond rfl (fun hc => ?_) (fun hc => ?_) | (refine K.s_guardD rfl rfl (fun hc => ?_) (fun hc => ?_) <;> first | (exfalso; omega) | skip) | refine K.s_guard rfl rfl (fun hc => ?_) (fun hc => ?_)))
  refine K.l_callV (Fx.cal rfl) rfl (long h v2 its hi hil) (K.pp [] rfl) rfl rfl ?_
  cases hlong : longB its with
  | true =>
    (repeat' (first | (apply K.s_pure; (first | (apply Y.mv; exact X.mv) | (apply Y.sg; exact X.sg) | (apply Y.pk; exact X.pk) | (apply Y.nc; exact X.nc) | (apply Y.fa; exact X.fa) | (apply Y.ld; exact X.ld) | (apply Y.ia; exact X.ia) | (apply Y.bd; exact X.bd) | (apply Y.len; exact X.len) | (apply Y.nt; exact X.nt) | (apply Y.badd; exact X.badd) | (apply Y.beql; exact X.beql) | (apply Y.bneq; exact X.bneq) | (apply Y.blss; exact X.blss) | (apply Y.bgtr; exact X.bgtr)); exact rfl) | refine X.l ?_ | refine X.w ?_ | refine X.a ?_ | (refine K.c_condD rfl (fun hc => ?_) (fun hc => ?_) <;> first | (exfalso; omega) | skip) | refine K.c_cond rfl (fun hc => ?_) (fun hc => ?_) | (refine K.s_guardD rfl rfl (fun hc => ?_) (fun hc => ?_) <;> first | (exfalso; omega) | skip) | refine K.s_guard rfl rfl (fun hc => ?_) (fun hc => ?_)))
    refine K.l_call (Fx.cal rfl) rfl (alive h) (K.pp [] rfl) rfl ?_
    rintro u h' H' hle ⟨rfl, rfl⟩
    (repeat' (first | (apply K.s_pure; (first | (apply Y.mv; exact X.mv) | (apply Y.sg; exact X.sg) | (apply Y.pk; exact X.pk) | (apply Y.nc; exact X.nc) | (apply Y.fa; exact X.fa) | (apply Y.ld; exact X.ld) | (apply Y.ia; exact X.ia) | (apply Y.bd; exact X.bd) | (apply Y.len; exact X.len) | (apply Y.nt; exact X.nt) | (apply Y.badd; exact X.badd) | (apply Y.beql; exact X.beql) | (apply Y.bneq; exact X.bneq) | (apply Y.blss; exact X.blss) | (apply Y.bgtr; exact X.bgtr)); exact rfl) | refine X.l ?_ | refine X.w ?_ | refine X.a ?_ | (refine K.c_condD rfl (fun hc => ?_) (fun hc => ?_) <;> first | (exfalso; omega) | skip) | refine K.c_cond rfl (fun hc => ?_) (fun hc => ?_) | (refine K.s_guardD rfl rfl (fun hc => ?_) (fun hc => ?_) <;> first | (exfalso; omega) | skip) | refine K.s_guard rfl rfl (fun hc => ?_) (fun hc => ?_)))
    refine K.done (by first | exact Or.inl rfl | exact Or.inr rfl) rfl (by first | exact K.Base.le.refl _ | assumption) (H' := []) rfl ⟨rfl, rfl⟩
  | false =>
    by_cases hbl : (1048576 : Int) < (l.length : Int)
    · (repeat' (first | (apply K.s_pure; (first | (apply Y.mv; exact X.mv) | (apply Y.sg; exact X.sg) | (apply Y.pk; exact X.pk) | (apply Y.nc; exact X.nc) | (apply Y.fa; exact X.fa) | (apply Y.ld; exact X.ld) | (apply Y.ia; exact X.ia) | (apply Y.bd; exact X.bd) | (apply Y.len; exact X.len) | (apply Y.nt; exact X.nt) | (apply Y.badd; exact X.badd) | (apply Y.beql; exact X.beql) | (apply Y.bneq; exact X.bneq) | (apply Y.blss; exact X.blss) | (apply Y.bgtr; exact X.bgtr)); exact rfl) | refine X.l ?_ | refine X.w ?_ | refine X.a ?_ | (refine K.c_condD rfl (fun hc => ?_) (fun hc => ?_) <;> first | (exfalso; omega) | skip) | refine K.c_cond rfl (fun hc => ?_) (fun hc => ?_) | (refine K.s_guardD rfl rfl (fun hc => ?_) (fun hc => ?_) <;> first | (exfalso; omega) | skip) | refine K.s_guard rfl rfl (fun hc => ?_) (fun hc => ?_)))
      refine K.l_call (Fx.cal rfl) rfl (alive h) (K.pp [] rfl) rfl ?_
      rintro u h' H' hle ⟨rfl, rfl⟩
      (repeat' (first | (apply K.s_pure; (first | (apply Y.mv; exact X.mv) | (apply Y.sg; exact X.sg) | (apply Y.pk; exact X.pk) | (apply Y.nc; exact X.nc) | (apply Y.fa; exact X.fa) | (apply Y.ld; exact X.ld) | (apply Y.ia; exact X.ia) | (apply Y.bd; exact X.bd) | (apply Y.len; exact X.len) | (apply Y.nt; exact X.nt) | (apply Y.badd; exact X.badd) | (apply Y.beql; exact X.beql) | (apply Y.bneq; exact X.bneq) | (apply Y.blss; exact X.blss) | (apply Y.bgtr; exact X.bgtr)); exact rfl) | refine X.l ?_ | refine X.w ?_ | refine X.a ?_ | (refine K.c_condD rfl (fun hc => ?_) (fun hc => ?_) <;> first | (exfalso; omega) | skip) | refine K.c_cond rfl (fun hc => ?_) (fun hc => ?_) | (refine K.s_guardD rfl rfl (fun hc => ?_) (fun hc => ?_) <;> first | (exfalso; omega) | skip) | refine K.s_guard rfl rfl (fun hc => ?_) (fun hc => ?_)))
      refine K.done (by first | exact Or.inl rfl | exact Or.inr rfl) rfl (by first | exact K.Base.le.refl _ | assumption) (H' := []) rfl ⟨rfl, rfl⟩
    · have hbig : l.length ≤ Cc.big := by unfold Cc.big; omega
      (repeat' (first | (apply K.s_pure; (first | (apply Y.mv; exact X.mv) | (apply Y.sg; exact X.sg) | (apply Y.pk; exact X.pk) | (apply Y.nc; exact X.nc) | (apply Y.fa; exact X.fa) | (apply Y.ld; exact X.ld) | (apply Y.ia; exact X.ia) | (apply Y.bd; exact X.bd) | (apply Y.len; exact X.len) | (apply Y.nt; exact X.nt) | (apply Y.badd; exact X.badd) | (apply Y.beql; exact X.beql) | (apply Y.bneq; exact X.bneq) | (apply Y.blss; exact X.blss) | (apply Y.bgtr; exact X.bgtr)); exact rfl) | refine X.l ?_ | refine X.w ?_ | refine X.a ?_ | (refine K.c_condD rfl (fun hc => ?_) (fun hc => ?_) <;> first | (exfalso; omega) | skip) | refine K.c_cond rfl (fun hc => ?_) (fun hc => ?_) | (refine K.s_guardD rfl rfl (fun hc => ?_) (fun hc => ?_) <;> first | (exfalso; omega) | skip) | refine K.s_guard rfl rfl (fun hc => ?_) (fun hc => ?_)))
      refine K.l_buildSlice (Fx.und rfl) (Fx.sz rfl) rfl (Fx.zr rfl) rfl rfl rfl rfl rfl (fun B => ?_)
      refine K.WL.bufOf (m := 0) (s := 1) rfl (by unfold maxLen; omega) ?_
      (repeat' (first | (apply K.s_pure; (first | (apply Y.mv; exact X.mv) | (apply Y.sg; exact X.sg) | (apply Y.pk; exact X.pk) | (apply Y.nc; exact X.nc) | (apply Y.fa; exact X.fa) | (apply Y.ld; exact X.ld) | (apply Y.ia; exact X.ia) | (apply Y.bd; exact X.bd) | (apply Y.len; exact X.len) | (apply Y.nt; exact X.nt) | (apply Y.badd; exact X.badd) | (apply Y.beql; exact X.beql) | (apply Y.bneq; exact X.bneq) | (apply Y.blss; exact X.blss) | (apply Y.bgtr; exact X.bgtr)); exact rfl) | refine X.l ?_ | refine X.w ?_ | refine X.a ?_ | (refine K.c_condD rfl (fun hc => ?_) (fun hc => ?_) <;> first | (exfalso; omega) | skip) | refine K.c_cond rfl (fun hc => ?_) (fun hc => ?_) | (refine K.s_guardD rfl rfl (fun hc => ?_) (fun hc => ?_) <;> first | (exfalso; omega) | skip) | refine K.s_guard rfl rfl (fun hc => ?_) (fun hc => ?_)))
      refine K.l_append_at 0 rfl (Fx.und rfl) (Fx.und rfl) rfl (Fx.sz rfl) (Fx.zr rfl) rfl (Fx.byt rfl) rfl rfl hv.src (by omega) (by omega) rfl (fun a1 cap1 => ?_)
      simp only [List.set_cons_zero, List.set_cons_succ, List.eraseIdx_cons_zero, List.eraseIdx_cons_succ, List.cons_append, List.nil_append]
      rw [Nat.zero_add]
      (repeat' (first | (apply K.s_pure; (first | (apply Y.mv; exact X.mv) | (apply Y.sg; exact X.sg) | (apply Y.pk; exact X.pk) | (apply Y.nc; exact X.nc) | (apply Y.fa; exact X.fa) | (apply Y.ld; exact X.ld) | (apply Y.ia; exact X.ia) | (apply Y.bd; exact X.bd) | (apply Y.len; exact X.len) | (apply Y.nt; exact X.nt) | (apply Y.badd; exact X.badd) | (apply Y.beql; exact X.beql) | (apply Y.bneq; exact X.bneq) | (apply Y.blss; exact X.blss) | (apply Y.bgtr; exact X.bgtr)); exact rfl) | refine X.l ?_ | refine X.w ?_ | refine X.a ?_ | (refine K.c_condD rfl (fun hc => ?_) (fun hc => ?_) <;> first | (exfalso; omega) | skip) | refine K.c_cond rfl (fun hc => ?_) (fun hc => ?_) | (refine K.s_guardD rfl rfl (fun hc => ?_) (fun hc => ?_) <;> first | (exfalso; omega) | skip) | refine K.s_guard rfl rfl (fun hc => ?_) (fun hc => ?_)))
      refine K.l_call (Fx.cal rfl) rfl (Cc.NewReader h _ l [bufA 5 1 a1 l.length cap1 (l.map u8)] (K.src_buf 0 rfl (by simp [K.u8_one]) (by simp)) hbig) (K.pp [0] rfl) rfl ?_
      rintro u h1 H' le1 ⟨p1, sv1, rfl, hr1, rfl⟩
      (repeat' (first | (apply K.s_pure; (first | (apply Y.mv; exact X.mv) | (apply Y.sg; exact X.sg) | (apply Y.pk; exact X.pk) | (apply Y.nc; exact X.nc) | (apply Y.fa; exact X.fa) | (apply Y.ld; exact X.ld) | (apply Y.ia; exact X.ia) | (apply Y.bd; exact X.bd) | (apply Y.len; exact X.len) | (apply Y.nt; exact X.nt) | (apply Y.badd; exact X.badd) | (apply Y.beql; exact X.beql) | (apply Y.bneq; exact X.bneq) | (apply Y.blss; exact X.blss) | (apply Y.bgtr; exact X.bgtr)); exact rfl) | refine X.l ?_ | refine X.w ?_ | refine X.a ?_ | (refine K.c_condD rfl (fun hc => ?_) (fun hc => ?_) <;> first | (exfalso; omega) | skip) | refine K.c_cond rfl (fun hc => ?_) (fun hc => ?_) | (refine K.s_guardD rfl rfl (fun hc => ?_) (fun hc => ?_) <;> first | (exfalso; omega) | skip) | refine K.s_guard rfl rfl (fun hc => ?_) (fun hc => ?_)))
      refine K.l_buildSlice (Fx.und rfl) (Fx.sz rfl) rfl (Fx.zr rfl) rfl rfl rfl rfl rfl (fun B2 => ?_)
      refine K.WL.bufOf (m := 0) (s := 1) rfl (by unfold maxLen; omega) ?_
      (repeat' (first | (apply K.s_pure; (first | (apply Y.mv; exact X.mv) | (apply Y.sg; exact X.sg) | (apply Y.pk; exact X.pk) | (apply Y.nc; exact X.nc) | (apply Y.fa; exact X.fa) | (apply Y.ld; exact X.ld) | (apply Y.ia; exact X.ia) | (apply Y.bd; exact X.bd) | (apply Y.len; exact X.len) | (apply Y.nt; exact X.nt) | (apply Y.badd; exact X.badd) | (apply Y.beql; exact X.beql) | (apply Y.bneq; exact X.bneq) | (apply Y.blss; exact X.blss) | (apply Y.bgtr; exact X.bgtr)); exact rfl) | refine X.l ?_ | refine X.w ?_ | refine X.a ?_ | (refine K.c_condD rfl (fun hc => ?_) (fun hc => ?_) <;> first | (exfalso; omega) | skip) | refine K.c_cond rfl (fun hc => ?_) (fun hc => ?_) | (refine K.s_guardD rfl rfl (fun hc => ?_) (fun hc => ?_) <;> first | (exfalso; omega) | skip) | refine K.s_guard rfl rfl (fun hc => ?_) (fun hc => ?_)))
      refine K.l_append_at 0 rfl (Fx.und rfl) (Fx.und rfl) rfl (Fx.sz rfl) (Fx.zr rfl) rfl (Fx.byt rfl) rfl rfl (hv.le le1).src (by omega) (by omega) rfl (fun a2 cap2 => ?_)
      simp only [List.set_cons_zero, List.set_cons_succ, List.eraseIdx_cons_zero, List.eraseIdx_cons_succ, List.cons_append, List.nil_append]
      rw [Nat.zero_add]
      (repeat' (first | (apply K.s_pure; (first | (apply Y.mv; exact X.mv) | (apply Y.sg; exact X.sg) | (apply Y.pk; exact X.pk) | (apply Y.nc; exact X.nc) | (apply Y.fa; exact X.fa) | (apply Y.ld; exact X.ld) | (apply Y.ia; exact X.ia) | (apply Y.bd; exact X.bd) | (apply Y.len; exact X.len) | (apply Y.nt; exact X.nt) | (apply Y.badd; exact X.badd) | (apply Y.beql; exact X.beql) | (apply Y.bneq; exact X.bneq) | (apply Y.blss; exact X.blss) | (apply Y.bgtr; exact X.bgtr)); exact rfl) | refine X.l ?_ | refine X.w ?_ | refine X.a ?_ | (refine K.c_condD rfl (fun hc => ?_) (fun hc => ?_) <;> first | (exfalso; omega) | skip) | refine K.c_cond rfl (fun hc => ?_) (fun hc => ?_) | (refine K.s_guardD rfl rfl (fun hc => ?_) (fun hc => ?_) <;> first | (exfalso; omega) | skip) | refine K.s_guard rfl rfl (fun hc => ?_) (fun hc => ?_)))
      refine K.WL.freezeBuf (fun h2 le2 hb2 => ?_)
      refine K.l_box (cs := [bufV a2 l.length cap2, .bool false]) rfl rfl rfl (fun B3 => ?_)
      replace hr1 := hr1.le le2
      have hi2 := (hi.le le1).le le2
      have le3 := le1.trans le2
      (repeat' (first | (apply K.s_pure; (first | (apply Y.mv; exact X.mv) | (apply Y.sg; exact X.sg) | (apply Y.pk; exact X.pk) | (apply Y.nc; exact X.nc) | (apply Y.fa; exact X.fa) | (apply Y.ld; exact X.ld) | (apply Y.ia; exact X.ia) | (apply Y.bd; exact X.bd) | (apply Y.len; exact X.len) | (apply Y.nt; exact X.nt) | (apply Y.badd; exact X.badd) | (apply Y.beql; exact X.beql) | (apply Y.bneq; exact X.bneq) | (apply Y.blss; exact X.blss) | (apply Y.bgtr; exact X.bgtr)); exact rfl) | refine X.l ?_ | refine X.w ?_ | refine X.a ?_ | (refine K.c_condD rfl (fun hc => ?_) (fun hc => ?_) <;> first | (exfalso; omega) | skip) | refine K.c_cond rfl (fun hc => ?_) (fun hc => ?_) | (refine K.s_guardD rfl rfl (fun hc => ?_) (fun hc => ?_) <;> first | (exfalso; omega) | skip) | refine K.s_guard rfl rfl (fun hc => ?_) (fun hc => ?_)))
      refine K.WC.perm (K.pp [2] rfl) ?_
      simp only [List.set_cons_zero, List.set_cons_succ, List.eraseIdx_cons_zero, List.eraseIdx_cons_succ, List.cons_append, List.nil_append]
      have hml : l.length ≤ 1048576 := by omega
      generalize hm : l.length = m at hml
      refine K.c_loop (σ := Nat × List UInt8) (fun r => [(1, v2), (5, bufV a1 m cap1), (6, .pointer (some ⟨p1, 0, none⟩)), (7, .pointer (some ⟨B3, 0, none⟩)), (8, .int .i64 r.1)]) (fun _ => h2)
        (fun r => bufA 5 1 a1 m cap1 (r.2.map u8) :: qA B3 (bufV a2 m cap2) false :: rA (some ⟨p1, true, sv1, false⟩) :: F)
        (fun r => r.1 ≤ m ∧ r.2.length = m) (fun r => m - r.1) (0, l) ⟨Nat.zero_le _, hm⟩ (by repeat (first | exact K.Sub.nil _ | refine K.Sub.cons rfl ?_)) rfl rfl ?_
      rintro ⟨k, bs⟩ ⟨hk, hbs⟩ KM hKM
      dsimp only at hk hbs ⊢
      by_cases hkm : k < m
      · refine K.oc_buf (fun _ e _ _ => by omega) ?_
        rintro bb sp fz rfl g2 g3 g4 g5 g6
        have hc0 : (bs.map u8 ++ sp)[k]? = some (.int .u8 (bs[k]'(by omega)).toNat) := by
          rw [List.getElem?_append_left (by simp; omega), List.getElem?_map, List.getElem?_eq_getElem (by omega)]; rfl
        have hcel := K.cel_own (h := h2) (K := K.blkF bb 5 (bs.map u8 ++ sp) fz :: qA B3 (bufV a2 m cap2) false :: rA (some ⟨p1, true, sv1, false⟩) :: F) 0 rfl hc0
        have hcl : (bs[k]'(by omega)).toNat < 256 := (bs[k]'(by omega)).toNat_lt
        (repeat' (first | (apply K.s_pure; (first | (apply Y.mv; exact X.mv) | (apply Y.sg; exact X.sg) | (apply Y.pk; exact X.pk) | (apply Y.nc; exact X.nc) | (apply Y.fa; exact X.fa) | (apply Y.ld; exact X.ld) | (apply Y.ia; exact X.ia) | (apply Y.bd; exact X.bd) | (apply Y.len; exact X.len) | (apply Y.nt; exact X.nt) | (apply Y.badd; exact X.badd) | (apply Y.beql; exact X.beql) | (apply Y.bneq; exact X.bneq) | (apply Y.blss; exact X.blss) | (apply Y.bgtr; exact X.bgtr)); exact rfl) | refine X.l ?_ | refine X.w ?_ | refine X.a ?_ | (refine K.c_condD rfl (fun hc => ?_) (fun hc => ?_) <;> first | (exfalso; omega) | skip) | refine K.c_cond rfl (fun hc => ?_) (fun hc => ?_) | (refine K.s_guardD rfl rfl (fun hc => ?_) (fun hc => ?_) <;> first | (exfalso; omega) | skip) | refine K.s_guard rfl rfl (fun hc => ?_) (fun hc => ?_)))
        refine K.l_storeB (c := UInt8.ofNat ((bs[k]'(by omega)).toNat + 1)) (Fx.sz rfl) rfl rfl (by rw [K.wu8]; simp) (by omega) (fun o ho => g6 o (by omega)) ?_
        (repeat' (first | (apply K.s_pure; (first | (apply Y.mv; exact X.mv) | (apply Y.sg; exact X.sg) | (apply Y.pk; exact X.pk) | (apply Y.nc; exact X.nc) | (apply Y.fa; exact X.fa) | (apply Y.ld; exact X.ld) | (apply Y.ia; exact X.ia) | (apply Y.bd; exact X.bd) | (apply Y.len; exact X.len) | (apply Y.nt; exact X.nt) | (apply Y.badd; exact X.badd) | (apply Y.beql; exact X.beql) | (apply Y.bneq; exact X.bneq) | (apply Y.blss; exact X.blss) | (apply Y.bgtr; exact X.bgtr)); exact rfl) | refine X.l ?_ | refine X.w ?_ | refine X.a ?_ | (refine K.c_condD rfl (fun hc => ?_) (fun hc => ?_) <;> first | (exfalso; omega) | skip) | refine K.c_cond rfl (fun hc => ?_) (fun hc => ?_) | (refine K.s_guardD rfl rfl (fun hc => ?_) (fun hc => ?_) <;> first | (exfalso; omega) | skip) | refine K.s_guard rfl rfl (fun hc => ?_) (fun hc => ?_)))
        refine K.AT.shut (s := 1) (m := m) (cap := cap1) (by simp [hbs]) (by simpa using g3) g4 g5 g6 ?_
        refine K.a_round hKM (k + 1, bs.set k _) ⟨by omega, by simp [hbs]⟩ (by repeat (first | exact K.Sub.nil _ | refine K.Sub.cons rfl ?_)) rfl rfl (by dsimp only; omega)
      · (repeat' (first | (apply K.s_pure; (first | (apply Y.mv; exact X.mv) | (apply Y.sg; exact X.sg) | (apply Y.pk; exact X.pk) | (apply Y.nc; exact X.nc) | (apply Y.fa; exact X.fa) | (apply Y.ld; exact X.ld) | (apply Y.ia; exact X.ia) | (apply Y.bd; exact X.bd) | (apply Y.len; exact X.len) | (apply Y.nt; exact X.nt) | (apply Y.badd; exact X.badd) | (apply Y.beql; exact X.beql) | (apply Y.bneq; exact X.bneq) | (apply Y.blss; exact X.blss) | (apply Y.bgtr; exact X.bgtr)); exact rfl) | refine X.l ?_ | refine X.w ?_ | refine X.a ?_ | (refine K.c_condD rfl (fun hc => ?_) (fun hc => ?_) <;> first | (exfalso; omega) | skip) | refine K.c_cond rfl (fun hc => ?_) (fun hc => ?_) | (refine K.s_guardD rfl rfl (fun hc => ?_) (fun hc => ?_) <;> first | (exfalso; omega) | skip) | refine K.s_guard rfl rfl (fun hc => ?_) (fun hc => ?_)))
        refine K.WC.sel [0] rfl (K.WC.perm (List.Perm.swap ..) ?_)
        refine K.c_loop (σ := Nat × Option RS × Value × Bool × List UInt8) (fun r => [(1, v2), (6, .pointer (some ⟨p1, 0, none⟩)), (7, .pointer (some ⟨B3, 0, none⟩)), (9, .int .i64 r.1)]) (fun _ => h2)
          (fun r => rA r.2.1 :: qA B3 r.2.2.1 (!r.2.2.2.1) :: F)
          (fun r => r.1 ≤ its.length ∧ same (some ⟨p1, true, sv1, false⟩) r.2.1 ∧ Rd h2 r.2.1 r.2.2.2.1 r.2.2.2.2 ∧ BV h2 r.2.2.1 r.2.2.2.2 ∧ r.2.2.2.2.length ≤ m) (fun r => its.length - r.1)
          (0, some ⟨p1, true, sv1, false⟩, bufV a2 m cap2, true, l) ⟨Nat.zero_le _, same_refl _, hr1, by rw [← hm]; exact hb2, by dsimp only; omega⟩ (by repeat (first | exact K.Sub.nil _ | refine K.Sub.cons rfl ?_)) rfl rfl ?_
        rintro ⟨j, s, sv, ok, rem⟩ ⟨hj, hsm, hrd, hbv, hrl⟩ KL hKL
        dsimp only at hj hsm hrd hbv hrl ⊢
        have hrv : rv s = .pointer (some ⟨p1, 0, none⟩) := same_val hsm
        have hrb : rem.length ≤ Cc.big := by unfold Cc.big; omega
        obtain ⟨ao3, c3, rfl⟩ := hbv.len
        (repeat' (first | (apply K.s_pure; (first | (apply Y.mv; exact X.mv) | (apply Y.sg; exact X.sg) | (apply Y.pk; exact X.pk) | (apply Y.nc; exact X.nc) | (apply Y.fa; exact X.fa) | (apply Y.ld; exact X.ld) | (apply Y.ia; exact X.ia) | (apply Y.bd; exact X.bd) | (apply Y.len; exact X.len) | (apply Y.nt; exact X.nt) | (apply Y.badd; exact X.badd) | (apply Y.beql; exact X.beql) | (apply Y.bneq; exact X.bneq) | (apply Y.blss; exact X.blss) | (apply Y.bgtr; exact X.bgtr)); exact rfl) | refine X.l ?_ | refine X.w ?_ | refine X.a ?_ | (refine K.c_condD rfl (fun hc => ?_) (fun hc => ?_) <;> first | (exfalso; omega) | skip) | refine K.c_cond rfl (fun hc => ?_) (fun hc => ?_) | (refine K.s_guardD rfl rfl (fun hc => ?_) (fun hc => ?_) <;> first | (exfalso; omega) | skip) | refine K.s_guard rfl rfl (fun hc => ?_) (fun hc => ?_)))
        refine K.s_pure (K.p_lenL hi2 (Fx.und rfl) rfl) rfl ?_
        rw [hlen]
        (repeat' (first | (apply K.s_pure; (first | (apply Y.mv; exact X.mv) | (apply Y.sg; exact X.sg) | (apply Y.pk; exact X.pk) | (apply Y.nc; exact X.nc) | (apply Y.fa; exact X.fa) | (apply Y.ld; exact X.ld) | (apply Y.ia; exact X.ia) | (apply Y.bd; exact X.bd) | (apply Y.len; exact X.len) | (apply Y.nt; exact X.nt) | (apply Y.badd; exact X.badd) | (apply Y.beql; exact X.beql) | (apply Y.bneq; exact X.bneq) | (apply Y.blss; exact X.blss) | (apply Y.bgtr; exact X.bgtr)); exact rfl) | refine X.l ?_ | refine X.w ?_ | refine X.a ?_ | (refine K.c_condD rfl (fun hc => ?_) (fun hc => ?_) <;> first | (exfalso; omega) | skip) | refine K.c_cond rfl (fun hc => ?_) (fun hc => ?_) | (refine K.s_guardD rfl rfl (fun hc => ?_) (fun hc => ?_) <;> first | (exfalso; omega) | skip) | refine K.s_guard rfl rfl (fun hc => ?_) (fun hc => ?_)))
        · have hjl : j < its.length := by omega
          have hc0 : (its.map cI)[((j : Nat) : Int).toNat]? = some (cI (its[j]'hjl)) := by rw [Int.toNat_natCast, List.getElem?_map, List.getElem?_eq_getElem hjl]; rfl
          have hwi : wfI (its[j]'hjl) := hw _ (List.getElem_mem hjl)
          generalize its[j]'hjl = it at hc0 hwi
          have hsl := rdS_len it ok rem
          refine X.draw ([]) [] [(0, .pu), (1, .pu), (2, .pu), (3, .pu), (4, .st), (5, .st), (6, .on), (7, .pu), (8, .pu), (9, .pu), (11, .pu), (12, .pu), (13, .pu), (14, .st), (15, .pu), (10, .on), (16, .pu), (17, .pu), (18, .pu), (19, .pu), (21, .pu), (20, .on), (22, .on), (23, .pu), (24, .pu)] ?_
          refine K.d_pu rfl (fun _ _ => X.mv) rfl ?_
          refine K.d_pu rfl (fun _ _ => X.mv) rfl ?_
          refine K.d_pu rfl (fun _ _ => X.mv) rfl ?_
          refine K.d_pu rfl (fun _ _ => X.mv) rfl ?_
          refine K.d_stE rfl (K.p_indexL hi2 (Fx.und rfl) (Fx.sz rfl) rfl rfl (by omega) hc0) rfl ?_
          rintro v2 ⟨b, o, rfl, hcel⟩
          refine K.d_st rfl (K.p_loadM (Fx.agg rfl) rfl (Cels.up hcel) (Fx.sz rfl) rfl) rfl ?_
          refine K.d_on rfl (fun KK hKK => ?_)
          refine K.l_call (vals := [rv s, qv B3, .agg (cI it).toArray]) (Fx.cal rfl) (by rw [hrv]; rfl) (read h2 s B3 _ ok rem it hwi hrd hbv hrb) (K.pp [0, 0] rfl) rfl ?_
          rintro u h' H' - ⟨rfl, rfl, s', sv', hs', hr', hb', rfl⟩
          generalize rdS it ok rem = t at hr' hb' hsl ⊢
          obtain ⟨ok', rem'⟩ := t
          dsimp only at hr' hb' hsl ⊢
          obtain ⟨ao4, c4, rfl⟩ := hb'.len
          have hsm' := same_trans hsm hs'
          have hrv' : rv s' = .pointer (some ⟨p1, 0, none⟩) := same_val hsm'
          refine K.l_nil ?_
          refine X.onS hKK [qA B3 (.slice ao4 rem'.length c4) (!ok')] ?_
          refine K.d_pu rfl (fun _ _ => X.nt) rfl ?_
          refine K.d_pu rfl (fun _ _ => X.mv) rfl ?_
          first | refine K.d_skip rfl rfl rfl rfl ?_ | refine K.d_skipU rfl rfl rfl rfl rfl ?_ | refine K.d_puG rfl rfl rfl (fun _ _ => X.mv) rfl ?_
          first | refine K.d_skip rfl rfl rfl rfl ?_ | refine K.d_skipU rfl rfl rfl rfl rfl ?_ | refine K.d_puG rfl rfl rfl (fun _ _ => X.mv) rfl ?_
          first | refine K.d_skip rfl rfl rfl rfl ?_ | refine K.d_skipU rfl rfl rfl rfl rfl ?_ | refine K.d_puG rfl rfl rfl (fun _ _ => X.nc) rfl ?_
          first | refine K.d_skip rfl rfl rfl rfl ?_ | refine K.d_skipU rfl rfl rfl rfl rfl ?_ | refine K.d_puG rfl rfl rfl (fun _ _ => X.fa) rfl ?_
          first | refine K.d_skipS rfl rfl rfl rfl ?_ | refine K.d_stG rfl rfl rfl X.ld rfl ?_
          first | refine K.d_skip rfl rfl rfl rfl ?_ | refine K.d_skipU rfl rfl rfl rfl rfl ?_ | refine K.d_puG rfl rfl rfl (fun _ _ => X.len) rfl ?_
          refine K.d_on rfl (fun KK hKK => ?_)
          refine K.s_take rfl rfl ?_
          refine K.l_callV (vals := [rv s']) (Fx.cal rfl) (by rw [hrv']; rfl) (Cc.R_Left h2 s' ok' rem' hr') (K.pp [0] rfl) rfl rfl ?_
          refine K.l_nil ?_
          refine X.onE hKK ?_
          first | refine K.d_skip rfl rfl rfl rfl ?_ | refine K.d_skipU rfl rfl rfl rfl rfl ?_ | refine K.d_puG rfl rfl rfl (fun _ _ => X.bneq) rfl ?_
          simp only [ne_eq, not_true_eq_false, decide_false]
          refine K.d_pu rfl (fun _ _ => X.pk) rfl ?_
          refine K.d_pu rfl (fun _ _ => X.mv) rfl ?_
          first | refine K.d_skip rfl rfl rfl rfl ?_ | refine K.d_skipU rfl rfl rfl rfl rfl ?_ | refine K.d_puG rfl rfl rfl (fun _ _ => X.mv) rfl ?_
          first | refine K.d_skip rfl rfl rfl rfl ?_ | refine K.d_skipU rfl rfl rfl rfl rfl ?_ | refine K.d_puG rfl rfl rfl (fun _ _ => X.mv) rfl ?_
          refine K.d_on rfl (fun KK hKK => ?_)
          refine K.s_take rfl rfl ?_
          refine K.l_callV (vals := [rv s']) (Fx.cal rfl) (by rw [hrv']; rfl) (Cc.R_Err h2 s' ok' rem' hr') (K.pp [0] rfl) rfl rfl ?_
          refine K.l_nil ?_
          refine X.onE hKK ?_
          refine K.d_on rfl (fun KK hKK => ?_)
          refine K.s_take rfl rfl ?_
          refine K.l_callV (vals := [qv B3]) (Fx.cal rfl) rfl (Rb.Q_Err h2 B3 _ ok') (K.pp [1] rfl) rfl rfl ?_
          refine K.l_nil ?_
          refine X.onE hKK ?_
          first | refine K.d_skip rfl rfl rfl rfl ?_ | refine K.d_skipU rfl rfl rfl rfl rfl ?_ | refine K.d_puG rfl rfl rfl (fun _ _ => X.bneq) rfl ?_
          simp only [ne_eq, not_true_eq_false, decide_false]
          refine K.d_pu rfl (fun _ _ => X.pk) rfl ?_
          refine K.d_nil ?_
          (repeat' (first | (apply K.s_pure; (first | (apply Y.mv; exact X.mv) | (apply Y.sg; exact X.sg) | (apply Y.pk; exact X.pk) | (apply Y.nc; exact X.nc) | (apply Y.fa; exact X.fa) | (apply Y.ld; exact X.ld) | (apply Y.ia; exact X.ia) | (apply Y.bd; exact X.bd) | (apply Y.len; exact X.len) | (apply Y.nt; exact X.nt) | (apply Y.badd; exact X.badd) | (apply Y.beql; exact X.beql) | (apply Y.bneq; exact X.bneq) | (apply Y.blss; exact X.blss) | (apply Y.bgtr; exact X.bgtr)); exact rfl) | refine X.l ?_ | refine X.w ?_ | refine X.a ?_ | (refine K.c_condD rfl (fun hc => ?_) (fun hc => ?_) <;> first | (exfalso; omega) | skip) | refine K.c_cond rfl (fun hc => ?_) (fun hc => ?_) | (refine K.s_guardD rfl rfl (fun hc => ?_) (fun hc => ?_) <;> first | (exfalso; omega) | skip) | refine K.s_guard rfl rfl (fun hc => ?_) (fun hc => ?_)))
          refine K.AT.perm (List.Perm.swap ..) ?_
          refine K.a_round hKL (j + 1, s', _, ok', rem') ⟨by dsimp only; omega, hsm', hr', hb', by dsimp only; omega⟩ (by repeat (first | exact K.Sub.nil _ | refine K.Sub.cons rfl ?_)) rfl rfl (by dsimp only; omega)
        · obtain rfl : j = its.length := by omega
          refine K.l_call (vals := [rv s]) (Fx.cal rfl) (by rw [hrv]; rfl) (Cc.R_End h2 s ok rem hrd hrb) (K.pp [0] rfl) rfl ?_
          rintro u h' H' - ⟨rfl, rfl, s', hs', hr', rfl⟩
          (repeat' (first | (apply K.s_pure; (first | (apply Y.mv; exact X.mv) | (apply Y.sg; exact X.sg) | (apply Y.pk; exact X.pk) | (apply Y.nc; exact X.nc) | (apply Y.fa; exact X.fa) | (apply Y.ld; exact X.ld) | (apply Y.ia; exact X.ia) | (apply Y.bd; exact X.bd) | (apply Y.len; exact X.len) | (apply Y.nt; exact X.nt) | (apply Y.badd; exact X.badd) | (apply Y.beql; exact X.beql) | (apply Y.bneq; exact X.bneq) | (apply Y.blss; exact X.blss) | (apply Y.bgtr; exact X.bgtr)); exact rfl) | refine X.l ?_ | refine X.w ?_ | refine X.a ?_ | (refine K.c_condD rfl (fun hc => ?_) (fun hc => ?_) <;> first | (exfalso; omega) | skip) | refine K.c_cond rfl (fun hc => ?_) (fun hc => ?_) | (refine K.s_guardD rfl rfl (fun hc => ?_) (fun hc => ?_) <;> first | (exfalso; omega) | skip) | refine K.s_guard rfl rfl (fun hc => ?_) (fun hc => ?_)))
          refine K.l_call (vals := [qv B3]) (Fx.cal rfl) rfl (Rb.Q_End h2 B3 _ ok rem hbv hrb) (K.pp [1] rfl) rfl ?_
          rintro u h' H' - ⟨rfl, rfl, sv', hb', rfl⟩
          (repeat' (first | (apply K.s_pure; (first | (apply Y.mv; exact X.mv) | (apply Y.sg; exact X.sg) | (apply Y.pk; exact X.pk) | (apply Y.nc; exact X.nc) | (apply Y.fa; exact X.fa) | (apply Y.ld; exact X.ld) | (apply Y.ia; exact X.ia) | (apply Y.bd; exact X.bd) | (apply Y.len; exact X.len) | (apply Y.nt; exact X.nt) | (apply Y.badd; exact X.badd) | (apply Y.beql; exact X.beql) | (apply Y.bneq; exact X.bneq) | (apply Y.blss; exact X.blss) | (apply Y.bgtr; exact X.bgtr)); exact rfl) | refine X.l ?_ | refine X.w ?_ | refine X.a ?_ | (refine K.c_condD rfl (fun hc => ?_) (fun hc => ?_) <;> first | (exfalso; omega) | skip) | refine K.c_cond rfl (fun hc => ?_) (fun hc => ?_) | (refine K.s_guardD rfl rfl (fun hc => ?_) (fun hc => ?_) <;> first | (exfalso; omega) | skip) | refine K.s_guard rfl rfl (fun hc => ?_) (fun hc => ?_)))
          · refine K.l_call (Fx.cal rfl) rfl (alive h2) (K.pp [] rfl) rfl ?_
            rintro u h' H' hle ⟨rfl, rfl⟩
            (repeat' (first | (apply K.s_pure; (first | (apply Y.mv; exact X.mv) | (apply Y.sg; exact X.sg) | (apply Y.pk; exact X.pk) | (apply Y.nc; exact X.nc) | (apply Y.fa; exact X.fa) | (apply Y.ld; exact X.ld) | (apply Y.ia; exact X.ia) | (apply Y.bd; exact X.bd) | (apply Y.len; exact X.len) | (apply Y.nt; exact X.nt) | (apply Y.badd; exact X.badd) | (apply Y.beql; exact X.beql) | (apply Y.bneq; exact X.bneq) | (apply Y.blss; exact X.blss) | (apply Y.bgtr; exact X.bgtr)); exact rfl) | refine X.l ?_ | refine X.w ?_ | refine X.a ?_ | (refine K.c_condD rfl (fun hc => ?_) (fun hc => ?_) <;> first | (exfalso; omega) | skip) | refine K.c_cond rfl (fun hc => ?_) (fun hc => ?_) | (refine K.s_guardD rfl rfl (fun hc => ?_) (fun hc => ?_) <;> first | (exfalso; omega) | skip) | refine K.s_guard rfl rfl (fun hc => ?_) (fun hc => ?_)))
            refine K.AT.sel [0, 0] rfl ?_
            refine K.done (by first | exact Or.inl rfl | exact Or.inr rfl) rfl (le3.trans hle) (H' := []) rfl ⟨rfl, rfl⟩
end Go.Proofs.Ytgglpkboijjoiaa.La
