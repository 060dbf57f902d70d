/-
  Rows: the row of a text, the reference's way. Conditions: each theorem's own.
-/
import Derived.Test.YthdiokdaaofebaaDo

namespace Go.Proofs.Ythdiokdaaofebaa.Rw
open Go Go.K Go.Proofs Go.Proofs.Ythdiokdaaofebaa
set_option linter.unusedVariables false
set_option linter.unusedSimpArgs false
set_option maxRecDepth 10000

set_option maxHeartbeats 4000000 in
theorem RefDecode (h : Base) (v : Value) (l : List Col) (t : ByteArray) (hv : SL h 3 v (l.map cC)) (hw : ∀ c ∈ l, wfC c) (hl : l.length ≤ 9223372036854775807) (ht : t.size ≤ 9223372036854775807) :
    Tr Try.prog 20 [v, .string t] h [] (DPost (decP l t.data.toList)) := by
  have hlen : (l.map cC).length = l.length := List.length_map ..
  have htl : t.data.toList.length = t.size := by simp
  obtain ⟨ao, ca, rfl⟩ := hv.len
  rw [hlen] at hv ⊢
  refine K.enter Try.func20 rfl (Nat.le_of_ble_eq_true rfl) (fun F => ?_)
  simp only [List.nil_append]
  (repeat' (first | (apply K.s_pure; (first | (apply Y.mv; exact X.mv) | (apply Y.sg; exact X.sg) | (apply Y.pk; exact X.pk) | (apply Y.ex; exact X.ex) | (apply Y.fa; exact X.fa) | (apply Y.ld; exact X.ld) | (apply Y.ia; exact X.ia) | (apply Y.ix; exact X.ix) | (apply Y.sl; exact X.sl) | (apply Y.bd; exact X.bd) | (apply Y.len; exact X.len) | (apply Y.nt; exact X.nt) | (apply Y.badd; exact X.badd) | (apply Y.bmul; exact X.bmul) | (apply Y.beql; exact X.beql) | (apply Y.bneq; exact X.bneq) | (apply Y.blss; exact X.blss) | (apply Y.bgtr; exact X.bgtr) | (apply Y.bgeq; exact X.bgeq) | (apply Y.bshr; exact X.bshr) | (apply Y.bquo; exact X.bquo) | (apply Y.brem; exact X.brem)); exact rfl) | refine X.l ?_ | refine X.w ?_ | refine X.a ?_ | (refine K.c_condD rfl (fun hc => ?_) (fun hc => ?_) <;> first | (exfalso; omega) | skip) | refine K.c_cond rfl (fun hc => ?_) (fun hc => ?_) | (refine K.s_guardD rfl rfl (fun hc => ?_) (fun hc => ?_) <;> first | (exfalso; omega) | skip) | refine K.s_guard rfl rfl (fun hc => ?_) (fun hc => ?_)))
  refine K.l_callV (Fx.cal rfl) rfl (RefMay h _ l hv hw hl) (K.pp [] rfl) rfl rfl ?_
  simp only [List.nil_append]
  cases hm : mayB l with
  | false =>
    rw [decP, if_pos hm]
    (repeat' (first | (apply K.s_pure; (first | (apply Y.mv; exact X.mv) | (apply Y.sg; exact X.sg) | (apply Y.pk; exact X.pk) | (apply Y.ex; exact X.ex) | (apply Y.fa; exact X.fa) | (apply Y.ld; exact X.ld) | (apply Y.ia; exact X.ia) | (apply Y.ix; exact X.ix) | (apply Y.sl; exact X.sl) | (apply Y.bd; exact X.bd) | (apply Y.len; exact X.len) | (apply Y.nt; exact X.nt) | (apply Y.badd; exact X.badd) | (apply Y.bmul; exact X.bmul) | (apply Y.beql; exact X.beql) | (apply Y.bneq; exact X.bneq) | (apply Y.blss; exact X.blss) | (apply Y.bgtr; exact X.bgtr) | (apply Y.bgeq; exact X.bgeq) | (apply Y.bshr; exact X.bshr) | (apply Y.bquo; exact X.bquo) | (apply Y.brem; exact X.brem)); exact rfl) | refine X.l ?_ | refine X.w ?_ | refine X.a ?_ | (refine K.c_condD rfl (fun hc => ?_) (fun hc => ?_) <;> first | (exfalso; omega) | skip) | refine K.c_cond rfl (fun hc => ?_) (fun hc => ?_) | (refine K.s_guardD rfl rfl (fun hc => ?_) (fun hc => ?_) <;> first | (exfalso; omega) | skip) | refine K.s_guard rfl rfl (fun hc => ?_) (fun hc => ?_)))
    refine K.AT.nilBuf 40 3 ?_
    refine K.done (by first | exact Or.inl rfl | exact Or.inr rfl) rfl (by first | exact K.Base.le.refl _ | assumption) (H' := [_]) rfl ⟨none, 0, rfl, rfl⟩
  | true =>
    obtain ⟨hl1, hl2⟩ := mayB_len16 hm
    have hdec : decP l t.data.toList = if 160 < t.data.toList.length then ([], 5) else
      if 0 < l.length % 8 ∧ ((bytesN ((l.length + 7) / 8) true t.data.toList).1.getD ((l.length + 7) / 8 - 1) 0).toNat / 2 ^ (l.length % 8) ≠ 0 then ([], 5)
      else if ((rowP (bytesN ((l.length + 7) / 8) true t.data.toList).1 l l.length (bytesN ((l.length + 7) / 8) true t.data.toList).2.1 (bytesN ((l.length + 7) / 8) true t.data.toList).2.2).2.1 && decide ((rowP (bytesN ((l.length + 7) / 8) true t.data.toList).1 l l.length (bytesN ((l.length + 7) / 8) true t.data.toList).2.1 (bytesN ((l.length + 7) / 8) true t.data.toList).2.2).2.2 = [])) = false ∨ fitsE l (rowP (bytesN ((l.length + 7) / 8) true t.data.toList).1 l l.length (bytesN ((l.length + 7) / 8) true t.data.toList).2.1 (bytesN ((l.length + 7) / 8) true t.data.toList).2.2).1 ≠ 0 then ([], 5) else ((rowP (bytesN ((l.length + 7) / 8) true t.data.toList).1 l l.length (bytesN ((l.length + 7) / 8) true t.data.toList).2.1 (bytesN ((l.length + 7) / 8) true t.data.toList).2.2).1, 0) := by
      rw [decP, if_neg (by rw [hm]; decide)]
    have hbad := fun (j : Nat) (hj : j ≤ l.length) => bad_dec (t := t.data.toList) hm hj
    have hm8 : (((l.length + 7 : Nat) : Int) / 8) = (((l.length + 7) / 8 : Nat) : Int) := by omega
    by_cases hlong : 160 < t.data.toList.length ∨ t.data.toList.length < (l.length + 7) / 8
    · have e : decP l t.data.toList = ([], 5) := by
        rcases hlong with hlong | hlong
        · rw [hdec, if_pos hlong]
        · exact hbad 0 (Nat.zero_le _) (.inl (bytesN_short _ _ hlong))
      rw [e]
      (repeat' (first | (apply K.s_pure; (first | (apply Y.mv; exact X.mv) | (apply Y.sg; exact X.sg) | (apply Y.pk; exact X.pk) | (apply Y.ex; exact X.ex) | (apply Y.fa; exact X.fa) | (apply Y.ld; exact X.ld) | (apply Y.ia; exact X.ia) | (apply Y.ix; exact X.ix) | (apply Y.sl; exact X.sl) | (apply Y.bd; exact X.bd) | (apply Y.len; exact X.len) | (apply Y.nt; exact X.nt) | (apply Y.badd; exact X.badd) | (apply Y.bmul; exact X.bmul) | (apply Y.beql; exact X.beql) | (apply Y.bneq; exact X.bneq) | (apply Y.blss; exact X.blss) | (apply Y.bgtr; exact X.bgtr) | (apply Y.bgeq; exact X.bgeq) | (apply Y.bshr; exact X.bshr) | (apply Y.bquo; exact X.bquo) | (apply Y.brem; exact X.brem)); exact rfl) | refine X.l ?_ | refine X.w ?_ | refine X.a ?_ | (refine K.c_condD rfl (fun hc => ?_) (fun hc => ?_) <;> first | (exfalso; omega) | skip) | refine K.c_cond rfl (fun hc => ?_) (fun hc => ?_) | (refine K.s_guardD rfl rfl (fun hc => ?_) (fun hc => ?_) <;> first | (exfalso; omega) | skip) | refine K.s_guard rfl rfl (fun hc => ?_) (fun hc => ?_)))
      all_goals
        refine K.AT.nilBuf 40 3 ?_
        refine K.done (by first | exact Or.inl rfl | exact Or.inr rfl) rfl (by first | exact K.Base.le.refl _ | assumption) (H' := [_]) rfl ⟨none, 0, rfl, rfl⟩
    · rw [if_neg (by omega)] at hdec
      have hbt := bytesN_take ((l.length + 7) / 8) t.data.toList (by omega)
      rw [hbt] at hdec hbad
      dsimp only at hdec hbad
      have hm2 : (l.length + 7) / 8 ≤ 2 := by omega
      have hcm1 : l.length ≤ 8 * ((l.length + 7) / 8) := by omega
      have hcm2 : 8 * ((l.length + 7) / 8) < l.length + 8 := by omega
      have hbn : ∀ i c, i < (l.length + 7) / 8 → t.data.toList[i]? = some c → (t.data.toList.take ((l.length + 7) / 8)).getD i 0 = c := fun i c hi hc => by
        rw [List.getD_eq_getElem?_getD, List.getElem?_take, if_pos hi, hc]
        rfl
      have hml : (l.length + 7) / 8 ≤ t.data.toList.length := by omega
      have hrl : (t.data.toList.drop ((l.length + 7) / 8)).length ≤ Cc.big := by rw [List.length_drop]; unfold Cc.big; omega
      generalize hmm : (l.length + 7) / 8 = m at hdec hbad hbt hm2 hcm1 hcm2 hbn hrl hm8 hml
      (repeat' (first | (apply K.s_pure; (first | (apply Y.mv; exact X.mv) | (apply Y.sg; exact X.sg) | (apply Y.pk; exact X.pk) | (apply Y.ex; exact X.ex) | (apply Y.fa; exact X.fa) | (apply Y.ld; exact X.ld) | (apply Y.ia; exact X.ia) | (apply Y.ix; exact X.ix) | (apply Y.sl; exact X.sl) | (apply Y.bd; exact X.bd) | (apply Y.len; exact X.len) | (apply Y.nt; exact X.nt) | (apply Y.badd; exact X.badd) | (apply Y.bmul; exact X.bmul) | (apply Y.beql; exact X.beql) | (apply Y.bneq; exact X.bneq) | (apply Y.blss; exact X.blss) | (apply Y.bgtr; exact X.bgtr) | (apply Y.bgeq; exact X.bgeq) | (apply Y.bshr; exact X.bshr) | (apply Y.bquo; exact X.bquo) | (apply Y.brem; exact X.brem)); exact rfl) | refine X.l ?_ | refine X.w ?_ | refine X.a ?_ | (refine K.c_condD rfl (fun hc => ?_) (fun hc => ?_) <;> first | (exfalso; omega) | skip) | refine K.c_cond rfl (fun hc => ?_) (fun hc => ?_) | (refine K.s_guardD rfl rfl (fun hc => ?_) (fun hc => ?_) <;> first | (exfalso; omega) | skip) | refine K.s_guard rfl rfl (fun hc => ?_) (fun hc => ?_)))
      rw [show ((l.length : Int) + 7) / 8 = ((m : Nat) : Int) from by omega]
      refine K.WC.nilBuf 40 3 ?_
      refine K.c_loop (σ := Nat × List Val × Nat × Option Nat × Nat) (fun q => [(0, .slice ao l.length ca), (1, .string t), (6, .int .i64 m), (7, bufV q.2.2.2.1 q.2.1.length q.2.2.2.2), (8, .int .i64 q.2.2.1), (9, .int .i64 q.1)]) (fun _ => h)
        (fun q => bufA 40 3 q.2.2.2.1 q.2.1.length q.2.2.2.2 (q.2.1.map cV).flatten :: F)
        (fun q => q.1 ≤ 8 * m ∧ q.2.2.1 ≤ t.data.toList.length ∧ q.2.1.length = min q.1 l.length ∧ rowP (t.data.toList.take m) l (min q.1 l.length) true (t.data.toList.drop m) = (q.2.1, true, t.data.toList.drop q.2.2.1) ∧ (∀ k, k < q.1 → l.length ≤ k → isNull (t.data.toList.take m) k = false)) (fun q => 8 * m - q.1) (0, [], m, none, 0) ⟨Nat.zero_le _, by omega, by simp, by simp [rowP], fun k hk => by omega⟩ (by repeat (first | exact K.Sub.nil _ | refine K.Sub.cons rfl ?_)) rfl rfl ?_
      rintro ⟨i, row, pos, a, cap⟩ ⟨hi, hpos, hrow, hrp, hz⟩ KL hKL
      dsimp only at hi hpos hrow hrp hz ⊢
      by_cases hil : i < 8 * m
      · have him : i / 8 < m := by omega
        have hc0 : t.data.toList[((i : Int) / 8).toNat]? = some (t.data.toList[i / 8]'(by omega)) := by rw [show ((i : Int) / 8).toNat = i / 8 from by omega]; exact List.getElem?_eq_getElem (by omega)
        have hnl : isNull (t.data.toList.take m) i = decide ((t.data.toList[i / 8]'(by omega)).toNat / 2 ^ (i % 8) % 2 = 1) := by unfold isNull; rw [hbn (i / 8) _ him (List.getElem?_eq_getElem (by omega))]
        generalize t.data.toList[i / 8]'(by omega) = c at hc0 hnl
        have hcl := c.toNat_lt
        have hsh := shr_bit (i % 8) (by omega) c.toNat hcl
        rw [show ((i % 8 : Nat) : Int) = (i : Int) % 8 from by omega] at hsh
        have hbe : ((c.toNat : Int).fdiv (2 ^ min ((i : Int) % 8).toNat IntKind.u8.bits)).tmod 2 = 1 ↔ c.toNat / 2 ^ (i % 8) % 2 = 1 := by
          rw [hsh]
          generalize c.toNat / 2 ^ (i % 8) = y
          rw [Int.tmod_eq_emod_of_nonneg (by omega)]
          omega
        by_cases hge : l.length ≤ i
        · have hmi : min i l.length = l.length := by omega
          have hmi1 : min (i + 1) l.length = l.length := by omega
          (repeat' (first | (apply K.s_pure; (first | (apply Y.mv; exact X.mv) | (apply Y.sg; exact X.sg) | (apply Y.pk; exact X.pk) | (apply Y.ex; exact X.ex) | (apply Y.fa; exact X.fa) | (apply Y.ld; exact X.ld) | (apply Y.ia; exact X.ia) | (apply Y.ix; exact X.ix) | (apply Y.sl; exact X.sl) | (apply Y.bd; exact X.bd) | (apply Y.len; exact X.len) | (apply Y.nt; exact X.nt) | (apply Y.badd; exact X.badd) | (apply Y.bmul; exact X.bmul) | (apply Y.beql; exact X.beql) | (apply Y.bneq; exact X.bneq) | (apply Y.blss; exact X.blss) | (apply Y.bgtr; exact X.bgtr) | (apply Y.bgeq; exact X.bgeq) | (apply Y.bshr; exact X.bshr) | (apply Y.bquo; exact X.bquo) | (apply Y.brem; exact X.brem)); exact rfl) | refine X.l ?_ | refine X.w ?_ | refine X.a ?_ | (refine K.c_condD rfl (fun hc => ?_) (fun hc => ?_) <;> first | (exfalso; omega) | skip) | refine K.c_cond rfl (fun hc => ?_) (fun hc => ?_) | (refine K.s_guardD rfl rfl (fun hc => ?_) (fun hc => ?_) <;> first | (exfalso; omega) | skip) | refine K.s_guard rfl rfl (fun hc => ?_) (fun hc => ?_)))
          · have hb1 := hbe.1 (by assumption)
            have hco : (t.data.toList.take m).getD (m - 1) 0 = c := hbn (m - 1) c (by omega) (by
              rw [show m - 1 = ((i : Int) / 8).toNat from by omega]; exact hc0)
            have e : decP l t.data.toList = ([], 5) := by
              rw [hdec, if_pos]
              refine ⟨by omega, ?_⟩
              rw [hco]
              exact high_bit (l.length % 8) (by omega) c.toNat hcl (i % 8) (by omega) ⟨by omega, hb1⟩
            rw [e]
            refine K.AT.drop (K.AT.nilBuf 40 3 ?_)
            refine K.done (by first | exact Or.inl rfl | exact Or.inr rfl) rfl (by first | exact K.Base.le.refl _ | assumption) (H' := [_]) rfl ⟨none, 0, rfl, rfl⟩
          · have hb0 : isNull (t.data.toList.take m) i = false := by rw [hnl]; exact decide_eq_false (fun e => absurd (hbe.2 e) (by assumption))
            refine K.a_round hKL (i + 1, row, pos, a, cap) ⟨by dsimp only; omega, hpos, by dsimp only; omega, by dsimp only; rw [hmi1]; rw [hmi] at hrp; exact hrp, fun k hk hk2 => ?_⟩ (by repeat (first | exact K.Sub.nil _ | refine K.Sub.cons rfl ?_)) rfl rfl (by dsimp only; omega)
            dsimp only at hk
            by_cases hki : k < i
            · exact hz k hki hk2
            · obtain rfl : k = i := by omega
              exact hb0
        · have hmi : min i l.length = i := by omega
          have hmi1 : min (i + 1) l.length = i + 1 := by omega
          have hil2 : i < l.length := by omega
          rw [hmi] at hrow hrp
          have hl16 : row.length < 16 := by omega
          have hstep : rowP (t.data.toList.take m) l (i + 1) true (t.data.toList.drop m) = if isNull (t.data.toList.take m) i = true then (row ++ [zeroV], true, t.data.toList.drop pos) else (row ++ [(rdV l[i].kind true (t.data.toList.drop pos)).1], (rdV l[i].kind true (t.data.toList.drop pos)).2) := by
            rw [rowP, List.getElem?_eq_getElem hil2, hrp]
          have hd0 : (l.map cC)[((i : Nat) : Int).toNat]? = some (cC l[i]) := by rw [Int.toNat_natCast, List.getElem?_map, List.getElem?_eq_getElem hil2]; rfl
          have hkd := mayB_ok hm l[i] (List.getElem_mem hil2)
          generalize l[i] = d at hstep hd0 hkd
          (repeat' (first | (apply K.s_pure; (first | (apply Y.mv; exact X.mv) | (apply Y.sg; exact X.sg) | (apply Y.pk; exact X.pk) | (apply Y.ex; exact X.ex) | (apply Y.fa; exact X.fa) | (apply Y.ld; exact X.ld) | (apply Y.ia; exact X.ia) | (apply Y.ix; exact X.ix) | (apply Y.sl; exact X.sl) | (apply Y.bd; exact X.bd) | (apply Y.len; exact X.len) | (apply Y.nt; exact X.nt) | (apply Y.badd; exact X.badd) | (apply Y.bmul; exact X.bmul) | (apply Y.beql; exact X.beql) | (apply Y.bneq; exact X.bneq) | (apply Y.blss; exact X.blss) | (apply Y.bgtr; exact X.bgtr) | (apply Y.bgeq; exact X.bgeq) | (apply Y.bshr; exact X.bshr) | (apply Y.bquo; exact X.bquo) | (apply Y.brem; exact X.brem)); exact rfl) | refine X.l ?_ | refine X.w ?_ | refine X.a ?_ | (refine K.c_condD rfl (fun hc => ?_) (fun hc => ?_) <;> first | (exfalso; omega) | skip) | refine K.c_cond rfl (fun hc => ?_) (fun hc => ?_) | (refine K.s_guardD rfl rfl (fun hc => ?_) (fun hc => ?_) <;> first | (exfalso; omega) | skip) | refine K.s_guard rfl rfl (fun hc => ?_) (fun hc => ?_)))
          · have hb1 : isNull (t.data.toList.take m) i = true := by rw [hnl]; exact decide_eq_true (hbe.1 (by assumption))
            rw [if_pos hb1] at hstep
            refine K.l_buildSlice (Fx.und rfl) (Fx.sz rfl) rfl (Fx.zr rfl) rfl rfl rfl (cs := cV zeroV) rfl rfl (fun B4 => ?_)
            refine K.l_append_at 1 rfl (Fx.und rfl) (Fx.und rfl) rfl (Fx.sz rfl) (Fx.zr rfl) rfl (Fx.byt rfl) rfl rfl (K.src_cells (K.cels_own (pre := []) (cs := cV zeroV) (post := []) 0 rfl rfl) rfl (by simp [cV, oneCell])) (by omega) (by omega) rfl (fun a' cap' => ?_)
            simp only [List.set_cons_zero, List.set_cons_succ, List.eraseIdx_cons_zero, List.eraseIdx_cons_succ, List.cons_append, List.nil_append]
            (repeat' (first | (apply K.s_pure; (first | (apply Y.mv; exact X.mv) | (apply Y.sg; exact X.sg) | (apply Y.pk; exact X.pk) | (apply Y.ex; exact X.ex) | (apply Y.fa; exact X.fa) | (apply Y.ld; exact X.ld) | (apply Y.ia; exact X.ia) | (apply Y.ix; exact X.ix) | (apply Y.sl; exact X.sl) | (apply Y.bd; exact X.bd) | (apply Y.len; exact X.len) | (apply Y.nt; exact X.nt) | (apply Y.badd; exact X.badd) | (apply Y.bmul; exact X.bmul) | (apply Y.beql; exact X.beql) | (apply Y.bneq; exact X.bneq) | (apply Y.blss; exact X.blss) | (apply Y.bgtr; exact X.bgtr) | (apply Y.bgeq; exact X.bgeq) | (apply Y.bshr; exact X.bshr) | (apply Y.bquo; exact X.bquo) | (apply Y.brem; exact X.brem)); exact rfl) | refine X.l ?_ | refine X.w ?_ | refine X.a ?_ | (refine K.c_condD rfl (fun hc => ?_) (fun hc => ?_) <;> first | (exfalso; omega) | skip) | refine K.c_cond rfl (fun hc => ?_) (fun hc => ?_) | (refine K.s_guardD rfl rfl (fun hc => ?_) (fun hc => ?_) <;> first | (exfalso; omega) | skip) | refine K.s_guard rfl rfl (fun hc => ?_) (fun hc => ?_)))
            refine K.AT.sel [0] rfl ?_
            refine K.a_round hKL (i + 1, row ++ [zeroV], pos, a', cap') ⟨by dsimp only; omega, hpos, by dsimp only; rw [List.length_append, hrow, hmi1]; rfl, by dsimp only; rw [hmi1, hstep], fun k hk hk2 => by dsimp only at hk; omega⟩ ?_ rfl ?_ (by dsimp only; omega)
            · dsimp only
              rw [List.length_append]
              exact (by repeat (first | exact K.Sub.nil _ | refine K.Sub.cons rfl ?_))
            · dsimp only
              rw [List.map_append, List.flatten_append, List.length_append]
              simp
          · have hb0 : ¬ isNull (t.data.toList.take m) i = true := by
              rw [hnl]
              intro e
              exact absurd (hbe.2 (of_decide_eq_true e)) (by assumption)
            rw [if_neg hb0] at hstep
            have hrs : (⟨((t.data.toList.drop pos)).toArray⟩ : ByteArray).size ≤ 1000 := by
              show (t.data.toList.drop pos).toArray.size ≤ _
              rw [List.size_toArray, List.length_drop]; omega
            have hrd := Read h d.kind hkd ⟨(t.data.toList.drop pos).toArray⟩ hrs
            rw [show (⟨(t.data.toList.drop pos).toArray⟩ : ByteArray).data.toList = t.data.toList.drop pos from rfl] at hrd
            obtain ⟨rs1, rs2⟩ := rd_step hkd (t.data.toList.drop pos)
            have hwq := rdQ_wf hkd (t.data.toList.drop pos) (by rw [List.length_drop]; unfold Cc.big; omega)
            generalize rdQ d.kind (t.data.toList.drop pos) = rq at hrd rs1 rs2 hwq
            obtain ⟨x, n⟩ := rq
            dsimp only at hrd rs1 rs2 hwq
            have hxt : t.extract pos t.size = ⟨(t.data.toList.drop pos).toArray⟩ := by
              rw [extract_eq, List.take_of_length_le (by rw [List.length_drop]; omega)]
            refine X.drawJ ([]) [] (.pu 0 (.pu 1 (.pu 5 (.pu 6 (.pu 7 (.st 2 (.pu 3 (.st 4 (.alt 8 (.pu 9 (.pu 10 (.pu 11 (.on 12 (.on 13 (.pu 14 .nil)))))) (.on 12 (.on 8 (.pu 9 (.pu 10 (.pu 11 (.on 13 (.pu 14 .nil)))))))))))))))) (fun B : Nat => [(0, .slice ao l.length ca), (1, .string t), (6, .int .i64 m), (7, bufV a row.length cap), (8, .int .i64 pos), (9, .int .i64 i), (11, .pointer (some ⟨B, 0, none⟩)), (12, .int .i64 n)]) (fun _ => h) (fun B => blk B 40 (cV x) :: bufA 40 3 a row.length cap (row.map cV).flatten :: F) ?_ ?_
            · refine K.d_pu rfl (fun _ _ => X.mv) rfl ?_
              refine K.d_pu rfl (fun _ _ => X.mv) rfl ?_
              refine K.d_pu rfl (fun _ _ => X.mv) rfl ?_
              refine K.d_pu rfl (fun _ _ => X.mv) rfl ?_
              refine K.d_pu rfl (fun _ _ => K.p_sliceT (k1 := .i64) (k2 := .i64) (l := pos) (u := t.size) (Fx.und rfl) rfl ⟨_, rfl, rfl⟩ rfl (by omega) (Nat.le_refl _)) rfl ?_
              rw [hxt]
              refine K.d_stE rfl (K.p_indexL hv (Fx.und rfl) (Fx.sz rfl) rfl rfl (by omega) hd0) rfl ?_
              rintro v2 ⟨b, o, rfl, hcel⟩
              have hq := (Cels.up (K := []) hcel).2.1
              refine K.d_pu rfl (fun _ _ => X.fa) rfl ?_
              refine K.d_st rfl X.ld rfl ?_
              refine K.d_alt ?_ ?_
              · refine K.d_on rfl (fun KK hKK => ?_)
                refine K.l_callV (Fx.cal rfl) rfl hrd (K.pp [] rfl) rfl rfl ?_
                simp only [List.nil_append]
                refine K.l_nil ?_
                refine X.onE hKK ?_
                refine K.d_pu rfl (fun _ _ => X.mv) rfl ?_
                refine K.d_pu rfl (fun _ _ => X.ex) rfl ?_
                refine K.d_pu rfl (fun _ _ => X.ex) rfl ?_
                refine K.d_on rfl (fun KK hKK => ?_)
                refine K.l_alloc (Fx.zr rfl) rfl rfl (fun B => ?_)
                refine K.l_nil ?_
                refine X.onE hKK ?_
                refine K.d_on rfl (fun KK hKK => ?_)
                refine X.stw ?_
                refine K.l_nil ?_
                refine X.onE hKK ?_
                refine K.d_pu rfl (fun _ _ => X.sg) rfl ?_
                refine K.d_nil ?_
                exact K.joined (B) (by repeat (first | exact K.Sub.nil _ | refine K.Sub.cons rfl ?_)) rfl rfl
              refine K.d_on rfl (fun KK hKK => ?_)
              refine K.l_alloc (Fx.zr rfl) rfl rfl (fun B => ?_)
              refine K.l_nil ?_
              refine X.onE hKK ?_
              refine K.d_on rfl (fun KK hKK => ?_)
              refine K.l_callV (Fx.cal rfl) rfl hrd (K.pp [] rfl) rfl rfl ?_
              simp only [List.nil_append]
              refine K.l_nil ?_
              refine X.onE hKK ?_
              refine K.d_pu rfl (fun _ _ => X.mv) rfl ?_
              refine K.d_pu rfl (fun _ _ => X.ex) rfl ?_
              refine K.d_pu rfl (fun _ _ => X.ex) rfl ?_
              refine K.d_on rfl (fun KK hKK => ?_)
              refine X.stw ?_
              refine K.l_nil ?_
              refine X.onE hKK ?_
              refine K.d_pu rfl (fun _ _ => X.sg) rfl ?_
              refine K.d_nil ?_
              exact K.joined (B) (by repeat (first | exact K.Sub.nil _ | refine K.Sub.cons rfl ?_)) rfl rfl
            refine fun B => ?_
            by_cases hn0 : n = 0
            · have e : decP l t.data.toList = ([], 5) := by
                refine hbad (i + 1) (by omega) ?_
                rw [hstep]
                rcases rs1 hn0 with h1 | h1
                · exact .inl h1
                · exact .inr ⟨_, List.mem_append_right _ (List.mem_singleton.2 rfl), h1⟩
              rw [e]
              (repeat' (first | (apply K.s_pure; (first | (apply Y.mv; exact X.mv) | (apply Y.sg; exact X.sg) | (apply Y.pk; exact X.pk) | (apply Y.ex; exact X.ex) | (apply Y.fa; exact X.fa) | (apply Y.ld; exact X.ld) | (apply Y.ia; exact X.ia) | (apply Y.ix; exact X.ix) | (apply Y.sl; exact X.sl) | (apply Y.bd; exact X.bd) | (apply Y.len; exact X.len) | (apply Y.nt; exact X.nt) | (apply Y.badd; exact X.badd) | (apply Y.bmul; exact X.bmul) | (apply Y.beql; exact X.beql) | (apply Y.bneq; exact X.bneq) | (apply Y.blss; exact X.blss) | (apply Y.bgtr; exact X.bgtr) | (apply Y.bgeq; exact X.bgeq) | (apply Y.bshr; exact X.bshr) | (apply Y.bquo; exact X.bquo) | (apply Y.brem; exact X.brem)); exact rfl) | refine X.l ?_ | refine X.w ?_ | refine X.a ?_ | (refine K.c_condD rfl (fun hc => ?_) (fun hc => ?_) <;> first | (exfalso; omega) | skip) | refine K.c_cond rfl (fun hc => ?_) (fun hc => ?_) | (refine K.s_guardD rfl rfl (fun hc => ?_) (fun hc => ?_) <;> first | (exfalso; omega) | skip) | refine K.s_guard rfl rfl (fun hc => ?_) (fun hc => ?_)))
              refine K.AT.drop (K.AT.drop (K.AT.nilBuf 40 3 ?_))
              refine K.done (by first | exact Or.inl rfl | exact Or.inr rfl) rfl (by first | exact K.Base.le.refl _ | assumption) (H' := [_]) rfl ⟨none, 0, rfl, rfl⟩
            · obtain ⟨rs3, rs4⟩ := rs2 hn0
              rw [List.length_drop] at rs4
              rw [rs3] at hstep
              dsimp only at hstep
              rw [List.drop_drop] at hstep
              (repeat' (first | (apply K.s_pure; (first | (apply Y.mv; exact X.mv) | (apply Y.sg; exact X.sg) | (apply Y.pk; exact X.pk) | (apply Y.ex; exact X.ex) | (apply Y.fa; exact X.fa) | (apply Y.ld; exact X.ld) | (apply Y.ia; exact X.ia) | (apply Y.ix; exact X.ix) | (apply Y.sl; exact X.sl) | (apply Y.bd; exact X.bd) | (apply Y.len; exact X.len) | (apply Y.nt; exact X.nt) | (apply Y.badd; exact X.badd) | (apply Y.bmul; exact X.bmul) | (apply Y.beql; exact X.beql) | (apply Y.bneq; exact X.bneq) | (apply Y.blss; exact X.blss) | (apply Y.bgtr; exact X.bgtr) | (apply Y.bgeq; exact X.bgeq) | (apply Y.bshr; exact X.bshr) | (apply Y.bquo; exact X.bquo) | (apply Y.brem; exact X.brem)); exact rfl) | refine X.l ?_ | refine X.w ?_ | refine X.a ?_ | (refine K.c_condD rfl (fun hc => ?_) (fun hc => ?_) <;> first | (exfalso; omega) | skip) | refine K.c_cond rfl (fun hc => ?_) (fun hc => ?_) | (refine K.s_guardD rfl rfl (fun hc => ?_) (fun hc => ?_) <;> first | (exfalso; omega) | skip) | refine K.s_guard rfl rfl (fun hc => ?_) (fun hc => ?_)))
              refine K.l_buildSlice (Fx.und rfl) (Fx.sz rfl) rfl (Fx.zr rfl) rfl rfl rfl (cs := cV x) rfl rfl (fun B4 => ?_)
              refine K.l_append_at 2 rfl (Fx.und rfl) (Fx.und rfl) rfl (Fx.sz rfl) (Fx.zr rfl) rfl (Fx.byt rfl) rfl rfl (K.src_cells (K.cels_own (pre := []) (cs := cV x) (post := []) 0 rfl rfl) rfl (by simp [cV, oneCell])) (by omega) (by omega) rfl (fun a' cap' => ?_)
              simp only [List.set_cons_zero, List.set_cons_succ, List.eraseIdx_cons_zero, List.eraseIdx_cons_succ, List.cons_append, List.nil_append]
              (repeat' (first | (apply K.s_pure; (first | (apply Y.mv; exact X.mv) | (apply Y.sg; exact X.sg) | (apply Y.pk; exact X.pk) | (apply Y.ex; exact X.ex) | (apply Y.fa; exact X.fa) | (apply Y.ld; exact X.ld) | (apply Y.ia; exact X.ia) | (apply Y.ix; exact X.ix) | (apply Y.sl; exact X.sl) | (apply Y.bd; exact X.bd) | (apply Y.len; exact X.len) | (apply Y.nt; exact X.nt) | (apply Y.badd; exact X.badd) | (apply Y.bmul; exact X.bmul) | (apply Y.beql; exact X.beql) | (apply Y.bneq; exact X.bneq) | (apply Y.blss; exact X.blss) | (apply Y.bgtr; exact X.bgtr) | (apply Y.bgeq; exact X.bgeq) | (apply Y.bshr; exact X.bshr) | (apply Y.bquo; exact X.bquo) | (apply Y.brem; exact X.brem)); exact rfl) | refine X.l ?_ | refine X.w ?_ | refine X.a ?_ | (refine K.c_condD rfl (fun hc => ?_) (fun hc => ?_) <;> first | (exfalso; omega) | skip) | refine K.c_cond rfl (fun hc => ?_) (fun hc => ?_) | (refine K.s_guardD rfl rfl (fun hc => ?_) (fun hc => ?_) <;> first | (exfalso; omega) | skip) | refine K.s_guard rfl rfl (fun hc => ?_) (fun hc => ?_)))
              refine K.AT.sel [0, 0] rfl ?_
              rw [show ((pos : Int) + (n : Int)) = ((pos + n : Nat) : Int) from by omega]
              refine K.a_round hKL (i + 1, row ++ [x], pos + n, a', cap') ⟨by dsimp only; omega, by dsimp only; omega, by dsimp only; rw [List.length_append, hrow, hmi1]; rfl, by dsimp only; rw [hmi1, hstep], fun k hk hk2 => by dsimp only at hk; omega⟩ ?_ rfl ?_ (by dsimp only; omega)
              · dsimp only
                rw [List.length_append]
                exact (by repeat (first | exact K.Sub.nil _ | refine K.Sub.cons rfl ?_))
              · dsimp only
                rw [List.map_append, List.flatten_append, List.length_append]
                simp
      · obtain rfl : i = 8 * m := by omega
        have hmi : min (8 * m) l.length = l.length := by omega
        rw [hmi] at hrow hrp
        rw [hrp] at hdec
        have hcond : ¬ (0 < l.length % 8 ∧ ((t.data.toList.take m).getD (m - 1) 0).toNat / 2 ^ (l.length % 8) ≠ 0) := by
          rintro ⟨h1, h2⟩
          refine h2 (high_bits (l.length % 8) (by omega) _ (UInt8.toNat_lt _) fun k hk1 hk2 e => ?_)
          have := hz (8 * (m - 1) + k) (by omega) (by omega)
          unfold isNull at this
          rw [show (8 * (m - 1) + k) / 8 = m - 1 from by omega, show (8 * (m - 1) + k) % 8 = k from by omega] at this
          exact (of_decide_eq_false this) e
        rw [if_neg hcond] at hdec
        dsimp only at hdec
        have hwr : ∀ x ∈ row, wfV x := fun x hx => rowP_wf (t.data.toList.take m) l l.length true (t.data.toList.drop m) (Nat.le_refl _) hrl x (by rw [hrp]; exact hx)
        have hfit := TrV.row (P := Try.prog) (f := 17) (args := [.slice ao l.length ca, bufV a row.length cap]) (h := h) (v := eV (fitsE l row)) (T := 40) (sz := 3) (a := a) (cap := cap) (es := row.map cV) (R' := []) (flat_map row) (fun K hK => by
          rw [List.append_nil]
          rw [List.length_map] at hK
          exact RefFits h K _ _ l row hv hK hw hwr hl (by omega))
        rw [List.length_map] at hfit
        (repeat' (first | (apply K.s_pure; (first | (apply Y.mv; exact X.mv) | (apply Y.sg; exact X.sg) | (apply Y.pk; exact X.pk) | (apply Y.ex; exact X.ex) | (apply Y.fa; exact X.fa) | (apply Y.ld; exact X.ld) | (apply Y.ia; exact X.ia) | (apply Y.ix; exact X.ix) | (apply Y.sl; exact X.sl) | (apply Y.bd; exact X.bd) | (apply Y.len; exact X.len) | (apply Y.nt; exact X.nt) | (apply Y.badd; exact X.badd) | (apply Y.bmul; exact X.bmul) | (apply Y.beql; exact X.beql) | (apply Y.bneq; exact X.bneq) | (apply Y.blss; exact X.blss) | (apply Y.bgtr; exact X.bgtr) | (apply Y.bgeq; exact X.bgeq) | (apply Y.bshr; exact X.bshr) | (apply Y.bquo; exact X.bquo) | (apply Y.brem; exact X.brem)); exact rfl) | refine X.l ?_ | refine X.w ?_ | refine X.a ?_ | (refine K.c_condD rfl (fun hc => ?_) (fun hc => ?_) <;> first | (exfalso; omega) | skip) | refine K.c_cond rfl (fun hc => ?_) (fun hc => ?_) | (refine K.s_guardD rfl rfl (fun hc => ?_) (fun hc => ?_) <;> first | (exfalso; omega) | skip) | refine K.s_guard rfl rfl (fun hc => ?_) (fun hc => ?_)))
        · rw [hdec, if_pos (.inl (by
            rw [decide_eq_false (fun e => by have := congrArg List.length e; rw [List.length_drop] at this; simp at this; omega)]
            rfl))]
          refine K.AT.drop (K.AT.nilBuf 40 3 ?_)
          refine K.done (by first | exact Or.inl rfl | exact Or.inr rfl) rfl (by first | exact K.Base.le.refl _ | assumption) (H' := [_]) rfl ⟨none, 0, rfl, rfl⟩
        · refine K.l_callV (vals := [.slice ao l.length ca, bufV a row.length cap]) (Fx.cal rfl) rfl hfit (K.pp [0] rfl) rfl rfl ?_
          have hend : (true && decide (t.data.toList.drop pos = [])) = true := by
            rw [decide_eq_true (List.drop_of_length_le (by omega))]; rfl
          simp only [eV]
          by_cases hfz : fitsE l row = 0
          · rw [hdec, if_neg (by rintro (e | e); (rw [hend] at e; cases e); exact e hfz), hfz]
            simp only [List.set_cons_zero, List.set_cons_succ, List.eraseIdx_cons_zero, List.eraseIdx_cons_succ, List.cons_append, List.nil_append]
            (repeat' (first | (apply K.s_pure; (first | (apply Y.mv; exact X.mv) | (apply Y.sg; exact X.sg) | (apply Y.pk; exact X.pk) | (apply Y.ex; exact X.ex) | (apply Y.fa; exact X.fa) | (apply Y.ld; exact X.ld) | (apply Y.ia; exact X.ia) | (apply Y.ix; exact X.ix) | (apply Y.sl; exact X.sl) | (apply Y.bd; exact X.bd) | (apply Y.len; exact X.len) | (apply Y.nt; exact X.nt) | (apply Y.badd; exact X.badd) | (apply Y.bmul; exact X.bmul) | (apply Y.beql; exact X.beql) | (apply Y.bneq; exact X.bneq) | (apply Y.blss; exact X.blss) | (apply Y.bgtr; exact X.bgtr) | (apply Y.bgeq; exact X.bgeq) | (apply Y.bshr; exact X.bshr) | (apply Y.bquo; exact X.bquo) | (apply Y.brem; exact X.brem)); exact rfl) | refine X.l ?_ | refine X.w ?_ | refine X.a ?_ | (refine K.c_condD rfl (fun hc => ?_) (fun hc => ?_) <;> first | (exfalso; omega) | skip) | refine K.c_cond rfl (fun hc => ?_) (fun hc => ?_) | (refine K.s_guardD rfl rfl (fun hc => ?_) (fun hc => ?_) <;> first | (exfalso; omega) | skip) | refine K.s_guard rfl rfl (fun hc => ?_) (fun hc => ?_)))
            refine K.done (by first | exact Or.inl rfl | exact Or.inr rfl) rfl (by first | exact K.Base.le.refl _ | assumption) (H' := [_]) rfl ⟨a, cap, rfl, rfl⟩
          · rw [hdec, if_pos (.inr hfz)]
            simp only [List.set_cons_zero, List.set_cons_succ, List.eraseIdx_cons_zero, List.eraseIdx_cons_succ, List.cons_append, List.nil_append]
            (repeat' (first | (apply K.s_pure; (first | (apply Y.mv; exact X.mv) | (apply Y.sg; exact X.sg) | (apply Y.pk; exact X.pk) | (apply Y.ex; exact X.ex) | (apply Y.fa; exact X.fa) | (apply Y.ld; exact X.ld) | (apply Y.ia; exact X.ia) | (apply Y.ix; exact X.ix) | (apply Y.sl; exact X.sl) | (apply Y.bd; exact X.bd) | (apply Y.len; exact X.len) | (apply Y.nt; exact X.nt) | (apply Y.badd; exact X.badd) | (apply Y.bmul; exact X.bmul) | (apply Y.beql; exact X.beql) | (apply Y.bneq; exact X.bneq) | (apply Y.blss; exact X.blss) | (apply Y.bgtr; exact X.bgtr) | (apply Y.bgeq; exact X.bgeq) | (apply Y.bshr; exact X.bshr) | (apply Y.bquo; exact X.bquo) | (apply Y.brem; exact X.brem)); exact rfl) | refine X.l ?_ | refine X.w ?_ | refine X.a ?_ | (refine K.c_condD rfl (fun hc => ?_) (fun hc => ?_) <;> first | (exfalso; omega) | skip) | refine K.c_cond rfl (fun hc => ?_) (fun hc => ?_) | (refine K.s_guardD rfl rfl (fun hc => ?_) (fun hc => ?_) <;> first | (exfalso; omega) | skip) | refine K.s_guard rfl rfl (fun hc => ?_) (fun hc => ?_)))
            refine K.AT.drop (K.AT.nilBuf 40 3 ?_)
            refine K.done (by first | exact Or.inl rfl | exact Or.inr rfl) rfl (by first | exact K.Base.le.refl _ | assumption) (H' := [_]) rfl ⟨none, 0, rfl, rfl⟩
end Go.Proofs.Ythdiokdaaofebaa.Rw
