/-
  The walk of layer 5's statement RowsBack. Conditions: each theorem's own.
-/
import Derived.Test.YthdiokdaaofebaaDq
import Derived.Test.YthdiokdaaofebaaDr

namespace Go.Proofs.Ythdiokdaaofebaa.Rw
open Go Go.K Go.Proofs Go.Proofs.Ythdiokdaaofebaa
set_option linter.unusedVariables false
set_option linter.unusedSimpArgs false
set_option maxRecDepth 10000

theorem dec_wf {l : List Col} {s : List UInt8} {r : List Val} (h : decP l s = (r, 0)) : ∀ v ∈ r, wfV v := by
  unfold decP at h
  split at h
  · cases congrArg Prod.snd h
  split at h
  · cases congrArg Prod.snd h
  rename_i h160
  dsimp only at h
  split at h
  · cases congrArg Prod.snd h
  split at h
  · cases congrArg Prod.snd h
  have hr := congrArg Prod.fst h
  dsimp only at hr
  rw [← hr]
  have hb := (bytesN_len ((l.length + 7) / 8) true s).2
  exact rowP_wf _ l l.length _ _ (Nat.le_refl _) (by unfold Cc.big; omega)
theorem enc_len {l : List Col} {r : List Val} {t : List UInt8} (h : encR l r = (t, 0)) : t.length ≤ 160 := by
  unfold encR at h
  split at h
  · rename_i h1; exact absurd (congrArg Prod.snd h) h1
  split at h
  · cases congrArg Prod.snd h
  · obtain rfl : encB r = t := congrArg Prod.fst h
    omega
theorem text_eq (s : ByteArray) : (⟨s.data.toList.toArray⟩ : ByteArray) = s := by
  cases s
  simp

set_option maxHeartbeats 4000000 in
theorem RowsBack (h : Base) (v : Value) (l : List Col) (u : Value) (r : List Val) (u2 : Value) (r2 : List Val) (s : ByteArray) (hv : SL h 3 v (l.map cC)) (hw : ∀ c ∈ l, wfC c) (hl : l.length * 32 ≤ 140737488351232) (hu : SL h 3 u (r.map cV)) (hx : ∀ c ∈ r, wfV c) (hr : r.length * 32 ≤ 140737488351232)
    (hu2 : SL h 3 u2 (r2.map cV)) (hx2 : ∀ c ∈ r2, wfV c) (hr2 : r2.length * 32 ≤ 140737488351232) (hs : s.size ≤ 9223372036854775807) :
    Tr Try.prog 6 [v, u, u2, .string s] h [] (fun u h' H' => u = .bool true ∧ H' = []) := by
  have hll : l.length ≤ 9223372036854775807 := by omega
  have hrl : r.length ≤ 9223372036854775807 := by omega
  have hrl2 : r2.length ≤ 9223372036854775807 := by omega
  refine K.enter Try.func6 rfl (Nat.le_of_ble_eq_true rfl) (fun F => ?_)
  simp only [List.nil_append]
  (repeat' (first | (apply K.s_pure; (first | (apply Y.mv; exact X.mv) | (apply Y.sg; exact X.sg) | (apply Y.pk; exact X.pk) | (apply Y.ex; exact X.ex) | (apply Y.nt; exact X.nt) | (apply Y.beql; exact X.beql) | (apply Y.bneq; exact X.bneq)); exact rfl) | refine X.l ?_ | refine X.w ?_ | refine X.a ?_ | (refine K.c_condD rfl (fun hc => ?_) (fun hc => ?_) <;> first | (exfalso; omega) | skip) | refine K.c_cond rfl (fun hc => ?_) (fun hc => ?_) | (refine K.s_guardD rfl rfl (fun hc => ?_) (fun hc => ?_) <;> first | (exfalso; omega) | skip) | refine K.s_guard rfl rfl (fun hc => ?_) (fun hc => ?_)))
  refine K.l_call (Fx.cal rfl) rfl (lent_cC h v l hv hl) (K.pp [] rfl) rfl ?_
  rintro w h1 H' le1 ⟨rfl, ao, cap, rfl, hcap, hsl⟩
  simp only [List.set_cons_zero, List.set_cons_succ, List.eraseIdx_cons_zero, List.eraseIdx_cons_succ, List.cons_append, List.nil_append]
  (repeat' (first | (apply K.s_pure; (first | (apply Y.mv; exact X.mv) | (apply Y.sg; exact X.sg) | (apply Y.pk; exact X.pk) | (apply Y.ex; exact X.ex) | (apply Y.nt; exact X.nt) | (apply Y.beql; exact X.beql) | (apply Y.bneq; exact X.bneq)); exact rfl) | refine X.l ?_ | refine X.w ?_ | refine X.a ?_ | (refine K.c_condD rfl (fun hc => ?_) (fun hc => ?_) <;> first | (exfalso; omega) | skip) | refine K.c_cond rfl (fun hc => ?_) (fun hc => ?_) | (refine K.s_guardD rfl rfl (fun hc => ?_) (fun hc => ?_) <;> first | (exfalso; omega) | skip) | refine K.s_guard rfl rfl (fun hc => ?_) (fun hc => ?_)))
  refine K.l_call (Fx.cal rfl) rfl (lent_cV h1 u r (hu.le le1) hr) (K.pp [] rfl) rfl ?_
  rintro w h2 H' le2 ⟨rfl, ao2, cap2, rfl, hcap2, hsl2⟩
  simp only [List.set_cons_zero, List.set_cons_succ, List.eraseIdx_cons_zero, List.eraseIdx_cons_succ, List.cons_append, List.nil_append]
  (repeat' (first | (apply K.s_pure; (first | (apply Y.mv; exact X.mv) | (apply Y.sg; exact X.sg) | (apply Y.pk; exact X.pk) | (apply Y.ex; exact X.ex) | (apply Y.nt; exact X.nt) | (apply Y.beql; exact X.beql) | (apply Y.bneq; exact X.bneq)); exact rfl) | refine X.l ?_ | refine X.w ?_ | refine X.a ?_ | (refine K.c_condD rfl (fun hc => ?_) (fun hc => ?_) <;> first | (exfalso; omega) | skip) | refine K.c_cond rfl (fun hc => ?_) (fun hc => ?_) | (refine K.s_guardD rfl rfl (fun hc => ?_) (fun hc => ?_) <;> first | (exfalso; omega) | skip) | refine K.s_guard rfl rfl (fun hc => ?_) (fun hc => ?_)))
  refine K.l_callV (Fx.cal rfl) rfl (Encode h2 _ _ l r (lent_base (hsl.le le2)) (lent_base hsl2) hw hx hll hrl) (K.pp [] rfl) rfl rfl ?_
  have le3 := le1.trans le2
  clear hsl hsl2 le1 le2
  generalize hen : encR l r = q1
  obtain ⟨t, e⟩ := q1
  simp only [eV, List.nil_append]
  cases Decidable.em (e = 0)
  case' inl he =>
    subst he
    obtain ⟨hd1, hf1⟩ := dec_enc hen hx
    have htl := enc_len hen
    have hsz : (⟨t.toArray⟩ : ByteArray).size ≤ 9223372036854775807 := by
      show t.toArray.size ≤ _
      rw [List.size_toArray]; omega
    (repeat' (first | (apply K.s_pure; (first | (apply Y.mv; exact X.mv) | (apply Y.sg; exact X.sg) | (apply Y.pk; exact X.pk) | (apply Y.ex; exact X.ex) | (apply Y.nt; exact X.nt) | (apply Y.beql; exact X.beql) | (apply Y.bneq; exact X.bneq)); exact rfl) | refine X.l ?_ | refine X.w ?_ | refine X.a ?_ | (refine K.c_condD rfl (fun hc => ?_) (fun hc => ?_) <;> first | (exfalso; omega) | skip) | refine K.c_cond rfl (fun hc => ?_) (fun hc => ?_) | (refine K.s_guardD rfl rfl (fun hc => ?_) (fun hc => ?_) <;> first | (exfalso; omega) | skip) | refine K.s_guard rfl rfl (fun hc => ?_) (fun hc => ?_)))
    refine K.l_call (Fx.cal rfl) rfl (lent_cC h2 v l (hv.le le3) hl) (K.pp [] rfl) rfl ?_
    rintro w h3 H' le4 ⟨rfl, ao3, cap3, rfl, hcap3, hsl3⟩
    simp only [List.set_cons_zero, List.set_cons_succ, List.eraseIdx_cons_zero, List.eraseIdx_cons_succ, List.cons_append, List.nil_append]
    (repeat' (first | (apply K.s_pure; (first | (apply Y.mv; exact X.mv) | (apply Y.sg; exact X.sg) | (apply Y.pk; exact X.pk) | (apply Y.ex; exact X.ex) | (apply Y.nt; exact X.nt) | (apply Y.beql; exact X.beql) | (apply Y.bneq; exact X.bneq)); exact rfl) | refine X.l ?_ | refine X.w ?_ | refine X.a ?_ | (refine K.c_condD rfl (fun hc => ?_) (fun hc => ?_) <;> first | (exfalso; omega) | skip) | refine K.c_cond rfl (fun hc => ?_) (fun hc => ?_) | (refine K.s_guardD rfl rfl (fun hc => ?_) (fun hc => ?_) <;> first | (exfalso; omega) | skip) | refine K.s_guard rfl rfl (fun hc => ?_) (fun hc => ?_)))
    refine K.l_call (Fx.cal rfl) rfl (Decode h3 _ l ⟨t.toArray⟩ (lent_base hsl3) hw hll hsz) (K.pp [] rfl) rfl ?_
    rintro w hX H' le5 ⟨a1, c1, rfl, rfl⟩
    rw [show (⟨t.toArray⟩ : ByteArray).data.toList = t from rfl, hd1]
    have leX := (le3.trans le4).trans le5
    simp only [eV]
    simp only [List.set_cons_zero, List.set_cons_succ, List.eraseIdx_cons_zero, List.eraseIdx_cons_succ, List.cons_append, List.nil_append]
    (repeat' (first | (apply K.s_pure; (first | (apply Y.mv; exact X.mv) | (apply Y.sg; exact X.sg) | (apply Y.pk; exact X.pk) | (apply Y.ex; exact X.ex) | (apply Y.nt; exact X.nt) | (apply Y.beql; exact X.beql) | (apply Y.bneq; exact X.bneq)); exact rfl) | refine X.l ?_ | refine X.w ?_ | refine X.a ?_ | (refine K.c_condD rfl (fun hc => ?_) (fun hc => ?_) <;> first | (exfalso; omega) | skip) | refine K.c_cond rfl (fun hc => ?_) (fun hc => ?_) | (refine K.s_guardD rfl rfl (fun hc => ?_) (fun hc => ?_) <;> first | (exfalso; omega) | skip) | refine K.s_guard rfl rfl (fun hc => ?_) (fun hc => ?_)))
    have hsame := TrV.row (P := Try.prog) (f := 21) (args := [bufV a1 r.length c1, u]) (h := hX) (v := .bool (decide (r = r))) (T := 40) (sz := 3) (a := a1) (cap := c1) (es := r.map cV) (R' := []) (flat_map r) (fun K hK => by
      rw [List.length_map] at hK
      rw [List.append_nil]
      exact Same hX K _ _ r r hK (hu.le leX).k hrl hrl)
    rw [List.length_map, decide_eq_true (rfl : r = r)] at hsame
    refine K.l_callV (Fx.cal rfl) rfl hsame (K.pp [0] rfl) rfl rfl ?_
    simp only [List.set_cons_zero, List.set_cons_succ, List.eraseIdx_cons_zero, List.eraseIdx_cons_succ, List.cons_append, List.nil_append]
    refine K.WL.drop ?_
    clear hsame le3 le4 le5 hsl3
    (repeat' (first | (apply K.s_pure; (first | (apply Y.mv; exact X.mv) | (apply Y.sg; exact X.sg) | (apply Y.pk; exact X.pk) | (apply Y.ex; exact X.ex) | (apply Y.nt; exact X.nt) | (apply Y.beql; exact X.beql) | (apply Y.bneq; exact X.bneq)); exact rfl) | refine X.l ?_ | refine X.w ?_ | refine X.a ?_ | (refine K.c_condD rfl (fun hc => ?_) (fun hc => ?_) <;> first | (exfalso; omega) | skip) | refine K.c_cond rfl (fun hc => ?_) (fun hc => ?_) | (refine K.s_guardD rfl rfl (fun hc => ?_) (fun hc => ?_) <;> first | (exfalso; omega) | skip) | refine K.s_guard rfl rfl (fun hc => ?_) (fun hc => ?_)))
  case' inr he =>
    rename Base => hX
    rename h.le hX => leX
    (repeat' (first | (apply K.s_pure; (first | (apply Y.mv; exact X.mv) | (apply Y.sg; exact X.sg) | (apply Y.pk; exact X.pk) | (apply Y.ex; exact X.ex) | (apply Y.nt; exact X.nt) | (apply Y.beql; exact X.beql) | (apply Y.bneq; exact X.bneq)); exact rfl) | refine X.l ?_ | refine X.w ?_ | refine X.a ?_ | (refine K.c_condD rfl (fun hc => ?_) (fun hc => ?_) <;> first | (exfalso; omega) | skip) | refine K.c_cond rfl (fun hc => ?_) (fun hc => ?_) | (refine K.s_guardD rfl rfl (fun hc => ?_) (fun hc => ?_) <;> first | (exfalso; omega) | skip) | refine K.s_guard rfl rfl (fun hc => ?_) (fun hc => ?_)))
  all_goals
    have hu2X := hu2.le leX
    have huX := hu.le leX
    have hvX := hv.le leX
    refine K.l_call (Fx.cal rfl) rfl (lent_cC hX v l hvX hl) (K.pp [] rfl) rfl ?_
    rintro w h4 H' le6 ⟨rfl, ao4, cap4, rfl, hcap4, hsl4⟩
    simp only [List.set_cons_zero, List.set_cons_succ, List.eraseIdx_cons_zero, List.eraseIdx_cons_succ, List.cons_append, List.nil_append]
    (repeat' (first | (apply K.s_pure; (first | (apply Y.mv; exact X.mv) | (apply Y.sg; exact X.sg) | (apply Y.pk; exact X.pk) | (apply Y.ex; exact X.ex) | (apply Y.nt; exact X.nt) | (apply Y.beql; exact X.beql) | (apply Y.bneq; exact X.bneq)); exact rfl) | refine X.l ?_ | refine X.w ?_ | refine X.a ?_ | (refine K.c_condD rfl (fun hc => ?_) (fun hc => ?_) <;> first | (exfalso; omega) | skip) | refine K.c_cond rfl (fun hc => ?_) (fun hc => ?_) | (refine K.s_guardD rfl rfl (fun hc => ?_) (fun hc => ?_) <;> first | (exfalso; omega) | skip) | refine K.s_guard rfl rfl (fun hc => ?_) (fun hc => ?_)))
    refine K.l_call (Fx.cal rfl) rfl (lent_cV h4 u2 r2 (hu2X.le le6) hr2) (K.pp [] rfl) rfl ?_
    rintro w h5 H' le7 ⟨rfl, ao5, cap5, rfl, hcap5, hsl5⟩
    simp only [List.set_cons_zero, List.set_cons_succ, List.eraseIdx_cons_zero, List.eraseIdx_cons_succ, List.cons_append, List.nil_append]
    (repeat' (first | (apply K.s_pure; (first | (apply Y.mv; exact X.mv) | (apply Y.sg; exact X.sg) | (apply Y.pk; exact X.pk) | (apply Y.ex; exact X.ex) | (apply Y.nt; exact X.nt) | (apply Y.beql; exact X.beql) | (apply Y.bneq; exact X.bneq)); exact rfl) | refine X.l ?_ | refine X.w ?_ | refine X.a ?_ | (refine K.c_condD rfl (fun hc => ?_) (fun hc => ?_) <;> first | (exfalso; omega) | skip) | refine K.c_cond rfl (fun hc => ?_) (fun hc => ?_) | (refine K.s_guardD rfl rfl (fun hc => ?_) (fun hc => ?_) <;> first | (exfalso; omega) | skip) | refine K.s_guard rfl rfl (fun hc => ?_) (fun hc => ?_)))
    refine K.l_callV (Fx.cal rfl) rfl (Encode h5 _ _ l r2 (lent_base (hsl4.le le7)) (lent_base hsl5) hw hx2 hll hrl2) (K.pp [] rfl) rfl rfl ?_
    have le8 := le6.trans le7
    have hu2Y := hu2X.le le8
    have huY := huX.le le8
    have hvY := hvX.le le8
    have leY := leX.trans le8
    clear hsl4 hsl5 le6 le7 le8 leX hu2X huX hvX
    generalize hen2 : encR l r2 = q2
    obtain ⟨t2, f⟩ := q2
    simp only [eV, List.nil_append]
    (repeat' (first | (apply K.s_pure; (first | (apply Y.mv; exact X.mv) | (apply Y.sg; exact X.sg) | (apply Y.pk; exact X.pk) | (apply Y.ex; exact X.ex) | (apply Y.nt; exact X.nt) | (apply Y.beql; exact X.beql) | (apply Y.bneq; exact X.bneq)); exact rfl) | refine X.l ?_ | refine X.w ?_ | refine X.a ?_ | (refine K.c_condD rfl (fun hc => ?_) (fun hc => ?_) <;> first | (exfalso; omega) | skip) | refine K.c_cond rfl (fun hc => ?_) (fun hc => ?_) | (refine K.s_guardD rfl rfl (fun hc => ?_) (fun hc => ?_) <;> first | (exfalso; omega) | skip) | refine K.s_guard rfl rfl (fun hc => ?_) (fun hc => ?_)))
  rotate_left
  refine K.l_callV (Fx.cal rfl) rfl (Same h5 [] u u2 r r2 huY.k hu2Y.k hrl hrl2) (K.pp [] rfl) rfl rfl ?_
  have hd : decide (r = r2) = decide ((⟨t.toArray⟩ : ByteArray) = ⟨t2.toArray⟩) := by
    rw [Bool.eq_iff_iff, decide_eq_true_iff, decide_eq_true_iff]
    refine (enc_inj hen (by rw [hen2, hc]) hx hx2).symm.trans ?_
    simp
  rw [hd]
  simp only [List.set_cons_zero, List.set_cons_succ, List.eraseIdx_cons_zero, List.eraseIdx_cons_succ, List.cons_append, List.nil_append]
  (repeat' (first | (apply K.s_pure; (first | (apply Y.mv; exact X.mv) | (apply Y.sg; exact X.sg) | (apply Y.pk; exact X.pk) | (apply Y.ex; exact X.ex) | (apply Y.nt; exact X.nt) | (apply Y.beql; exact X.beql) | (apply Y.bneq; exact X.bneq)); exact rfl) | refine X.l ?_ | refine X.w ?_ | refine X.a ?_ | (refine K.c_condD rfl (fun hc => ?_) (fun hc => ?_) <;> first | (exfalso; omega) | skip) | refine K.c_cond rfl (fun hc => ?_) (fun hc => ?_) | (refine K.s_guardD rfl rfl (fun hc => ?_) (fun hc => ?_) <;> first | (exfalso; omega) | skip) | refine K.s_guard rfl rfl (fun hc => ?_) (fun hc => ?_)))
  · rw [beq_self_eq_true] at hc
    cases hc
  all_goals
    refine K.l_call (Fx.cal rfl) rfl (lent_cC h5 v l hvY hl) (K.pp [] rfl) rfl ?_
    rintro w h6 H' le6 ⟨rfl, ao6, cap6, rfl, hcap6, hsl6⟩
    simp only [List.set_cons_zero, List.set_cons_succ, List.eraseIdx_cons_zero, List.eraseIdx_cons_succ, List.cons_append, List.nil_append]
    (repeat' (first | (apply K.s_pure; (first | (apply Y.mv; exact X.mv) | (apply Y.sg; exact X.sg) | (apply Y.pk; exact X.pk) | (apply Y.ex; exact X.ex) | (apply Y.nt; exact X.nt) | (apply Y.beql; exact X.beql) | (apply Y.bneq; exact X.bneq)); exact rfl) | refine X.l ?_ | refine X.w ?_ | refine X.a ?_ | (refine K.c_condD rfl (fun hc => ?_) (fun hc => ?_) <;> first | (exfalso; omega) | skip) | refine K.c_cond rfl (fun hc => ?_) (fun hc => ?_) | (refine K.s_guardD rfl rfl (fun hc => ?_) (fun hc => ?_) <;> first | (exfalso; omega) | skip) | refine K.s_guard rfl rfl (fun hc => ?_) (fun hc => ?_)))
    refine K.l_call (Fx.cal rfl) rfl (Decode h6 _ l s (lent_base hsl6) hw hll hs) (K.pp [] rfl) rfl ?_
    rintro w h7 H' le7 ⟨a2, c2, rfl, rfl⟩
    have le8 := (leY.trans le6).trans le7
    have hvZ := (hvY.le le6).le le7
    have hl16 := decP_len l s.data.toList
    have hdb := fun r => enc_dec (l := l) (r := r) (s := s.data.toList)
    have hdw := fun r => dec_wf (l := l) (r := r) (s := s.data.toList)
    generalize decP l s.data.toList = q3 at hl16 hdb hdw
    obtain ⟨r3, g⟩ := q3
    simp only [eV] at hl16 ⊢
    simp only [List.set_cons_zero, List.set_cons_succ, List.eraseIdx_cons_zero, List.eraseIdx_cons_succ, List.cons_append, List.nil_append]
    by_cases hg : g = 0
    · subst hg
      have hr3 := hdw r3 rfl
      have he3 := hdb r3 rfl
      (repeat' (first | (apply K.s_pure; (first | (apply Y.mv; exact X.mv) | (apply Y.sg; exact X.sg) | (apply Y.pk; exact X.pk) | (apply Y.ex; exact X.ex) | (apply Y.nt; exact X.nt) | (apply Y.beql; exact X.beql) | (apply Y.bneq; exact X.bneq)); exact rfl) | refine X.l ?_ | refine X.w ?_ | refine X.a ?_ | (refine K.c_condD rfl (fun hc => ?_) (fun hc => ?_) <;> first | (exfalso; omega) | skip) | refine K.c_cond rfl (fun hc => ?_) (fun hc => ?_) | (refine K.s_guardD rfl rfl (fun hc => ?_) (fun hc => ?_) <;> first | (exfalso; omega) | skip) | refine K.s_guard rfl rfl (fun hc => ?_) (fun hc => ?_)))
      refine K.l_call (Fx.cal rfl) rfl (lent_cC h7 v l hvZ hl) (K.pp [] rfl) rfl ?_
      rintro w h8 H' le9 ⟨rfl, ao8, cap8, rfl, hcap8, hsl8⟩
      simp only [List.set_cons_zero, List.set_cons_succ, List.eraseIdx_cons_zero, List.eraseIdx_cons_succ, List.cons_append, List.nil_append]
      (repeat' (first | (apply K.s_pure; (first | (apply Y.mv; exact X.mv) | (apply Y.sg; exact X.sg) | (apply Y.pk; exact X.pk) | (apply Y.ex; exact X.ex) | (apply Y.nt; exact X.nt) | (apply Y.beql; exact X.beql) | (apply Y.bneq; exact X.bneq)); exact rfl) | refine X.l ?_ | refine X.w ?_ | refine X.a ?_ | (refine K.c_condD rfl (fun hc => ?_) (fun hc => ?_) <;> first | (exfalso; omega) | skip) | refine K.c_cond rfl (fun hc => ?_) (fun hc => ?_) | (refine K.s_guardD rfl rfl (fun hc => ?_) (fun hc => ?_) <;> first | (exfalso; omega) | skip) | refine K.s_guard rfl rfl (fun hc => ?_) (fun hc => ?_)))
      have hfr : r3.length = (r3.map cV).length := (List.length_map ..).symm
      rw [hfr]
      refine K.WL.freezeRow (flat_map r3) (fun h9 le10 hs9 hc9 => ?_)
      refine K.l_callV (Fx.cal rfl) rfl (Encode h9 _ _ l r3 (lent_base (hsl8.le le10)) hs9 hw hr3 hll (by omega)) (K.pp [] rfl) rfl rfl ?_
      rw [he3, text_eq]
      simp only [eV, List.nil_append]
      (repeat' (first | (apply K.s_pure; (first | (apply Y.mv; exact X.mv) | (apply Y.sg; exact X.sg) | (apply Y.pk; exact X.pk) | (apply Y.ex; exact X.ex) | (apply Y.nt; exact X.nt) | (apply Y.beql; exact X.beql) | (apply Y.bneq; exact X.bneq)); exact rfl) | refine X.l ?_ | refine X.w ?_ | refine X.a ?_ | (refine K.c_condD rfl (fun hc => ?_) (fun hc => ?_) <;> first | (exfalso; omega) | skip) | refine K.c_cond rfl (fun hc => ?_) (fun hc => ?_) | (refine K.s_guardD rfl rfl (fun hc => ?_) (fun hc => ?_) <;> first | (exfalso; omega) | skip) | refine K.s_guard rfl rfl (fun hc => ?_) (fun hc => ?_)))
      refine K.l_call (Fx.cal rfl) rfl (awake h9) (K.pp [] rfl) rfl ?_
      rintro w h10 H' le11 ⟨rfl, rfl⟩
      simp only [List.set_cons_zero, List.set_cons_succ, List.eraseIdx_cons_zero, List.eraseIdx_cons_succ, List.cons_append, List.nil_append]
      (repeat' (first | (apply K.s_pure; (first | (apply Y.mv; exact X.mv) | (apply Y.sg; exact X.sg) | (apply Y.pk; exact X.pk) | (apply Y.ex; exact X.ex) | (apply Y.nt; exact X.nt) | (apply Y.beql; exact X.beql) | (apply Y.bneq; exact X.bneq)); exact rfl) | refine X.l ?_ | refine X.w ?_ | refine X.a ?_ | (refine K.c_condD rfl (fun hc => ?_) (fun hc => ?_) <;> first | (exfalso; omega) | skip) | refine K.c_cond rfl (fun hc => ?_) (fun hc => ?_) | (refine K.s_guardD rfl rfl (fun hc => ?_) (fun hc => ?_) <;> first | (exfalso; omega) | skip) | refine K.s_guard rfl rfl (fun hc => ?_) (fun hc => ?_)))
      refine K.done (by first | exact Or.inl rfl | exact Or.inr rfl) rfl (((le8.trans le9).trans le10).trans le11) (H' := []) rfl ⟨rfl, rfl⟩
      exact absurd rfl (show ¬ s = s by assumption)
    · (repeat' (first | (apply K.s_pure; (first | (apply Y.mv; exact X.mv) | (apply Y.sg; exact X.sg) | (apply Y.pk; exact X.pk) | (apply Y.ex; exact X.ex) | (apply Y.nt; exact X.nt) | (apply Y.beql; exact X.beql) | (apply Y.bneq; exact X.bneq)); exact rfl) | refine X.l ?_ | refine X.w ?_ | refine X.a ?_ | (refine K.c_condD rfl (fun hc => ?_) (fun hc => ?_) <;> first | (exfalso; omega) | skip) | refine K.c_cond rfl (fun hc => ?_) (fun hc => ?_) | (refine K.s_guardD rfl rfl (fun hc => ?_) (fun hc => ?_) <;> first | (exfalso; omega) | skip) | refine K.s_guard rfl rfl (fun hc => ?_) (fun hc => ?_)))
      refine K.l_call (Fx.cal rfl) rfl (awake h7) (K.pp [] rfl) rfl ?_
      rintro w h8 H' le9 ⟨rfl, rfl⟩
      simp only [List.set_cons_zero, List.set_cons_succ, List.eraseIdx_cons_zero, List.eraseIdx_cons_succ, List.cons_append, List.nil_append]
      (repeat' (first | (apply K.s_pure; (first | (apply Y.mv; exact X.mv) | (apply Y.sg; exact X.sg) | (apply Y.pk; exact X.pk) | (apply Y.ex; exact X.ex) | (apply Y.nt; exact X.nt) | (apply Y.beql; exact X.beql) | (apply Y.bneq; exact X.bneq)); exact rfl) | refine X.l ?_ | refine X.w ?_ | refine X.a ?_ | (refine K.c_condD rfl (fun hc => ?_) (fun hc => ?_) <;> first | (exfalso; omega) | skip) | refine K.c_cond rfl (fun hc => ?_) (fun hc => ?_) | (refine K.s_guardD rfl rfl (fun hc => ?_) (fun hc => ?_) <;> first | (exfalso; omega) | skip) | refine K.s_guard rfl rfl (fun hc => ?_) (fun hc => ?_)))
      refine K.AT.drop ?_
      refine K.done (by first | exact Or.inl rfl | exact Or.inr rfl) rfl (le8.trans le9) (H' := []) rfl ⟨rfl, rfl⟩
end Go.Proofs.Ythdiokdaaofebaa.Rw
