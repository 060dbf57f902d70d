/-
  The walk of layer 5's statement RowsEncode. Conditions: each theorem's own.
-/
import Derived.Test.YthdiokdaaofebaaDk

namespace Go.Proofs.Ythdiokdaaofebaa.Rw
open Go Go.K Go.Proofs Go.Proofs.Ythdiokdaaofebaa
set_option linter.unusedVariables false
set_option linter.unusedSimpArgs false
set_option maxRecDepth 10000

set_option maxHeartbeats 1000000 in
theorem kept (h : Base) (ao ao2 : Option Addr) (cap cap2 : Nat) (v1 v3 : Value) (l : List Col) (r : List Val) (hC : SL h 3 (.slice ao (l.length + 1) cap) ((l ++ [markC]).map cC)) (hcap : l.length + 1 ≤ cap)
    (hV : SL h 3 (.slice ao2 (r.length + 1) cap2) ((r ++ [markV]).map cV)) (hcap2 : r.length + 1 ≤ cap2) (hv1 : SL h 3 v1 (l.map cC)) (hv3 : SL h 3 v3 (r.map cV)) (hl : l.length ≤ 9223372036854775806) (hr : r.length ≤ 9223372036854775806) :
    TrV Try.prog 18 [.slice ao l.length cap, v1, .slice ao2 r.length cap2, v3] h [] (.bool true) [] := by
  have hlen : (l.map cC).length = l.length := List.length_map ..
  have hlen2 : (r.map cV).length = r.length := List.length_map ..
  have hbC := lent_base hC
  have hbV := lent_base hV
  obtain ⟨a1, c1, rfl⟩ := hv1.len
  obtain ⟨a3, c3, rfl⟩ := hv3.len
  rw [hlen] at hv1 ⊢
  rw [hlen2] at hv3 ⊢
  have hm0 : ((l ++ [markC]).map cC)[((l.length : Nat) : Int).toNat]? = some (cC markC) := by rw [Int.toNat_natCast, List.getElem?_map, List.getElem?_append_right (Nat.le_refl _), Nat.sub_self]; rfl
  have hm1 : ((r ++ [markV]).map cV)[((r.length : Nat) : Int).toNat]? = some (cV markV) := by rw [Int.toNat_natCast, List.getElem?_map, List.getElem?_append_right (Nat.le_refl _), Nat.sub_self]; rfl
  refine K.enter Try.func18 rfl (Nat.le_of_ble_eq_true rfl) (fun F => ?_)
  simp only [List.nil_append]
  (repeat' (first | (apply K.s_pure; (first | (apply Y.mv; exact X.mv) | (apply Y.sg; exact X.sg) | (apply Y.pk; exact X.pk) | (apply Y.fa; exact X.fa) | (apply Y.ld; exact X.ld) | (apply Y.ia; exact X.ia) | (apply Y.sl; exact X.sl) | (apply Y.len; exact X.len) | (apply Y.badd; exact X.badd) | (apply Y.bneq; exact X.bneq) | (apply Y.blss; exact X.blss)); exact rfl) | refine X.l ?_ | refine X.w ?_ | refine X.a ?_ | (refine K.c_condD rfl (fun hc => ?_) (fun hc => ?_) <;> first | (exfalso; omega) | skip) | refine K.c_cond rfl (fun hc => ?_) (fun hc => ?_) | (refine K.s_guardD rfl rfl (fun hc => ?_) (fun hc => ?_) <;> first | (exfalso; omega) | skip) | refine K.s_guard rfl rfl (fun hc => ?_) (fun hc => ?_)))
  refine K.s_pure (K.p_sliceU (q := l.length + 1) (Fx.und rfl) (Fx.sz rfl) rfl rfl (by omega) hcap) rfl ?_
  (repeat' (first | (apply K.s_pure; (first | (apply Y.mv; exact X.mv) | (apply Y.sg; exact X.sg) | (apply Y.pk; exact X.pk) | (apply Y.fa; exact X.fa) | (apply Y.ld; exact X.ld) | (apply Y.ia; exact X.ia) | (apply Y.sl; exact X.sl) | (apply Y.len; exact X.len) | (apply Y.badd; exact X.badd) | (apply Y.bneq; exact X.bneq) | (apply Y.blss; exact X.blss)); exact rfl) | refine X.l ?_ | refine X.w ?_ | refine X.a ?_ | (refine K.c_condD rfl (fun hc => ?_) (fun hc => ?_) <;> first | (exfalso; omega) | skip) | refine K.c_cond rfl (fun hc => ?_) (fun hc => ?_) | (refine K.s_guardD rfl rfl (fun hc => ?_) (fun hc => ?_) <;> first | (exfalso; omega) | skip) | refine K.s_guard rfl rfl (fun hc => ?_) (fun hc => ?_)))
  refine K.s_pureE (K.p_indexL hC (Fx.und rfl) (Fx.sz rfl) rfl rfl (by omega) hm0) rfl ?_
  rintro v2 ⟨b, o, rfl, hcel⟩
  have hq := (Cels.up (K := F) hcel).2.1
  (repeat' (first | (apply K.s_pure; (first | (apply Y.mv; exact X.mv) | (apply Y.sg; exact X.sg) | (apply Y.pk; exact X.pk) | (apply Y.fa; exact X.fa) | (apply Y.ld; exact X.ld) | (apply Y.ia; exact X.ia) | (apply Y.sl; exact X.sl) | (apply Y.len; exact X.len) | (apply Y.badd; exact X.badd) | (apply Y.bneq; exact X.bneq) | (apply Y.blss; exact X.blss)); exact rfl) | refine X.l ?_ | refine X.w ?_ | refine X.a ?_ | (refine K.c_condD rfl (fun hc => ?_) (fun hc => ?_) <;> first | (exfalso; omega) | skip) | refine K.c_cond rfl (fun hc => ?_) (fun hc => ?_) | (refine K.s_guardD rfl rfl (fun hc => ?_) (fun hc => ?_) <;> first | (exfalso; omega) | skip) | refine K.s_guard rfl rfl (fun hc => ?_) (fun hc => ?_)))
  refine K.s_pure (K.p_sliceU (q := r.length + 1) (Fx.und rfl) (Fx.sz rfl) rfl rfl (by omega) hcap2) rfl ?_
  (repeat' (first | (apply K.s_pure; (first | (apply Y.mv; exact X.mv) | (apply Y.sg; exact X.sg) | (apply Y.pk; exact X.pk) | (apply Y.fa; exact X.fa) | (apply Y.ld; exact X.ld) | (apply Y.ia; exact X.ia) | (apply Y.sl; exact X.sl) | (apply Y.len; exact X.len) | (apply Y.badd; exact X.badd) | (apply Y.bneq; exact X.bneq) | (apply Y.blss; exact X.blss)); exact rfl) | refine X.l ?_ | refine X.w ?_ | refine X.a ?_ | (refine K.c_condD rfl (fun hc => ?_) (fun hc => ?_) <;> first | (exfalso; omega) | skip) | refine K.c_cond rfl (fun hc => ?_) (fun hc => ?_) | (refine K.s_guardD rfl rfl (fun hc => ?_) (fun hc => ?_) <;> first | (exfalso; omega) | skip) | refine K.s_guard rfl rfl (fun hc => ?_) (fun hc => ?_)))
  refine K.s_pureE (K.p_indexL hV (Fx.und rfl) (Fx.sz rfl) rfl rfl (by omega) hm1) rfl ?_
  rintro v4 ⟨b2, o2, rfl, hcel2⟩
  have hq2 := (Cels.up (K := F) hcel2).1
  (repeat' (first | (apply K.s_pure; (first | (apply Y.mv; exact X.mv) | (apply Y.sg; exact X.sg) | (apply Y.pk; exact X.pk) | (apply Y.fa; exact X.fa) | (apply Y.ld; exact X.ld) | (apply Y.ia; exact X.ia) | (apply Y.sl; exact X.sl) | (apply Y.len; exact X.len) | (apply Y.badd; exact X.badd) | (apply Y.bneq; exact X.bneq) | (apply Y.blss; exact X.blss)); exact rfl) | refine X.l ?_ | refine X.w ?_ | refine X.a ?_ | (refine K.c_condD rfl (fun hc => ?_) (fun hc => ?_) <;> first | (exfalso; omega) | skip) | refine K.c_cond rfl (fun hc => ?_) (fun hc => ?_) | (refine K.s_guardD rfl rfl (fun hc => ?_) (fun hc => ?_) <;> first | (exfalso; omega) | skip) | refine K.s_guard rfl rfl (fun hc => ?_) (fun hc => ?_)))
  refine K.c_loop (σ := Nat) (fun j => [(0, .slice ao l.length cap), (1, .slice a1 l.length c1), (2, .slice ao2 r.length cap2), (3, .slice a3 r.length c3), (9, .int .i64 j)]) (fun _ => h) (fun _ => F) (fun j => j ≤ l.length) (fun j => l.length - j) 0 (Nat.zero_le _) (by repeat (first | exact K.Sub.nil _ | refine K.Sub.cons rfl ?_)) rfl rfl ?_
  rintro j hj KL hKL
  by_cases hjl : j < l.length
  · have hc0 : (l.map cC)[((j : Nat) : Int).toNat]? = some (cC l[j]) := by rw [Int.toNat_natCast, List.getElem?_map, List.getElem?_eq_getElem hjl]; rfl
    generalize l[j] = x at hc0
    (repeat' (first | (apply K.s_pure; (first | (apply Y.mv; exact X.mv) | (apply Y.sg; exact X.sg) | (apply Y.pk; exact X.pk) | (apply Y.fa; exact X.fa) | (apply Y.ld; exact X.ld) | (apply Y.ia; exact X.ia) | (apply Y.sl; exact X.sl) | (apply Y.len; exact X.len) | (apply Y.badd; exact X.badd) | (apply Y.bneq; exact X.bneq) | (apply Y.blss; exact X.blss)); exact rfl) | refine X.l ?_ | refine X.w ?_ | refine X.a ?_ | (refine K.c_condD rfl (fun hc => ?_) (fun hc => ?_) <;> first | (exfalso; omega) | skip) | refine K.c_cond rfl (fun hc => ?_) (fun hc => ?_) | (refine K.s_guardD rfl rfl (fun hc => ?_) (fun hc => ?_) <;> first | (exfalso; omega) | skip) | refine K.s_guard rfl rfl (fun hc => ?_) (fun hc => ?_)))
    refine X.draw ([]) [] (.pu 0 (.pu 1 (.pu 4 (.pu 5 (.st 2 (.st 3 (.st 6 (.st 7 (.pu 8 .nil))))))))) ?_
    refine K.d_pu rfl (fun _ _ => X.mv) rfl ?_
    refine K.d_pu rfl (fun _ _ => X.mv) rfl ?_
    refine K.d_pu rfl (fun _ _ => X.mv) rfl ?_
    refine K.d_pu rfl (fun _ _ => X.mv) rfl ?_
    refine K.d_stE rfl (K.p_indexL hbC (Fx.und rfl) (Fx.sz rfl) rfl rfl (by omega) hc0) rfl ?_
    rintro v5 ⟨b5, o5, rfl, hcel5⟩
    refine K.d_st rfl (K.p_loadM (Fx.agg rfl) rfl hcel5 (Fx.sz rfl) rfl) rfl ?_
    refine K.d_stE rfl (K.p_indexL hv1 (Fx.und rfl) (Fx.sz rfl) rfl rfl (by omega) hc0) rfl ?_
    rintro v6 ⟨b6, o6, rfl, hcel6⟩
    refine K.d_st rfl (K.p_loadM (Fx.agg rfl) rfl hcel6 (Fx.sz rfl) rfl) rfl ?_
    refine K.d_pu rfl (fun _ _ => X.bneq) rfl ?_
    rw [eqC, decide_eq_true (show x.name = x.name ∧ x.kind = x.kind ∧ x.need = x.need from ⟨rfl, rfl, rfl⟩)]
    refine K.d_nil ?_
    (repeat' (first | (apply K.s_pure; (first | (apply Y.mv; exact X.mv) | (apply Y.sg; exact X.sg) | (apply Y.pk; exact X.pk) | (apply Y.fa; exact X.fa) | (apply Y.ld; exact X.ld) | (apply Y.ia; exact X.ia) | (apply Y.sl; exact X.sl) | (apply Y.len; exact X.len) | (apply Y.badd; exact X.badd) | (apply Y.bneq; exact X.bneq) | (apply Y.blss; exact X.blss)); exact rfl) | refine X.l ?_ | refine X.w ?_ | refine X.a ?_ | (refine K.c_condD rfl (fun hc => ?_) (fun hc => ?_) <;> first | (exfalso; omega) | skip) | refine K.c_cond rfl (fun hc => ?_) (fun hc => ?_) | (refine K.s_guardD rfl rfl (fun hc => ?_) (fun hc => ?_) <;> first | (exfalso; omega) | skip) | refine K.s_guard rfl rfl (fun hc => ?_) (fun hc => ?_)))
    refine K.a_round hKL (j + 1) (by omega) (by repeat (first | exact K.Sub.nil _ | refine K.Sub.cons rfl ?_)) rfl rfl (by omega)
  · obtain rfl : j = l.length := by omega
    (repeat' (first | (apply K.s_pure; (first | (apply Y.mv; exact X.mv) | (apply Y.sg; exact X.sg) | (apply Y.pk; exact X.pk) | (apply Y.fa; exact X.fa) | (apply Y.ld; exact X.ld) | (apply Y.ia; exact X.ia) | (apply Y.sl; exact X.sl) | (apply Y.len; exact X.len) | (apply Y.badd; exact X.badd) | (apply Y.bneq; exact X.bneq) | (apply Y.blss; exact X.blss)); exact rfl) | refine X.l ?_ | refine X.w ?_ | refine X.a ?_ | (refine K.c_condD rfl (fun hc => ?_) (fun hc => ?_) <;> first | (exfalso; omega) | skip) | refine K.c_cond rfl (fun hc => ?_) (fun hc => ?_) | (refine K.s_guardD rfl rfl (fun hc => ?_) (fun hc => ?_) <;> first | (exfalso; omega) | skip) | refine K.s_guard rfl rfl (fun hc => ?_) (fun hc => ?_)))
    refine K.l_callV (Fx.cal rfl) rfl (Same h [] _ _ r r hbV.k hv3.k (by omega) (by omega)) (K.pp [] rfl) rfl rfl ?_
    (repeat' (first | (apply K.s_pure; (first | (apply Y.mv; exact X.mv) | (apply Y.sg; exact X.sg) | (apply Y.pk; exact X.pk) | (apply Y.fa; exact X.fa) | (apply Y.ld; exact X.ld) | (apply Y.ia; exact X.ia) | (apply Y.sl; exact X.sl) | (apply Y.len; exact X.len) | (apply Y.badd; exact X.badd) | (apply Y.bneq; exact X.bneq) | (apply Y.blss; exact X.blss)); exact rfl) | refine X.l ?_ | refine X.w ?_ | refine X.a ?_ | (refine K.c_condD rfl (fun hc => ?_) (fun hc => ?_) <;> first | (exfalso; omega) | skip) | refine K.c_cond rfl (fun hc => ?_) (fun hc => ?_) | (refine K.s_guardD rfl rfl (fun hc => ?_) (fun hc => ?_) <;> first | (exfalso; omega) | skip) | refine K.s_guard rfl rfl (fun hc => ?_) (fun hc => ?_)))
    refine K.done (by first | exact Or.inl rfl | exact Or.inr rfl) rfl (by first | exact K.Base.le.refl _ | assumption) (H' := []) rfl ⟨?_, rfl, rfl⟩
    simp [packV]

set_option maxHeartbeats 1000000 in
theorem RowsEncode (h : Base) (v : Value) (l : List Col) (u : Value) (r : List Val) (hv : SL h 3 v (l.map cC)) (hw : ∀ c ∈ l, wfC c) (hl : l.length * 32 ≤ 140737488351232) (hu : SL h 3 u (r.map cV)) (hx : ∀ c ∈ r, wfV c) (hr : r.length * 32 ≤ 140737488351232) :
    Tr Try.prog 4 [v, u] h [] (fun u h' H' => u = .bool true ∧ H' = []) := by
  have hll : l.length ≤ 9223372036854775806 := by omega
  have hrl : r.length ≤ 9223372036854775806 := by omega
  have hll' : l.length ≤ 9223372036854775807 := by omega
  have hrl' : r.length ≤ 9223372036854775807 := by omega
  refine K.enter Try.func4 rfl (Nat.le_of_ble_eq_true rfl) (fun F => ?_)
  simp only [List.nil_append]
  (repeat' (first | (apply K.s_pure; (first | (apply Y.mv; exact X.mv) | (apply Y.sg; exact X.sg) | (apply Y.pk; exact X.pk) | (apply Y.ex; exact X.ex) | (apply Y.beql; exact X.beql)); exact rfl) | refine X.l ?_ | refine X.w ?_ | refine X.a ?_ | (refine K.c_condD rfl (fun hc => ?_) (fun hc => ?_) <;> first | (exfalso; omega) | skip) | refine K.c_cond rfl (fun hc => ?_) (fun hc => ?_) | (refine K.s_guardD rfl rfl (fun hc => ?_) (fun hc => ?_) <;> first | (exfalso; omega) | skip) | refine K.s_guard rfl rfl (fun hc => ?_) (fun hc => ?_)))
  refine K.l_call (Fx.cal rfl) rfl (lent_cC h v l hv hl) (K.pp [] rfl) rfl ?_
  rintro w h1 H' le1 ⟨rfl, ao, cap, rfl, hcap, hsl⟩
  simp only [List.set_cons_zero, List.set_cons_succ, List.eraseIdx_cons_zero, List.eraseIdx_cons_succ, List.cons_append, List.nil_append]
  (repeat' (first | (apply K.s_pure; (first | (apply Y.mv; exact X.mv) | (apply Y.sg; exact X.sg) | (apply Y.pk; exact X.pk) | (apply Y.ex; exact X.ex) | (apply Y.beql; exact X.beql)); exact rfl) | refine X.l ?_ | refine X.w ?_ | refine X.a ?_ | (refine K.c_condD rfl (fun hc => ?_) (fun hc => ?_) <;> first | (exfalso; omega) | skip) | refine K.c_cond rfl (fun hc => ?_) (fun hc => ?_) | (refine K.s_guardD rfl rfl (fun hc => ?_) (fun hc => ?_) <;> first | (exfalso; omega) | skip) | refine K.s_guard rfl rfl (fun hc => ?_) (fun hc => ?_)))
  refine K.l_call (Fx.cal rfl) rfl (lent_cV h1 u r (hu.le le1) hr) (K.pp [] rfl) rfl ?_
  rintro w h2 H' le2 ⟨rfl, ao2, cap2, rfl, hcap2, hsl2⟩
  replace hsl := hsl.le le2
  have hv2 := (hv.le le1).le le2
  have hu2 := (hu.le le1).le le2
  have hb1 := lent_base hsl
  have hb2 := lent_base hsl2
  simp only [List.set_cons_zero, List.set_cons_succ, List.eraseIdx_cons_zero, List.eraseIdx_cons_succ, List.cons_append, List.nil_append]
  (repeat' (first | (apply K.s_pure; (first | (apply Y.mv; exact X.mv) | (apply Y.sg; exact X.sg) | (apply Y.pk; exact X.pk) | (apply Y.ex; exact X.ex) | (apply Y.beql; exact X.beql)); exact rfl) | refine X.l ?_ | refine X.w ?_ | refine X.a ?_ | (refine K.c_condD rfl (fun hc => ?_) (fun hc => ?_) <;> first | (exfalso; omega) | skip) | refine K.c_cond rfl (fun hc => ?_) (fun hc => ?_) | (refine K.s_guardD rfl rfl (fun hc => ?_) (fun hc => ?_) <;> first | (exfalso; omega) | skip) | refine K.s_guard rfl rfl (fun hc => ?_) (fun hc => ?_)))
  refine K.l_callV (Fx.cal rfl) rfl (Fits h2 [] _ _ l r hb1 hb2.k hw hx hll' hrl') (K.pp [] rfl) rfl rfl ?_
  (repeat' (first | (apply K.s_pure; (first | (apply Y.mv; exact X.mv) | (apply Y.sg; exact X.sg) | (apply Y.pk; exact X.pk) | (apply Y.ex; exact X.ex) | (apply Y.beql; exact X.beql)); exact rfl) | refine X.l ?_ | refine X.w ?_ | refine X.a ?_ | (refine K.c_condD rfl (fun hc => ?_) (fun hc => ?_) <;> first | (exfalso; omega) | skip) | refine K.c_cond rfl (fun hc => ?_) (fun hc => ?_) | (refine K.s_guardD rfl rfl (fun hc => ?_) (fun hc => ?_) <;> first | (exfalso; omega) | skip) | refine K.s_guard rfl rfl (fun hc => ?_) (fun hc => ?_)))
  refine K.l_callV (Fx.cal rfl) rfl (Encode h2 _ _ l r hb1 hb2 hw hx hll' hrl') (K.pp [] rfl) rfl rfl ?_
  (repeat' (first | (apply K.s_pure; (first | (apply Y.mv; exact X.mv) | (apply Y.sg; exact X.sg) | (apply Y.pk; exact X.pk) | (apply Y.ex; exact X.ex) | (apply Y.beql; exact X.beql)); exact rfl) | refine X.l ?_ | refine X.w ?_ | refine X.a ?_ | (refine K.c_condD rfl (fun hc => ?_) (fun hc => ?_) <;> first | (exfalso; omega) | skip) | refine K.c_cond rfl (fun hc => ?_) (fun hc => ?_) | (refine K.s_guardD rfl rfl (fun hc => ?_) (fun hc => ?_) <;> first | (exfalso; omega) | skip) | refine K.s_guard rfl rfl (fun hc => ?_) (fun hc => ?_)))
  refine K.l_callV (Fx.cal rfl) rfl (RefEncode h2 v u l r hv2 hu2 hw hx hll' hrl') (K.pp [] rfl) rfl rfl ?_
  (repeat' (first | (apply K.s_pure; (first | (apply Y.mv; exact X.mv) | (apply Y.sg; exact X.sg) | (apply Y.pk; exact X.pk) | (apply Y.ex; exact X.ex) | (apply Y.beql; exact X.beql)); exact rfl) | refine X.l ?_ | refine X.w ?_ | refine X.a ?_ | (refine K.c_condD rfl (fun hc => ?_) (fun hc => ?_) <;> first | (exfalso; omega) | skip) | refine K.c_cond rfl (fun hc => ?_) (fun hc => ?_) | (refine K.s_guardD rfl rfl (fun hc => ?_) (fun hc => ?_) <;> first | (exfalso; omega) | skip) | refine K.s_guard rfl rfl (fun hc => ?_) (fun hc => ?_)))
  refine K.l_callV (Fx.cal rfl) rfl (RefFits h2 [] v u l r hv2 hu2.k hw hx hll' hrl') (K.pp [] rfl) rfl rfl ?_
  simp only [List.nil_append, eV]
  (repeat' (first | (apply K.s_pure; (first | (apply Y.mv; exact X.mv) | (apply Y.sg; exact X.sg) | (apply Y.pk; exact X.pk) | (apply Y.ex; exact X.ex) | (apply Y.beql; exact X.beql)); exact rfl) | refine X.l ?_ | refine X.w ?_ | refine X.a ?_ | (refine K.c_condD rfl (fun hc => ?_) (fun hc => ?_) <;> first | (exfalso; omega) | skip) | refine K.c_cond rfl (fun hc => ?_) (fun hc => ?_) | (refine K.s_guardD rfl rfl (fun hc => ?_) (fun hc => ?_) <;> first | (exfalso; omega) | skip) | refine K.s_guard rfl rfl (fun hc => ?_) (fun hc => ?_)))
  · refine K.l_callV (Fx.cal rfl) rfl (kept h2 ao ao2 cap cap2 v u l r hsl hcap hsl2 hcap2 hv2 hu2 hll hrl) (K.pp [] rfl) rfl rfl ?_
    (repeat' (first | (apply K.s_pure; (first | (apply Y.mv; exact X.mv) | (apply Y.sg; exact X.sg) | (apply Y.pk; exact X.pk) | (apply Y.ex; exact X.ex) | (apply Y.beql; exact X.beql)); exact rfl) | refine X.l ?_ | refine X.w ?_ | refine X.a ?_ | (refine K.c_condD rfl (fun hc => ?_) (fun hc => ?_) <;> first | (exfalso; omega) | skip) | refine K.c_cond rfl (fun hc => ?_) (fun hc => ?_) | (refine K.s_guardD rfl rfl (fun hc => ?_) (fun hc => ?_) <;> first | (exfalso; omega) | skip) | refine K.s_guard rfl rfl (fun hc => ?_) (fun hc => ?_)))
    refine K.l_call (Fx.cal rfl) rfl (awake h2) (K.pp [] rfl) rfl ?_
    rintro w h3 H' le3 ⟨rfl, rfl⟩
    (repeat' (first | (apply K.s_pure; (first | (apply Y.mv; exact X.mv) | (apply Y.sg; exact X.sg) | (apply Y.pk; exact X.pk) | (apply Y.ex; exact X.ex) | (apply Y.beql; exact X.beql)); exact rfl) | refine X.l ?_ | refine X.w ?_ | refine X.a ?_ | (refine K.c_condD rfl (fun hc => ?_) (fun hc => ?_) <;> first | (exfalso; omega) | skip) | refine K.c_cond rfl (fun hc => ?_) (fun hc => ?_) | (refine K.s_guardD rfl rfl (fun hc => ?_) (fun hc => ?_) <;> first | (exfalso; omega) | skip) | refine K.s_guard rfl rfl (fun hc => ?_) (fun hc => ?_)))
    refine K.done (by first | exact Or.inl rfl | exact Or.inr rfl) rfl ((le1.trans le2).trans le3) (H' := []) rfl ⟨rfl, rfl⟩
  · exact absurd rfl hc
end Go.Proofs.Ythdiokdaaofebaa.Rw
