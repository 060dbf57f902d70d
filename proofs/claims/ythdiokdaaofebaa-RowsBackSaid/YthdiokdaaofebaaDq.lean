/-
  The walk of layer 5's statement RowsDecode. Conditions: each theorem's own.
-/
import Derived.Test.YthdiokdaaofebaaDp
import Derived.Test.YthdiokdaaofebaaKC

namespace Go.Proofs.Ythdiokdaaofebaa.Rw
open Go Go.K Go.Proofs Go.Proofs.Ythdiokdaaofebaa
set_option linter.unusedVariables false
set_option linter.unusedSimpArgs false
set_option maxRecDepth 10000

/-- Two owned rows, are they the same? -/
theorem SameOwn (h : Base) (a1 a2 : Option Nat) (c1 c2 : Nat) (x y : List Val) (hx : x.length ≤ 9223372036854775807) (hy : y.length ≤ 9223372036854775807) :
    TrV Try.prog 21 [bufV a1 x.length c1, bufV a2 y.length c2] h [bufA 40 3 a1 x.length c1 (x.map cV).flatten, bufA 40 3 a2 y.length c2 (y.map cV).flatten] (.bool (decide (x = y))) [bufA 40 3 a1 x.length c1 (x.map cV).flatten, bufA 40 3 a2 y.length c2 (y.map cV).flatten] := by
  have h1 := TrV.row (P := Try.prog) (f := 21) (args := [bufV a1 x.length c1, bufV a2 y.length c2]) (h := h) (v := .bool (decide (x = y))) (T := 40) (sz := 3) (a := a1) (cap := c1) (es := x.map cV) (R' := [bufA 40 3 a2 y.length c2 (y.map cV).flatten]) (flat_map x) (fun K hK => by
    have h2 := TrV.row (P := Try.prog) (f := 21) (args := [bufV a1 x.length c1, bufV a2 y.length c2]) (h := h) (v := .bool (decide (x = y))) (T := 40) (sz := 3) (a := a2) (cap := c2) (es := y.map cV) (R' := K) (flat_map y) (fun K2 hK2 => by
      rw [List.length_map] at hK hK2
      exact Same h (K2 ++ K) _ _ x y (hK.sub fun A hA => List.mem_append_right _ hA) (hK2.sub fun A hA => List.mem_append_left _ hA) hx hy)
    rw [List.length_map] at h2
    exact TrV.perm (List.perm_append_comm (l₁ := K) (l₂ := [_])) (List.perm_append_comm (l₁ := [_]) (l₂ := K)) h2)
  rw [List.length_map] at h1
  exact h1

def nine : Val := ⟨9, 0, ⟨#[]⟩⟩
theorem lent_nilV (h : Base) : SL h 3 (.slice none 0 0) (([] : List Val).map cV) := .inl ⟨none, 0, rfl, rfl⟩

set_option maxHeartbeats 4000000 in
theorem RowsDecode (h : Base) (v : Value) (l : List Col) (s : ByteArray) (hv : SL h 3 v (l.map cC)) (hw : ∀ c ∈ l, wfC c) (hl : l.length * 32 ≤ 140737488351232) (hs : s.size ≤ 9223372036854775807) :
    Tr Try.prog 5 [v, .string s] h [] (fun u h' H' => u = .bool true ∧ H' = []) := by
  have hll : l.length ≤ 9223372036854775806 := by omega
  have hll' : l.length ≤ 9223372036854775807 := by omega
  refine K.enter Try.func5 rfl (Nat.le_of_ble_eq_true rfl) (fun F => ?_)
  simp only [List.nil_append]
  (repeat' (first | (apply K.s_pure; (first | (apply Y.mv; exact X.mv) | (apply Y.sg; exact X.sg) | (apply Y.pk; exact X.pk) | (apply Y.ex; exact X.ex) | (apply Y.ia; exact X.ia) | (apply Y.bd; exact X.bd) | (apply Y.len; exact X.len) | (apply Y.nt; exact X.nt) | (apply Y.badd; exact X.badd) | (apply Y.bneq; exact X.bneq) | (apply Y.blss; exact X.blss)); exact rfl) | refine X.l ?_ | refine X.w ?_ | refine X.a ?_ | (refine K.c_condD rfl (fun hc => ?_) (fun hc => ?_) <;> first | (exfalso; omega) | skip) | refine K.c_cond rfl (fun hc => ?_) (fun hc => ?_) | (refine K.s_guardD rfl rfl (fun hc => ?_) (fun hc => ?_) <;> first | (exfalso; omega) | skip) | refine K.s_guard rfl rfl (fun hc => ?_) (fun hc => ?_)))
  refine K.l_call (Fx.cal rfl) rfl (lent_cC h v l hv hl) (K.pp [] rfl) rfl ?_
  rintro w h1 H' le1 ⟨rfl, ao, cap, rfl, hcap, hsl⟩
  have hb1 := lent_base hsl
  have hrl : (decP l s.data.toList).1.length ≤ 16 := decP_len l s.data.toList
  generalize hr : decP l s.data.toList = r at hrl
  obtain ⟨row, e⟩ := r
  dsimp only at hrl
  simp only [List.set_cons_zero, List.set_cons_succ, List.eraseIdx_cons_zero, List.eraseIdx_cons_succ, List.cons_append, List.nil_append]
  (repeat' (first | (apply K.s_pure; (first | (apply Y.mv; exact X.mv) | (apply Y.sg; exact X.sg) | (apply Y.pk; exact X.pk) | (apply Y.ex; exact X.ex) | (apply Y.ia; exact X.ia) | (apply Y.bd; exact X.bd) | (apply Y.len; exact X.len) | (apply Y.nt; exact X.nt) | (apply Y.badd; exact X.badd) | (apply Y.bneq; exact X.bneq) | (apply Y.blss; exact X.blss)); exact rfl) | refine X.l ?_ | refine X.w ?_ | refine X.a ?_ | (refine K.c_condD rfl (fun hc => ?_) (fun hc => ?_) <;> first | (exfalso; omega) | skip) | refine K.c_cond rfl (fun hc => ?_) (fun hc => ?_) | (refine K.s_guardD rfl rfl (fun hc => ?_) (fun hc => ?_) <;> first | (exfalso; omega) | skip) | refine K.s_guard rfl rfl (fun hc => ?_) (fun hc => ?_)))
  refine K.l_call (Fx.cal rfl) rfl (Decode h1 _ l s hb1 hw hll' hs) (K.pp [] rfl) rfl ?_
  rintro w h2 H' le2 ⟨a1, c1, rfl, rfl⟩
  rw [hr]
  simp only [List.set_cons_zero, List.set_cons_succ, List.eraseIdx_cons_zero, List.eraseIdx_cons_succ, List.cons_append, List.nil_append]
  (repeat' (first | (apply K.s_pure; (first | (apply Y.mv; exact X.mv) | (apply Y.sg; exact X.sg) | (apply Y.pk; exact X.pk) | (apply Y.ex; exact X.ex) | (apply Y.ia; exact X.ia) | (apply Y.bd; exact X.bd) | (apply Y.len; exact X.len) | (apply Y.nt; exact X.nt) | (apply Y.badd; exact X.badd) | (apply Y.bneq; exact X.bneq) | (apply Y.blss; exact X.blss)); exact rfl) | refine X.l ?_ | refine X.w ?_ | refine X.a ?_ | (refine K.c_condD rfl (fun hc => ?_) (fun hc => ?_) <;> first | (exfalso; omega) | skip) | refine K.c_cond rfl (fun hc => ?_) (fun hc => ?_) | (refine K.s_guardD rfl rfl (fun hc => ?_) (fun hc => ?_) <;> first | (exfalso; omega) | skip) | refine K.s_guard rfl rfl (fun hc => ?_) (fun hc => ?_)))
  refine K.l_call (Fx.cal rfl) rfl (Decode h2 _ l s (hb1.le le2) hw hll' hs) (K.pp [] rfl) rfl ?_
  rintro w h3 H' le3 ⟨a2, c2, rfl, rfl⟩
  rw [hr]
  simp only [List.set_cons_zero, List.set_cons_succ, List.eraseIdx_cons_zero, List.eraseIdx_cons_succ, List.cons_append, List.nil_append]
  (repeat' (first | (apply K.s_pure; (first | (apply Y.mv; exact X.mv) | (apply Y.sg; exact X.sg) | (apply Y.pk; exact X.pk) | (apply Y.ex; exact X.ex) | (apply Y.ia; exact X.ia) | (apply Y.bd; exact X.bd) | (apply Y.len; exact X.len) | (apply Y.nt; exact X.nt) | (apply Y.badd; exact X.badd) | (apply Y.bneq; exact X.bneq) | (apply Y.blss; exact X.blss)); exact rfl) | refine X.l ?_ | refine X.w ?_ | refine X.a ?_ | (refine K.c_condD rfl (fun hc => ?_) (fun hc => ?_) <;> first | (exfalso; omega) | skip) | refine K.c_cond rfl (fun hc => ?_) (fun hc => ?_) | (refine K.s_guardD rfl rfl (fun hc => ?_) (fun hc => ?_) <;> first | (exfalso; omega) | skip) | refine K.s_guard rfl rfl (fun hc => ?_) (fun hc => ?_)))
  refine K.l_call (Fx.cal rfl) rfl (RefDecode h3 v l s (((hv.le le1).le le2).le le3) hw hll' hs) (K.pp [] rfl) rfl ?_
  rintro w h4 H' le4 ⟨a3, c3, rfl, rfl⟩
  rw [hr]
  simp only [List.set_cons_zero, List.set_cons_succ, List.eraseIdx_cons_zero, List.eraseIdx_cons_succ, List.cons_append, List.nil_append]
  simp only [eV]
  (repeat' (first | (apply K.s_pure; (first | (apply Y.mv; exact X.mv) | (apply Y.sg; exact X.sg) | (apply Y.pk; exact X.pk) | (apply Y.ex; exact X.ex) | (apply Y.ia; exact X.ia) | (apply Y.bd; exact X.bd) | (apply Y.len; exact X.len) | (apply Y.nt; exact X.nt) | (apply Y.badd; exact X.badd) | (apply Y.bneq; exact X.bneq) | (apply Y.blss; exact X.blss)); exact rfl) | refine X.l ?_ | refine X.w ?_ | refine X.a ?_ | (refine K.c_condD rfl (fun hc => ?_) (fun hc => ?_) <;> first | (exfalso; omega) | skip) | refine K.c_cond rfl (fun hc => ?_) (fun hc => ?_) | (refine K.s_guardD rfl rfl (fun hc => ?_) (fun hc => ?_) <;> first | (exfalso; omega) | skip) | refine K.s_guard rfl rfl (fun hc => ?_) (fun hc => ?_)))
  refine K.l_callV (Fx.cal rfl) rfl (SameOwn h4 a1 a3 c1 c3 row row (by omega) (by omega)) (K.pp [2, 0] rfl) rfl rfl ?_
  rw [decide_eq_true (rfl : row = row)]
  simp only [List.set_cons_zero, List.set_cons_succ, List.eraseIdx_cons_zero, List.eraseIdx_cons_succ, List.cons_append, List.nil_append]
  (repeat' (first | (apply K.s_pure; (first | (apply Y.mv; exact X.mv) | (apply Y.sg; exact X.sg) | (apply Y.pk; exact X.pk) | (apply Y.ex; exact X.ex) | (apply Y.ia; exact X.ia) | (apply Y.bd; exact X.bd) | (apply Y.len; exact X.len) | (apply Y.nt; exact X.nt) | (apply Y.badd; exact X.badd) | (apply Y.bneq; exact X.bneq) | (apply Y.blss; exact X.blss)); exact rfl) | refine X.l ?_ | refine X.w ?_ | refine X.a ?_ | (refine K.c_condD rfl (fun hc => ?_) (fun hc => ?_) <;> first | (exfalso; omega) | skip) | refine K.c_cond rfl (fun hc => ?_) (fun hc => ?_) | (refine K.s_guardD rfl rfl (fun hc => ?_) (fun hc => ?_) <;> first | (exfalso; omega) | skip) | refine K.s_guard rfl rfl (fun hc => ?_) (fun hc => ?_)))
  refine K.l_callV (Fx.cal rfl) rfl (SameOwn h4 a2 a3 c2 c3 row row (by omega) (by omega)) (K.pp [2, 1] rfl) rfl rfl ?_
  rw [decide_eq_true (rfl : row = row)]
  simp only [List.set_cons_zero, List.set_cons_succ, List.eraseIdx_cons_zero, List.eraseIdx_cons_succ, List.cons_append, List.nil_append]
  (repeat' (first | (apply K.s_pure; (first | (apply Y.mv; exact X.mv) | (apply Y.sg; exact X.sg) | (apply Y.pk; exact X.pk) | (apply Y.ex; exact X.ex) | (apply Y.ia; exact X.ia) | (apply Y.bd; exact X.bd) | (apply Y.len; exact X.len) | (apply Y.nt; exact X.nt) | (apply Y.badd; exact X.badd) | (apply Y.bneq; exact X.bneq) | (apply Y.blss; exact X.blss)); exact rfl) | refine X.l ?_ | refine X.w ?_ | refine X.a ?_ | (refine K.c_condD rfl (fun hc => ?_) (fun hc => ?_) <;> first | (exfalso; omega) | skip) | refine K.c_cond rfl (fun hc => ?_) (fun hc => ?_) | (refine K.s_guardD rfl rfl (fun hc => ?_) (fun hc => ?_) <;> first | (exfalso; omega) | skip) | refine K.s_guard rfl rfl (fun hc => ?_) (fun hc => ?_)))
  refine K.l_call (Fx.cal rfl) rfl (lent_cV h4 _ [] (lent_nilV h4) (by simp)) (K.pp [] rfl) rfl ?_
  rintro w h5 H' le5 ⟨rfl, ao2, cap2, rfl, hcap2, hsl2⟩
  have hsl' := (((hsl.le le2).le le3).le le4).le le5
  have hv' := ((((hv.le le1).le le2).le le3).le le4).le le5
  simp only [List.set_cons_zero, List.set_cons_succ, List.eraseIdx_cons_zero, List.eraseIdx_cons_succ, List.cons_append, List.nil_append]
  (repeat' (first | (apply K.s_pure; (first | (apply Y.mv; exact X.mv) | (apply Y.sg; exact X.sg) | (apply Y.pk; exact X.pk) | (apply Y.ex; exact X.ex) | (apply Y.ia; exact X.ia) | (apply Y.bd; exact X.bd) | (apply Y.len; exact X.len) | (apply Y.nt; exact X.nt) | (apply Y.badd; exact X.badd) | (apply Y.bneq; exact X.bneq) | (apply Y.blss; exact X.blss)); exact rfl) | refine X.l ?_ | refine X.w ?_ | refine X.a ?_ | (refine K.c_condD rfl (fun hc => ?_) (fun hc => ?_) <;> first | (exfalso; omega) | skip) | refine K.c_cond rfl (fun hc => ?_) (fun hc => ?_) | (refine K.s_guardD rfl rfl (fun hc => ?_) (fun hc => ?_) <;> first | (exfalso; omega) | skip) | refine K.s_guard rfl rfl (fun hc => ?_) (fun hc => ?_)))
  refine K.l_callV (Fx.cal rfl) rfl (kept h5 ao ao2 cap cap2 v _ l [] hsl' hcap hsl2 hcap2 hv' (lent_nilV h5) hll (by simp)) (K.pp [] rfl) rfl rfl ?_
  simp only [List.set_cons_zero, List.set_cons_succ, List.eraseIdx_cons_zero, List.eraseIdx_cons_succ, List.cons_append, List.nil_append]
  (repeat' (first | (apply K.s_pure; (first | (apply Y.mv; exact X.mv) | (apply Y.sg; exact X.sg) | (apply Y.pk; exact X.pk) | (apply Y.ex; exact X.ex) | (apply Y.ia; exact X.ia) | (apply Y.bd; exact X.bd) | (apply Y.len; exact X.len) | (apply Y.nt; exact X.nt) | (apply Y.badd; exact X.badd) | (apply Y.bneq; exact X.bneq) | (apply Y.blss; exact X.blss)); exact rfl) | refine X.l ?_ | refine X.w ?_ | refine X.a ?_ | (refine K.c_condD rfl (fun hc => ?_) (fun hc => ?_) <;> first | (exfalso; omega) | skip) | refine K.c_cond rfl (fun hc => ?_) (fun hc => ?_) | (refine K.s_guardD rfl rfl (fun hc => ?_) (fun hc => ?_) <;> first | (exfalso; omega) | skip) | refine K.s_guard rfl rfl (fun hc => ?_) (fun hc => ?_)))
  refine K.WC.perm (K.pp [2] rfl) ?_
  refine K.c_loop (σ := Nat × List Val) (fun q => [(6, bufV a1 q.2.length c1), (8, bufV a2 row.length c2), (10, bufV a3 row.length c3), (12, .int .i64 q.1)]) (fun _ => h5)
    (fun q => bufA 40 3 a1 q.2.length c1 (q.2.map cV).flatten :: bufA 40 3 a2 row.length c2 (row.map cV).flatten :: bufA 40 3 a3 row.length c3 (row.map cV).flatten :: F)
    (fun q => q.1 ≤ q.2.length ∧ q.2.length ≤ 16) (fun q => q.2.length - q.1) (0, row) ⟨Nat.zero_le _, hrl⟩ (by repeat (first | exact K.Sub.nil _ | refine K.Sub.cons rfl ?_)) rfl rfl ?_
  rintro ⟨i, es⟩ ⟨hi, he16⟩ KL hKL
  dsimp only at hi he16 ⊢
  by_cases hil : i < es.length
  · have hfl : (es.map cV).length = es.length := List.length_map ..
    refine K.oc_buf (fun _ (e0 : es.length = 0) _ _ => absurd hil (by omega)) ?_
    rintro bb sp fz rfl g2 g3 g4 g5 g6
    (repeat' (first | (apply K.s_pure; (first | (apply Y.mv; exact X.mv) | (apply Y.sg; exact X.sg) | (apply Y.pk; exact X.pk) | (apply Y.ex; exact X.ex) | (apply Y.ia; exact X.ia) | (apply Y.bd; exact X.bd) | (apply Y.len; exact X.len) | (apply Y.nt; exact X.nt) | (apply Y.badd; exact X.badd) | (apply Y.bneq; exact X.bneq) | (apply Y.blss; exact X.blss)); exact rfl) | refine X.l ?_ | refine X.w ?_ | refine X.a ?_ | (refine K.c_condD rfl (fun hc => ?_) (fun hc => ?_) <;> first | (exfalso; omega) | skip) | refine K.c_cond rfl (fun hc => ?_) (fun hc => ?_) | (refine K.s_guardD rfl rfl (fun hc => ?_) (fun hc => ?_) <;> first | (exfalso; omega) | skip) | refine K.s_guard rfl rfl (fun hc => ?_) (fun hc => ?_)))
    refine K.l_storeRow (s := 3) (i := i) (us := cV nine) (Fx.sz rfl) (by show some (Value.pointer (some ⟨bb, 0 + ((i : Nat) : Int).toNat * 3, none⟩)) = _; rw [Nat.zero_add]; rfl) rfl rfl (flat_map es) rfl (by omega) (fun o ho => g6 o (by rw [hfl] at ho; omega)) ?_
    rw [← List.map_set]
    (repeat' (first | (apply K.s_pure; (first | (apply Y.mv; exact X.mv) | (apply Y.sg; exact X.sg) | (apply Y.pk; exact X.pk) | (apply Y.ex; exact X.ex) | (apply Y.ia; exact X.ia) | (apply Y.bd; exact X.bd) | (apply Y.len; exact X.len) | (apply Y.nt; exact X.nt) | (apply Y.badd; exact X.badd) | (apply Y.bneq; exact X.bneq) | (apply Y.blss; exact X.blss)); exact rfl) | refine X.l ?_ | refine X.w ?_ | refine X.a ?_ | (refine K.c_condD rfl (fun hc => ?_) (fun hc => ?_) <;> first | (exfalso; omega) | skip) | refine K.c_cond rfl (fun hc => ?_) (fun hc => ?_) | (refine K.s_guardD rfl rfl (fun hc => ?_) (fun hc => ?_) <;> first | (exfalso; omega) | skip) | refine K.s_guard rfl rfl (fun hc => ?_) (fun hc => ?_)))
    have hsl3 : (es.set i nine).length = es.length := List.length_set
    have hfl3 : ((es.set i nine).map cV).flatten.length = es.length * 3 := by
      rw [K.flatten_len _ (flat_map _), List.length_map, hsl3]
    refine K.AT.shut (s := 3) (m := es.length) (cap := c1) hfl3 (by rw [List.length_append, hfl3]; rw [List.length_append, g2] at g3; exact g3) g4 g5 g6 ?_
    refine K.a_round hKL (i + 1, es.set i nine) ⟨by dsimp only; rw [hsl3]; omega, by dsimp only; rw [hsl3]; exact he16⟩ ?_ rfl ?_ (by dsimp only; rw [hsl3]; omega)
    · dsimp only
      rw [hsl3]
      exact (by repeat (first | exact K.Sub.nil _ | refine K.Sub.cons rfl ?_))
    · dsimp only
      rw [hsl3]
  · obtain rfl : i = es.length := by omega
    (repeat' (first | (apply K.s_pure; (first | (apply Y.mv; exact X.mv) | (apply Y.sg; exact X.sg) | (apply Y.pk; exact X.pk) | (apply Y.ex; exact X.ex) | (apply Y.ia; exact X.ia) | (apply Y.bd; exact X.bd) | (apply Y.len; exact X.len) | (apply Y.nt; exact X.nt) | (apply Y.badd; exact X.badd) | (apply Y.bneq; exact X.bneq) | (apply Y.blss; exact X.blss)); exact rfl) | refine X.l ?_ | refine X.w ?_ | refine X.a ?_ | (refine K.c_condD rfl (fun hc => ?_) (fun hc => ?_) <;> first | (exfalso; omega) | skip) | refine K.c_cond rfl (fun hc => ?_) (fun hc => ?_) | (refine K.s_guardD rfl rfl (fun hc => ?_) (fun hc => ?_) <;> first | (exfalso; omega) | skip) | refine K.s_guard rfl rfl (fun hc => ?_) (fun hc => ?_)))
    refine K.l_callV (Fx.cal rfl) rfl (SameOwn h5 a2 a3 c2 c3 row row (by omega) (by omega)) (K.pp [1, 1] rfl) rfl rfl ?_
    rw [decide_eq_true (rfl : row = row)]
    simp only [List.set_cons_zero, List.set_cons_succ, List.eraseIdx_cons_zero, List.eraseIdx_cons_succ, List.cons_append, List.nil_append]
    (repeat' (first | (apply K.s_pure; (first | (apply Y.mv; exact X.mv) | (apply Y.sg; exact X.sg) | (apply Y.pk; exact X.pk) | (apply Y.ex; exact X.ex) | (apply Y.ia; exact X.ia) | (apply Y.bd; exact X.bd) | (apply Y.len; exact X.len) | (apply Y.nt; exact X.nt) | (apply Y.badd; exact X.badd) | (apply Y.bneq; exact X.bneq) | (apply Y.blss; exact X.blss)); exact rfl) | refine X.l ?_ | refine X.w ?_ | refine X.a ?_ | (refine K.c_condD rfl (fun hc => ?_) (fun hc => ?_) <;> first | (exfalso; omega) | skip) | refine K.c_cond rfl (fun hc => ?_) (fun hc => ?_) | (refine K.s_guardD rfl rfl (fun hc => ?_) (fun hc => ?_) <;> first | (exfalso; omega) | skip) | refine K.s_guard rfl rfl (fun hc => ?_) (fun hc => ?_)))
    refine K.l_call (Fx.cal rfl) rfl (awake h5) (K.pp [] rfl) rfl ?_
    rintro w h6 H' le6 ⟨rfl, rfl⟩
    simp only [List.set_cons_zero, List.set_cons_succ, List.eraseIdx_cons_zero, List.eraseIdx_cons_succ, List.cons_append, List.nil_append]
    (repeat' (first | (apply K.s_pure; (first | (apply Y.mv; exact X.mv) | (apply Y.sg; exact X.sg) | (apply Y.pk; exact X.pk) | (apply Y.ex; exact X.ex) | (apply Y.ia; exact X.ia) | (apply Y.bd; exact X.bd) | (apply Y.len; exact X.len) | (apply Y.nt; exact X.nt) | (apply Y.badd; exact X.badd) | (apply Y.bneq; exact X.bneq) | (apply Y.blss; exact X.blss)); exact rfl) | refine X.l ?_ | refine X.w ?_ | refine X.a ?_ | (refine K.c_condD rfl (fun hc => ?_) (fun hc => ?_) <;> first | (exfalso; omega) | skip) | refine K.c_cond rfl (fun hc => ?_) (fun hc => ?_) | (refine K.s_guardD rfl rfl (fun hc => ?_) (fun hc => ?_) <;> first | (exfalso; omega) | skip) | refine K.s_guard rfl rfl (fun hc => ?_) (fun hc => ?_)))
    refine K.AT.sel [0, 0, 0] rfl ?_
    refine K.done (by first | exact Or.inl rfl | exact Or.inr rfl) rfl (((((le1.trans le2).trans le3).trans le4).trans le5).trans le6) (H' := []) rfl ⟨rfl, rfl⟩
end Go.Proofs.Ythdiokdaaofebaa.Rw
