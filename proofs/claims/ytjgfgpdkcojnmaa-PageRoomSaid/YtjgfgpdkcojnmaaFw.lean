/-
  How much there is room for: the statement, walked. Conditions: each theorem's own.
-/
import Derived.Test.YtjgfgpdkcojnmaaFv

namespace Go.Proofs.Ytjgfgpdkcojnmaa.Pg
open Go Go.K Go.Proofs Go.Proofs.Ytjgfgpdkcojnmaa
set_option linter.unusedVariables false
set_option linter.unusedSimpArgs false
set_option maxRecDepth 10000

theorem slot_at {l : List PCell} {j : Nat} {x : PCell} (hx : l[j]? = some x) (hj : ¬ slotQ l < j) : slotQ l = j ↔ x.used = false := by
  obtain ⟨hlt, e⟩ := List.getElem?_eq_some_iff.1 hx
  constructor
  · intro h
    have := List.findIdx_getElem (p := fun x : PCell => !x.used) (xs := l) (w := by show slotQ l < _; omega)
    simp only [Bool.not_eq_true'] at this
    rw [← e]
    have h2 : l[List.findIdx (fun x => !x.used) l]'(by show slotQ l < _; omega) = l[j] := by congr 1
    rw [← h2]; exact this
  · intro hu
    have h2 : slotQ l ≤ j := by
      unfold slotQ
      rcases Nat.lt_or_ge j (List.findIdx (fun x : PCell => !x.used) l) with h | h
      · have := List.not_of_lt_findIdx h
        rw [e, hu] at this
        simp at this
      · exact h
    omega
theorem room_nat {p : Pag} : ∃ N : Nat, roomQ p = N ∧ N ≤ 180 := by
  have : 0 ≤ roomQ p ∧ roomQ p ≤ 180 := by
    unfold roomQ
    split <;> omega
  exact ⟨(roomQ p).toNat, by omega, by omega⟩
set_option maxHeartbeats 4000000 in
theorem PageRoom (h : Base) (cs : List Value) (p : Pag) (x : Nat) (hx : PagC h cs p) (hx8 : x < 256) :
    Tr Try.prog 7 [.agg cs.toArray, .int .u8 x] h [] (fun u h' H' => u = .bool true ∧ H' = []) := by
  have hx0 := hx
  obtain ⟨hw, cv, rfl, es, hv, hel, hr⟩ := hx
  obtain ⟨ao, ca, rfl⟩ := hv.len
  rw [hel] at hv hx0 ⊢
  refine K.enter Try.func7 rfl (Nat.le_of_ble_eq_true rfl) (fun F => ?_)
  simp only [List.nil_append]
  (repeat' (first | (apply K.s_pure; (first | (apply Y.mv; exact X.mv) | (apply Y.sg; exact X.sg) | (apply Y.pk; exact X.pk) | (apply Y.ex; exact X.ex) | (apply Y.fa; exact X.fa) | (apply Y.fd; exact X.fd) | (apply Y.ld; exact X.ld) | (apply Y.ia; exact X.ia) | (apply Y.bd; exact X.bd) | (apply Y.len; exact X.len) | (apply Y.nt; exact X.nt) | (apply Y.badd; exact X.badd) | (apply Y.beql; exact X.beql) | (apply Y.bneq; exact X.bneq) | (apply Y.blss; exact X.blss) | (apply Y.bleq; exact X.bleq) | (apply Y.bgtr; exact X.bgtr) | (apply Y.bgeq; exact X.bgeq)); exact rfl) | refine X.l ?_ | refine X.w ?_ | refine X.a ?_ | (refine K.c_condD rfl (fun hc => ?_) (fun hc => ?_) <;> first | (exfalso; omega) | skip) | refine K.c_cond rfl (fun hc => ?_) (fun hc => ?_) | (refine K.s_guardD rfl rfl (fun hc => ?_) (fun hc => ?_) <;> first | (exfalso; omega) | skip) | refine K.s_guard rfl rfl (fun hc => ?_) (fun hc => ?_)))
  refine K.l_box rfl rfl rfl (fun B2 => ?_)
  (repeat' (first | (apply K.s_pure; (first | (apply Y.mv; exact X.mv) | (apply Y.sg; exact X.sg) | (apply Y.pk; exact X.pk) | (apply Y.ex; exact X.ex) | (apply Y.fa; exact X.fa) | (apply Y.fd; exact X.fd) | (apply Y.ld; exact X.ld) | (apply Y.ia; exact X.ia) | (apply Y.bd; exact X.bd) | (apply Y.len; exact X.len) | (apply Y.nt; exact X.nt) | (apply Y.badd; exact X.badd) | (apply Y.beql; exact X.beql) | (apply Y.bneq; exact X.bneq) | (apply Y.blss; exact X.blss) | (apply Y.bleq; exact X.bleq) | (apply Y.bgtr; exact X.bgtr) | (apply Y.bgeq; exact X.bgeq)); exact rfl) | refine X.l ?_ | refine X.w ?_ | refine X.a ?_ | (refine K.c_condD rfl (fun hc => ?_) (fun hc => ?_) <;> first | (exfalso; omega) | skip) | refine K.c_cond rfl (fun hc => ?_) (fun hc => ?_) | (refine K.s_guardD rfl rfl (fun hc => ?_) (fun hc => ?_) <;> first | (exfalso; omega) | skip) | refine K.s_guard rfl rfl (fun hc => ?_) (fun hc => ?_)))
  refine K.l_callV (Fx.cal rfl) rfl (Long h _ p hx0) (K.pp [] rfl) rfl rfl ?_
  simp only [List.nil_append]
  cases hlo : longQ p.cells with
  | true =>
    (repeat' (first | (apply K.s_pure; (first | (apply Y.mv; exact X.mv) | (apply Y.sg; exact X.sg) | (apply Y.pk; exact X.pk) | (apply Y.ex; exact X.ex) | (apply Y.fa; exact X.fa) | (apply Y.fd; exact X.fd) | (apply Y.ld; exact X.ld) | (apply Y.ia; exact X.ia) | (apply Y.bd; exact X.bd) | (apply Y.len; exact X.len) | (apply Y.nt; exact X.nt) | (apply Y.badd; exact X.badd) | (apply Y.beql; exact X.beql) | (apply Y.bneq; exact X.bneq) | (apply Y.blss; exact X.blss) | (apply Y.bleq; exact X.bleq) | (apply Y.bgtr; exact X.bgtr) | (apply Y.bgeq; exact X.bgeq)); exact rfl) | refine X.l ?_ | refine X.w ?_ | refine X.a ?_ | (refine K.c_condD rfl (fun hc => ?_) (fun hc => ?_) <;> first | (exfalso; omega) | skip) | refine K.c_cond rfl (fun hc => ?_) (fun hc => ?_) | (refine K.s_guardD rfl rfl (fun hc => ?_) (fun hc => ?_) <;> first | (exfalso; omega) | skip) | refine K.s_guard rfl rfl (fun hc => ?_) (fun hc => ?_)))
    refine K.l_callV (Fx.cal rfl) rfl (Alive h) (K.pp [] rfl) rfl rfl ?_
    simp only [List.nil_append]
    (repeat' (first | (apply K.s_pure; (first | (apply Y.mv; exact X.mv) | (apply Y.sg; exact X.sg) | (apply Y.pk; exact X.pk) | (apply Y.ex; exact X.ex) | (apply Y.fa; exact X.fa) | (apply Y.fd; exact X.fd) | (apply Y.ld; exact X.ld) | (apply Y.ia; exact X.ia) | (apply Y.bd; exact X.bd) | (apply Y.len; exact X.len) | (apply Y.nt; exact X.nt) | (apply Y.badd; exact X.badd) | (apply Y.beql; exact X.beql) | (apply Y.bneq; exact X.bneq) | (apply Y.blss; exact X.blss) | (apply Y.bleq; exact X.bleq) | (apply Y.bgtr; exact X.bgtr) | (apply Y.bgeq; exact X.bgeq)); exact rfl) | refine X.l ?_ | refine X.w ?_ | refine X.a ?_ | (refine K.c_condD rfl (fun hc => ?_) (fun hc => ?_) <;> first | (exfalso; omega) | skip) | refine K.c_cond rfl (fun hc => ?_) (fun hc => ?_) | (refine K.s_guardD rfl rfl (fun hc => ?_) (fun hc => ?_) <;> first | (exfalso; omega) | skip) | refine K.s_guard rfl rfl (fun hc => ?_) (fun hc => ?_)))
    refine K.AT.drop ?_
    refine K.done (by first | exact Or.inl rfl | exact Or.inr rfl) rfl (by first | exact K.Base.le.refl _ | assumption) (H' := []) rfl ⟨rfl, rfl⟩
  | false =>
    obtain ⟨N, hN, hN180⟩ := room_nat (p := p)
    have h300 := (long_no hlo).1
    (repeat' (first | (apply K.s_pure; (first | (apply Y.mv; exact X.mv) | (apply Y.sg; exact X.sg) | (apply Y.pk; exact X.pk) | (apply Y.ex; exact X.ex) | (apply Y.fa; exact X.fa) | (apply Y.fd; exact X.fd) | (apply Y.ld; exact X.ld) | (apply Y.ia; exact X.ia) | (apply Y.bd; exact X.bd) | (apply Y.len; exact X.len) | (apply Y.nt; exact X.nt) | (apply Y.badd; exact X.badd) | (apply Y.beql; exact X.beql) | (apply Y.bneq; exact X.bneq) | (apply Y.blss; exact X.blss) | (apply Y.bleq; exact X.bleq) | (apply Y.bgtr; exact X.bgtr) | (apply Y.bgeq; exact X.bgeq)); exact rfl) | refine X.l ?_ | refine X.w ?_ | refine X.a ?_ | (refine K.c_condD rfl (fun hc => ?_) (fun hc => ?_) <;> first | (exfalso; omega) | skip) | refine K.c_cond rfl (fun hc => ?_) (fun hc => ?_) | (refine K.s_guardD rfl rfl (fun hc => ?_) (fun hc => ?_) <;> first | (exfalso; omega) | skip) | refine K.s_guard rfl rfl (fun hc => ?_) (fun hc => ?_)))
    refine K.l_callV (Fx.cal rfl) rfl (Room h _ p hx0) (K.pp [] rfl) rfl rfl ?_
    simp only [List.nil_append]
    rw [hN]
    (repeat' (first | (apply K.s_pure; (first | (apply Y.mv; exact X.mv) | (apply Y.sg; exact X.sg) | (apply Y.pk; exact X.pk) | (apply Y.ex; exact X.ex) | (apply Y.fa; exact X.fa) | (apply Y.fd; exact X.fd) | (apply Y.ld; exact X.ld) | (apply Y.ia; exact X.ia) | (apply Y.bd; exact X.bd) | (apply Y.len; exact X.len) | (apply Y.nt; exact X.nt) | (apply Y.badd; exact X.badd) | (apply Y.beql; exact X.beql) | (apply Y.bneq; exact X.bneq) | (apply Y.blss; exact X.blss) | (apply Y.bleq; exact X.bleq) | (apply Y.bgtr; exact X.bgtr) | (apply Y.bgeq; exact X.bgeq)); exact rfl) | refine X.l ?_ | refine X.w ?_ | refine X.a ?_ | (refine K.c_condD rfl (fun hc => ?_) (fun hc => ?_) <;> first | (exfalso; omega) | skip) | refine K.c_cond rfl (fun hc => ?_) (fun hc => ?_) | (refine K.s_guardD rfl rfl (fun hc => ?_) (fun hc => ?_) <;> first | (exfalso; omega) | skip) | refine K.s_guard rfl rfl (fun hc => ?_) (fun hc => ?_)))
    refine K.l_callV (Fx.cal rfl) rfl (PMay h _ p hx0) (K.pp [] rfl) rfl rfl ?_
    simp only [List.nil_append]
    by_cases hq : mayQ p = true ∧ p.kind ≠ 3
    · obtain ⟨hm, hk3⟩ := hq
      have hk12 : p.kind = 1 ∨ p.kind = 2 := by have := ((mayQ_iff p).1 hm).1; omega
      rw [hm]
      (repeat' (first | (apply K.s_pure; (first | (apply Y.mv; exact X.mv) | (apply Y.sg; exact X.sg) | (apply Y.pk; exact X.pk) | (apply Y.ex; exact X.ex) | (apply Y.fa; exact X.fa) | (apply Y.fd; exact X.fd) | (apply Y.ld; exact X.ld) | (apply Y.ia; exact X.ia) | (apply Y.bd; exact X.bd) | (apply Y.len; exact X.len) | (apply Y.nt; exact X.nt) | (apply Y.badd; exact X.badd) | (apply Y.beql; exact X.beql) | (apply Y.bneq; exact X.bneq) | (apply Y.blss; exact X.blss) | (apply Y.bleq; exact X.bleq) | (apply Y.bgtr; exact X.bgtr) | (apply Y.bgeq; exact X.bgeq)); exact rfl) | refine X.l ?_ | refine X.w ?_ | refine X.a ?_ | (refine K.c_condD rfl (fun hc => ?_) (fun hc => ?_) <;> first | (exfalso; omega) | skip) | refine K.c_cond rfl (fun hc => ?_) (fun hc => ?_) | (refine K.s_guardD rfl rfl (fun hc => ?_) (fun hc => ?_) <;> first | (exfalso; omega) | skip) | refine K.s_guard rfl rfl (fun hc => ?_) (fun hc => ?_)))
      refine K.c_loop (σ := Nat) (fun j => [(1, .int .u8 x), (2, .pointer (some ⟨B2, 0, none⟩)), (4, .bool false), (5, .int .i64 N), (6, .int .i64 (if slotQ p.cells < j then slotQ p.cells else p.cells.length : Nat)), (7, .int .i64 j)]) (fun _ => h)
        (fun _ => blk B2 26 (cP p (.slice ao p.cells.length ca)) :: F) (fun j => j ≤ p.cells.length) (fun j => p.cells.length - j) 0 (Nat.zero_le _) (by repeat (first | exact K.Sub.nil _ | refine K.Sub.cons rfl ?_)) rfl rfl ?_
      rintro j hj KL hKL
      have hsle : slotQ p.cells ≤ p.cells.length := List.findIdx_le_length
      by_cases hjl : j < p.cells.length
      · have hc1 : es[j]? = some (es[j]'(by omega)) := List.getElem?_eq_getElem (by omega)
        have hc0 : es[((j : Nat) : Int).toNat]? = some (es[j]'(by omega)) := by rw [Int.toNat_natCast]; exact hc1
        have he1 : p.cells[j]? = some p.cells[j] := List.getElem?_eq_getElem hjl
        generalize es[j]'(by omega) = c at hc0 hc1
        generalize p.cells[j] = y at he1
        obtain ⟨hkl, hdl, ao3, ca3, rfl, hbv⟩ := hr j c y hc1 he1
        have hsl := slot_at he1
        obtain ⟨t, ht⟩ : ∃ t : Nat, t = if slotQ p.cells < j then slotQ p.cells else p.cells.length := ⟨_, rfl⟩
        rw [← ht]
        (repeat' (first | (apply K.s_pure; (first | (apply Y.mv; exact X.mv) | (apply Y.sg; exact X.sg) | (apply Y.pk; exact X.pk) | (apply Y.ex; exact X.ex) | (apply Y.fa; exact X.fa) | (apply Y.fd; exact X.fd) | (apply Y.ld; exact X.ld) | (apply Y.ia; exact X.ia) | (apply Y.bd; exact X.bd) | (apply Y.len; exact X.len) | (apply Y.nt; exact X.nt) | (apply Y.badd; exact X.badd) | (apply Y.beql; exact X.beql) | (apply Y.bneq; exact X.bneq) | (apply Y.blss; exact X.blss) | (apply Y.bleq; exact X.bleq) | (apply Y.bgtr; exact X.bgtr) | (apply Y.bgeq; exact X.bgeq)); exact rfl) | refine X.l ?_ | refine X.w ?_ | refine X.a ?_ | (refine K.c_condD rfl (fun hc => ?_) (fun hc => ?_) <;> first | (exfalso; omega) | skip) | refine K.c_cond rfl (fun hc => ?_) (fun hc => ?_) | (refine K.s_guardD rfl rfl (fun hc => ?_) (fun hc => ?_) <;> first | (exfalso; omega) | skip) | refine K.s_guard rfl rfl (fun hc => ?_) (fun hc => ?_)))
        refine K.s_pureE (K.p_indexL hv (Fx.und rfl) (Fx.sz rfl) rfl rfl (by omega) hc0) rfl ?_
        rintro v2 ⟨b, o, rfl, hcel⟩
        have hq1 := (Cels.up (K := blk B2 26 (cP p (.slice ao p.cells.length ca)) :: F) hcel).1
        cases hu : y.used with
        | true =>
          rw [hu] at hq1 hsl
          (repeat' (first | (apply K.s_pure; (first | (apply Y.mv; exact X.mv) | (apply Y.sg; exact X.sg) | (apply Y.pk; exact X.pk) | (apply Y.ex; exact X.ex) | (apply Y.fa; exact X.fa) | (apply Y.fd; exact X.fd) | (apply Y.ld; exact X.ld) | (apply Y.ia; exact X.ia) | (apply Y.bd; exact X.bd) | (apply Y.len; exact X.len) | (apply Y.nt; exact X.nt) | (apply Y.badd; exact X.badd) | (apply Y.beql; exact X.beql) | (apply Y.bneq; exact X.bneq) | (apply Y.blss; exact X.blss) | (apply Y.bleq; exact X.bleq) | (apply Y.bgtr; exact X.bgtr) | (apply Y.bgeq; exact X.bgeq)); exact rfl) | refine X.l ?_ | refine X.w ?_ | refine X.a ?_ | (refine K.c_condD rfl (fun hc => ?_) (fun hc => ?_) <;> first | (exfalso; omega) | skip) | refine K.c_cond rfl (fun hc => ?_) (fun hc => ?_) | (refine K.s_guardD rfl rfl (fun hc => ?_) (fun hc => ?_) <;> first | (exfalso; omega) | skip) | refine K.s_guard rfl rfl (fun hc => ?_) (fun hc => ?_)))
          refine K.a_round hKL (j + 1) (by omega) ?_ rfl rfl (by omega)
          have : (if slotQ p.cells < j + 1 then slotQ p.cells else p.cells.length) = t := by
            have h1 : ¬ slotQ p.cells = j := fun e => by have := (hsl (by omega)).1 e; cases this
            rw [ht]
            split <;> split <;> omega
          rw [this]
          exact (by repeat (first | exact K.Sub.nil _ | refine K.Sub.cons rfl ?_))
        | false =>
          rw [hu] at hq1 hsl
          (repeat' (first | (apply K.s_pure; (first | (apply Y.mv; exact X.mv) | (apply Y.sg; exact X.sg) | (apply Y.pk; exact X.pk) | (apply Y.ex; exact X.ex) | (apply Y.fa; exact X.fa) | (apply Y.fd; exact X.fd) | (apply Y.ld; exact X.ld) | (apply Y.ia; exact X.ia) | (apply Y.bd; exact X.bd) | (apply Y.len; exact X.len) | (apply Y.nt; exact X.nt) | (apply Y.badd; exact X.badd) | (apply Y.beql; exact X.beql) | (apply Y.bneq; exact X.bneq) | (apply Y.blss; exact X.blss) | (apply Y.bleq; exact X.bleq) | (apply Y.bgtr; exact X.bgtr) | (apply Y.bgeq; exact X.bgeq)); exact rfl) | refine X.l ?_ | refine X.w ?_ | refine X.a ?_ | (refine K.c_condD rfl (fun hc => ?_) (fun hc => ?_) <;> first | (exfalso; omega) | skip) | refine K.c_cond rfl (fun hc => ?_) (fun hc => ?_) | (refine K.s_guardD rfl rfl (fun hc => ?_) (fun hc => ?_) <;> first | (exfalso; omega) | skip) | refine K.s_guard rfl rfl (fun hc => ?_) (fun hc => ?_)))
          all_goals
            refine K.a_round hKL (j + 1) (by omega) ?_ rfl rfl (by omega)
          · have : (if slotQ p.cells < j + 1 then slotQ p.cells else p.cells.length) = j := by
              split at ht
              · omega
              · have h1 := (hsl (by omega)).2 rfl
                rw [if_pos (by omega), h1]
            rw [this]
            exact (by repeat (first | exact K.Sub.nil _ | refine K.Sub.cons rfl ?_))
          · have : (if slotQ p.cells < j + 1 then slotQ p.cells else p.cells.length) = t := by
              split at ht
              · rw [if_pos (by omega), ht]
              · omega
            rw [this]
            exact (by repeat (first | exact K.Sub.nil _ | refine K.Sub.cons rfl ?_))
      · obtain rfl : j = p.cells.length := by omega
        rw [show (if slotQ p.cells < p.cells.length then slotQ p.cells else p.cells.length) = slotQ p.cells by split <;> omega]
        clear hKL
        (repeat' (first | (apply K.s_pure; (first | (apply Y.mv; exact X.mv) | (apply Y.sg; exact X.sg) | (apply Y.pk; exact X.pk) | (apply Y.ex; exact X.ex) | (apply Y.fa; exact X.fa) | (apply Y.fd; exact X.fd) | (apply Y.ld; exact X.ld) | (apply Y.ia; exact X.ia) | (apply Y.bd; exact X.bd) | (apply Y.len; exact X.len) | (apply Y.nt; exact X.nt) | (apply Y.badd; exact X.badd) | (apply Y.beql; exact X.beql) | (apply Y.bneq; exact X.bneq) | (apply Y.blss; exact X.blss) | (apply Y.bleq; exact X.bleq) | (apply Y.bgtr; exact X.bgtr) | (apply Y.bgeq; exact X.bgeq)); exact rfl) | refine X.l ?_ | refine X.w ?_ | refine X.a ?_ | (refine K.s_guardD rfl rfl (fun hc => ?_) (fun hc => ?_) <;> first | (exfalso; omega) | skip) | refine K.s_guard rfl rfl (fun hc => ?_) (fun hc => ?_)))
        refine K.c_condF (by show some (Value.bool (decide _)) = some (Value.bool false); rw [decide_eq_false (by omega)]) ?_
        (repeat' (first | (apply K.s_pure; (first | (apply Y.mv; exact X.mv) | (apply Y.sg; exact X.sg) | (apply Y.pk; exact X.pk) | (apply Y.ex; exact X.ex) | (apply Y.fa; exact X.fa) | (apply Y.fd; exact X.fd) | (apply Y.ld; exact X.ld) | (apply Y.ia; exact X.ia) | (apply Y.bd; exact X.bd) | (apply Y.len; exact X.len) | (apply Y.nt; exact X.nt) | (apply Y.badd; exact X.badd) | (apply Y.beql; exact X.beql) | (apply Y.bneq; exact X.bneq) | (apply Y.blss; exact X.blss) | (apply Y.bleq; exact X.bleq) | (apply Y.bgtr; exact X.bgtr) | (apply Y.bgeq; exact X.bgeq)); exact rfl) | refine X.l ?_ | refine X.w ?_ | refine X.a ?_ | (refine K.s_guardD rfl rfl (fun hc => ?_) (fun hc => ?_) <;> first | (exfalso; omega) | skip) | refine K.s_guard rfl rfl (fun hc => ?_) (fun hc => ?_)))
        obtain ⟨slot, hslot⟩ : ∃ slot : Nat, slot = if p.kind = 2 then 0 else slotQ p.cells := ⟨_, rfl⟩
        refine K.c_join (β := Unit) (fun _ => [(1, .int .u8 x), (2, .pointer (some ⟨B2, 0, none⟩)), (4, .bool false), (5, .int .i64 N), (6, .int .i64 slot)]) (fun _ => h) (fun _ => blk B2 26 (cP p (.slice ao p.cells.length ca)) :: F) (fun _ => True) (fun KJ hJ => ?_) (fun _ _ => ?_)
        · (repeat' (first | (apply K.s_pure; (first | (apply Y.mv; exact X.mv) | (apply Y.sg; exact X.sg) | (apply Y.pk; exact X.pk) | (apply Y.ex; exact X.ex) | (apply Y.fa; exact X.fa) | (apply Y.fd; exact X.fd) | (apply Y.ld; exact X.ld) | (apply Y.ia; exact X.ia) | (apply Y.bd; exact X.bd) | (apply Y.len; exact X.len) | (apply Y.nt; exact X.nt) | (apply Y.badd; exact X.badd) | (apply Y.beql; exact X.beql) | (apply Y.bneq; exact X.bneq) | (apply Y.blss; exact X.blss) | (apply Y.bleq; exact X.bleq) | (apply Y.bgtr; exact X.bgtr) | (apply Y.bgeq; exact X.bgeq)); exact rfl) | refine X.l ?_ | refine X.w ?_ | refine X.a ?_ | (refine K.c_condD rfl (fun hc => ?_) (fun hc => ?_) <;> first | (exfalso; omega) | skip) | refine K.c_cond rfl (fun hc => ?_) (fun hc => ?_) | (refine K.s_guardD rfl rfl (fun hc => ?_) (fun hc => ?_) <;> first | (exfalso; omega) | skip) | refine K.s_guard rfl rfl (fun hc => ?_) (fun hc => ?_)))
          · rw [if_pos (by assumption)] at hslot
            subst hslot
            refine K.a_join hJ () trivial (by repeat (first | exact K.Sub.nil _ | refine K.Sub.cons rfl ?_)) rfl rfl
          · rw [if_neg (by assumption)] at hslot
            subst hslot
            refine K.a_join hJ () trivial (by repeat (first | exact K.Sub.nil _ | refine K.Sub.cons rfl ?_)) rfl rfl
        have hs1 : p.kind = 1 → (slot : Int) = slotQ p.cells := fun e => by rw [hslot, if_neg (by omega)]
        have hs2 : p.kind = 2 → (slot : Int) = 0 := fun e => by rw [hslot, if_pos e]; rfl
        have hs64 : slot ≤ 400 := by rw [hslot]; split <;> omega
        clear hslot
        (repeat' (first | (apply K.s_pure; (first | (apply Y.mv; exact X.mv) | (apply Y.sg; exact X.sg) | (apply Y.pk; exact X.pk) | (apply Y.ex; exact X.ex) | (apply Y.fa; exact X.fa) | (apply Y.fd; exact X.fd) | (apply Y.ld; exact X.ld) | (apply Y.ia; exact X.ia) | (apply Y.bd; exact X.bd) | (apply Y.len; exact X.len) | (apply Y.nt; exact X.nt) | (apply Y.badd; exact X.badd) | (apply Y.beql; exact X.beql) | (apply Y.bneq; exact X.bneq) | (apply Y.blss; exact X.blss) | (apply Y.bleq; exact X.bleq) | (apply Y.bgtr; exact X.bgtr) | (apply Y.bgeq; exact X.bgeq)); exact rfl) | refine X.l ?_ | refine X.w ?_ | refine X.a ?_ | (refine K.s_guardD rfl rfl (fun hc => ?_) (fun hc => ?_) <;> first | (exfalso; omega) | skip) | refine K.s_guard rfl rfl (fun hc => ?_) (fun hc => ?_)))
        refine K.c_loop (σ := Nat × Base) (fun q => [(1, .int .u8 x), (2, .pointer (some ⟨B2, 0, none⟩)), (4, .bool false), (5, .int .i64 N), (6, .int .i64 slot), (8, .int .i64 q.1)]) (fun q => q.2) (fun _ => blk B2 26 (cP p (.slice ao p.cells.length ca)) :: F) (fun q => N ≤ q.1 ∧ q.1 ≤ N + 2 ∧ h.le q.2) (fun q => N + 2 - q.1) (N, h) ⟨Nat.le_refl _, by omega, K.Base.le.refl _⟩ (by repeat (first | exact K.Sub.nil _ | refine K.Sub.cons rfl ?_)) rfl rfl ?_
        rintro ⟨k, h1⟩ ⟨hk1, hk2, hle⟩ KM hKM
        dsimp only at hk1 hk2 hle ⊢
        have hx1 := hx0.le hle
        by_cases hkn : k ≤ N + 1
        · (repeat' (first | (apply K.s_pure; (first | (apply Y.mv; exact X.mv) | (apply Y.sg; exact X.sg) | (apply Y.pk; exact X.pk) | (apply Y.ex; exact X.ex) | (apply Y.fa; exact X.fa) | (apply Y.fd; exact X.fd) | (apply Y.ld; exact X.ld) | (apply Y.ia; exact X.ia) | (apply Y.bd; exact X.bd) | (apply Y.len; exact X.len) | (apply Y.nt; exact X.nt) | (apply Y.badd; exact X.badd) | (apply Y.beql; exact X.beql) | (apply Y.bneq; exact X.bneq) | (apply Y.blss; exact X.blss) | (apply Y.bleq; exact X.bleq) | (apply Y.bgtr; exact X.bgtr) | (apply Y.bgeq; exact X.bgeq)); exact rfl) | refine X.l ?_ | refine X.w ?_ | refine X.a ?_ | (refine K.s_guardD rfl rfl (fun hc => ?_) (fun hc => ?_) <;> first | (exfalso; omega) | skip) | refine K.s_guard rfl rfl (fun hc => ?_) (fun hc => ?_)))
          refine K.c_condT (by show some (Value.bool (decide _)) = some (Value.bool true); rw [decide_eq_true (by omega)]) ?_
          (repeat' (first | (apply K.s_pure; (first | (apply Y.mv; exact X.mv) | (apply Y.sg; exact X.sg) | (apply Y.pk; exact X.pk) | (apply Y.ex; exact X.ex) | (apply Y.fa; exact X.fa) | (apply Y.fd; exact X.fd) | (apply Y.ld; exact X.ld) | (apply Y.ia; exact X.ia) | (apply Y.bd; exact X.bd) | (apply Y.len; exact X.len) | (apply Y.nt; exact X.nt) | (apply Y.badd; exact X.badd) | (apply Y.beql; exact X.beql) | (apply Y.bneq; exact X.bneq) | (apply Y.blss; exact X.blss) | (apply Y.bleq; exact X.bleq) | (apply Y.bgtr; exact X.bgtr) | (apply Y.bgeq; exact X.bgeq)); exact rfl) | refine X.l ?_ | refine X.w ?_ | refine X.a ?_ | (refine K.s_guardD rfl rfl (fun hc => ?_) (fun hc => ?_) <;> first | (exfalso; omega) | skip) | refine K.s_guard rfl rfl (fun hc => ?_) (fun hc => ?_)))
          refine K.WC.nilBuf 5 1 ?_
          refine K.c_loop (σ := Nat × Option Nat × Nat) (fun q => [(1, .int .u8 x), (2, .pointer (some ⟨B2, 0, none⟩)), (4, .bool false), (5, .int .i64 N), (6, .int .i64 slot), (8, .int .i64 k), (9, bufV q.2.1 q.1 q.2.2), (10, .int .i64 q.1)]) (fun _ => h1) (fun q => bufA 5 1 q.2.1 q.1 q.2.2 ((List.replicate q.1 (UInt8.ofNat x)).map u8) :: blk B2 26 (cP p (.slice ao p.cells.length ca)) :: F) (fun q => q.1 ≤ k) (fun q => k - q.1) (0, none, 0) (Nat.zero_le _) (by repeat (first | exact K.Sub.nil _ | refine K.Sub.cons rfl ?_)) rfl rfl ?_
          rintro ⟨i, a, cap⟩ hi KN hKN
          dsimp only at hi ⊢
          by_cases hik : i < k
          · (repeat' (first | (apply K.s_pure; (first | (apply Y.mv; exact X.mv) | (apply Y.sg; exact X.sg) | (apply Y.pk; exact X.pk) | (apply Y.ex; exact X.ex) | (apply Y.fa; exact X.fa) | (apply Y.fd; exact X.fd) | (apply Y.ld; exact X.ld) | (apply Y.ia; exact X.ia) | (apply Y.bd; exact X.bd) | (apply Y.len; exact X.len) | (apply Y.nt; exact X.nt) | (apply Y.badd; exact X.badd) | (apply Y.beql; exact X.beql) | (apply Y.bneq; exact X.bneq) | (apply Y.blss; exact X.blss) | (apply Y.bleq; exact X.bleq) | (apply Y.bgtr; exact X.bgtr) | (apply Y.bgeq; exact X.bgeq)); exact rfl) | refine X.l ?_ | refine X.w ?_ | refine X.a ?_ | (refine K.c_condD rfl (fun hc => ?_) (fun hc => ?_) <;> first | (exfalso; omega) | skip) | refine K.c_cond rfl (fun hc => ?_) (fun hc => ?_) | (refine K.s_guardD rfl rfl (fun hc => ?_) (fun hc => ?_) <;> first | (exfalso; omega) | skip) | refine K.s_guard rfl rfl (fun hc => ?_) (fun hc => ?_)))
            refine X.bs (fun B9 => ?_)
            refine K.l_append_at 1 rfl (Fx.und rfl) (Fx.und rfl) rfl (Fx.sz rfl) (Fx.zr rfl) rfl (Fx.byt rfl) rfl rfl (K.src_one (K.cel_own 0 rfl rfl) rfl) (by omega) (by omega) rfl (fun a' cap' => ?_)
            simp only [List.set_cons_zero, List.set_cons_succ, List.eraseIdx_cons_zero, List.eraseIdx_cons_succ, List.cons_append, List.nil_append]
            (repeat' (first | (apply K.s_pure; (first | (apply Y.mv; exact X.mv) | (apply Y.sg; exact X.sg) | (apply Y.pk; exact X.pk) | (apply Y.ex; exact X.ex) | (apply Y.fa; exact X.fa) | (apply Y.fd; exact X.fd) | (apply Y.ld; exact X.ld) | (apply Y.ia; exact X.ia) | (apply Y.bd; exact X.bd) | (apply Y.len; exact X.len) | (apply Y.nt; exact X.nt) | (apply Y.badd; exact X.badd) | (apply Y.beql; exact X.beql) | (apply Y.bneq; exact X.bneq) | (apply Y.blss; exact X.blss) | (apply Y.bleq; exact X.bleq) | (apply Y.bgtr; exact X.bgtr) | (apply Y.bgeq; exact X.bgeq)); exact rfl) | refine X.l ?_ | refine X.w ?_ | refine X.a ?_ | (refine K.c_condD rfl (fun hc => ?_) (fun hc => ?_) <;> first | (exfalso; omega) | skip) | refine K.c_cond rfl (fun hc => ?_) (fun hc => ?_) | (refine K.s_guardD rfl rfl (fun hc => ?_) (fun hc => ?_) <;> first | (exfalso; omega) | skip) | refine K.s_guard rfl rfl (fun hc => ?_) (fun hc => ?_)))
            refine K.AT.drop (K.a_round hKN (i + 1, a', cap') (by dsimp only; omega) (by repeat (first | exact K.Sub.nil _ | refine K.Sub.cons rfl ?_)) rfl ?_ (by dsimp only; omega))
            dsimp only
            rw [List.replicate_succ', List.map_append, List.map_singleton, show u8 (UInt8.ofNat x) = .int .u8 (x : Int) by simp [u8, UInt8.toNat_ofNat', Nat.mod_eq_of_lt hx8]]
          · obtain rfl : i = k := by omega
            (repeat' (first | (apply K.s_pure; (first | (apply Y.mv; exact X.mv) | (apply Y.sg; exact X.sg) | (apply Y.pk; exact X.pk) | (apply Y.ex; exact X.ex) | (apply Y.fa; exact X.fa) | (apply Y.fd; exact X.fd) | (apply Y.ld; exact X.ld) | (apply Y.ia; exact X.ia) | (apply Y.bd; exact X.bd) | (apply Y.len; exact X.len) | (apply Y.nt; exact X.nt) | (apply Y.badd; exact X.badd) | (apply Y.beql; exact X.beql) | (apply Y.bneq; exact X.bneq) | (apply Y.blss; exact X.blss) | (apply Y.bleq; exact X.bleq) | (apply Y.bgtr; exact X.bgtr) | (apply Y.bgeq; exact X.bgeq)); exact rfl) | refine X.l ?_ | refine X.w ?_ | refine X.a ?_ | (refine K.s_guardD rfl rfl (fun hc => ?_) (fun hc => ?_) <;> first | (exfalso; omega) | skip) | refine K.s_guard rfl rfl (fun hc => ?_) (fun hc => ?_)))
            refine K.c_condF (by show some (Value.bool (decide _)) = some (Value.bool false); rw [decide_eq_false (by omega)]) ?_
            obtain ⟨l, hl⟩ : ∃ l, l = List.replicate i (UInt8.ofNat x) := ⟨_, rfl⟩
            obtain rfl : i = l.length := by rw [hl, List.length_replicate]
            rw [← hl]
            clear hl hKN hik
            refine X.w ?_
            refine X.a ?_
            refine K.AT.freezeBuf (fun h2 le2 hb2 => ?_)
            have hx2 := hx1.le le2
            by_cases hl0 : l.length = 0
            · (repeat' (first | (apply K.s_pure; (first | (apply Y.mv; exact X.mv) | (apply Y.sg; exact X.sg) | (apply Y.pk; exact X.pk) | (apply Y.ex; exact X.ex) | (apply Y.fa; exact X.fa) | (apply Y.fd; exact X.fd) | (apply Y.ld; exact X.ld) | (apply Y.ia; exact X.ia) | (apply Y.bd; exact X.bd) | (apply Y.len; exact X.len) | (apply Y.nt; exact X.nt) | (apply Y.badd; exact X.badd) | (apply Y.beql; exact X.beql) | (apply Y.bneq; exact X.bneq) | (apply Y.blss; exact X.blss) | (apply Y.bleq; exact X.bleq) | (apply Y.bgtr; exact X.bgtr) | (apply Y.bgeq; exact X.bgeq)); exact rfl) | refine X.l ?_ | refine X.w ?_ | refine X.a ?_ | (refine K.c_condD rfl (fun hc => ?_) (fun hc => ?_) <;> first | (exfalso; omega) | skip) | refine K.c_cond rfl (fun hc => ?_) (fun hc => ?_) | (refine K.s_guardD rfl rfl (fun hc => ?_) (fun hc => ?_) <;> first | (exfalso; omega) | skip) | refine K.s_guard rfl rfl (fun hc => ?_) (fun hc => ?_)))
              refine K.a_round hKM (l.length + 1, h2) ⟨by dsimp only; omega, by dsimp only; omega, hle.trans le2⟩ (by repeat (first | exact K.Sub.nil _ | refine K.Sub.cons rfl ?_)) rfl rfl (by dsimp only; omega)
            · (repeat' (first | (apply K.s_pure; (first | (apply Y.mv; exact X.mv) | (apply Y.sg; exact X.sg) | (apply Y.pk; exact X.pk) | (apply Y.ex; exact X.ex) | (apply Y.fa; exact X.fa) | (apply Y.fd; exact X.fd) | (apply Y.ld; exact X.ld) | (apply Y.ia; exact X.ia) | (apply Y.bd; exact X.bd) | (apply Y.len; exact X.len) | (apply Y.nt; exact X.nt) | (apply Y.badd; exact X.badd) | (apply Y.beql; exact X.beql) | (apply Y.bneq; exact X.bneq) | (apply Y.blss; exact X.blss) | (apply Y.bleq; exact X.bleq) | (apply Y.bgtr; exact X.bgtr) | (apply Y.bgeq; exact X.bgeq)); exact rfl) | refine X.l ?_ | refine X.w ?_ | refine X.a ?_ | (refine K.c_condD rfl (fun hc => ?_) (fun hc => ?_) <;> first | (exfalso; omega) | skip) | refine K.c_cond rfl (fun hc => ?_) (fun hc => ?_) | (refine K.s_guardD rfl rfl (fun hc => ?_) (fun hc => ?_) <;> first | (exfalso; omega) | skip) | refine K.s_guard rfl rfl (fun hc => ?_) (fun hc => ?_)))
              refine K.l_call (Fx.cal rfl) rfl (At h2 _ p _ l hx2 hb2) (K.pp [] rfl) rfl ?_
              rintro u h' H' - ⟨e, ⟨c, rfl, hc⟩, rfl⟩
              obtain rfl := e.symm
              obtain ⟨hkl, hdl, ao6, ca6, rfl, hbv⟩ := hc
              simp only [List.nil_append]
              cases hu : (atQ p.cells l).used with
              | true =>
                (repeat' (first | (apply K.s_pure; (first | (apply Y.mv; exact X.mv) | (apply Y.sg; exact X.sg) | (apply Y.pk; exact X.pk) | (apply Y.ex; exact X.ex) | (apply Y.fa; exact X.fa) | (apply Y.fd; exact X.fd) | (apply Y.ld; exact X.ld) | (apply Y.ia; exact X.ia) | (apply Y.bd; exact X.bd) | (apply Y.len; exact X.len) | (apply Y.nt; exact X.nt) | (apply Y.badd; exact X.badd) | (apply Y.beql; exact X.beql) | (apply Y.bneq; exact X.bneq) | (apply Y.blss; exact X.blss) | (apply Y.bleq; exact X.bleq) | (apply Y.bgtr; exact X.bgtr) | (apply Y.bgeq; exact X.bgeq)); exact rfl) | refine X.l ?_ | refine X.w ?_ | refine X.a ?_ | (refine K.c_condD rfl (fun hc => ?_) (fun hc => ?_) <;> first | (exfalso; omega) | skip) | refine K.c_cond rfl (fun hc => ?_) (fun hc => ?_) | (refine K.s_guardD rfl rfl (fun hc => ?_) (fun hc => ?_) <;> first | (exfalso; omega) | skip) | refine K.s_guard rfl rfl (fun hc => ?_) (fun hc => ?_)))
                refine K.a_round hKM (l.length + 1, h2) ⟨by dsimp only; omega, by dsimp only; omega, hle.trans le2⟩ (by repeat (first | exact K.Sub.nil _ | refine K.Sub.cons rfl ?_)) rfl rfl (by dsimp only; omega)
              | false =>
                have hrm := room_put (b := l) (slot := slot) hm hk12 (by omega) hs1 (fun e => ⟨hs2 e, hu⟩)
                have hwo : wfO ⟨1, slot, 0, l⟩ := ⟨(by decide : in64 1), by show in64 (slot : Int); unfold in64; omega, (by decide : (0 : Nat) < 4294967296), by show l.length ≤ _; omega⟩
                (repeat' (first | (apply K.s_pure; (first | (apply Y.mv; exact X.mv) | (apply Y.sg; exact X.sg) | (apply Y.pk; exact X.pk) | (apply Y.ex; exact X.ex) | (apply Y.fa; exact X.fa) | (apply Y.fd; exact X.fd) | (apply Y.ld; exact X.ld) | (apply Y.ia; exact X.ia) | (apply Y.bd; exact X.bd) | (apply Y.len; exact X.len) | (apply Y.nt; exact X.nt) | (apply Y.badd; exact X.badd) | (apply Y.beql; exact X.beql) | (apply Y.bneq; exact X.bneq) | (apply Y.blss; exact X.blss) | (apply Y.bleq; exact X.bleq) | (apply Y.bgtr; exact X.bgtr) | (apply Y.bgeq; exact X.bgeq)); exact rfl) | refine X.l ?_ | refine X.w ?_ | refine X.a ?_ | (refine K.c_condD rfl (fun hc => ?_) (fun hc => ?_) <;> first | (exfalso; omega) | skip) | refine K.c_cond rfl (fun hc => ?_) (fun hc => ?_) | (refine K.s_guardD rfl rfl (fun hc => ?_) (fun hc => ?_) <;> first | (exfalso; omega) | skip) | refine K.s_guard rfl rfl (fun hc => ?_) (fun hc => ?_)))
                refine K.l_call (Fx.cal rfl) rfl (Do h2 _ (cO ⟨1, slot, 0, l⟩ (bufV a l.length cap)) p ⟨1, slot, 0, l⟩ hx2 ⟨hwo, _, _, rfl, hb2⟩) (K.pp [] rfl) rfl ?_
                rintro u h' H' - ⟨e, b7, cap7, l7, hl7, hk7, rfl, rfl⟩
                obtain rfl := e.symm
                simp only [pgA, List.cons_append, List.nil_append]
                (repeat' (first | (apply K.s_pure; (first | (apply Y.mv; exact X.mv) | (apply Y.sg; exact X.sg) | (apply Y.pk; exact X.pk) | (apply Y.ex; exact X.ex) | (apply Y.fa; exact X.fa) | (apply Y.fd; exact X.fd) | (apply Y.ld; exact X.ld) | (apply Y.ia; exact X.ia) | (apply Y.bd; exact X.bd) | (apply Y.len; exact X.len) | (apply Y.nt; exact X.nt) | (apply Y.badd; exact X.badd) | (apply Y.beql; exact X.beql) | (apply Y.bneq; exact X.bneq) | (apply Y.blss; exact X.blss) | (apply Y.bleq; exact X.bleq) | (apply Y.bgtr; exact X.bgtr) | (apply Y.bgeq; exact X.bgeq)); exact rfl) | refine X.l ?_ | refine X.w ?_ | refine X.a ?_ | (refine K.c_condD rfl (fun hc => ?_) (fun hc => ?_) <;> first | (exfalso; omega) | skip) | refine K.c_cond rfl (fun hc => ?_) (fun hc => ?_) | (refine K.s_guardD rfl rfl (fun hc => ?_) (fun hc => ?_) <;> first | (exfalso; omega) | skip) | refine K.s_guard rfl rfl (fun hc => ?_) (fun hc => ?_)))
                refine K.l_alloc (Fx.zr rfl) rfl rfl (fun B11 => ?_)
                refine X.stw ?_
                simp only [List.set_cons_zero, List.set_cons_succ, List.eraseIdx_cons_zero, List.eraseIdx_cons_succ, List.cons_append, List.nil_append]
                have hrm : (doQ p ⟨1, slot, 0, l⟩).2 = if (l.length : Int) ≤ N then 0 else if l.length ≤ 180 then 4 else 1 := by rw [← hN]; exact hrm
                generalize doQ p ⟨1, slot, 0, l⟩ = r at hrm ⊢
                obtain ⟨q, e⟩ := r
                dsimp only at hrm ⊢
                rcases (by omega : l.length = N ∨ l.length = N + 1) with hlN | hlN
                · rw [if_pos (by omega)] at hrm
                  subst hrm
                  (repeat' (first | (apply K.s_pure; (first | (apply Y.mv; exact X.mv) | (apply Y.sg; exact X.sg) | (apply Y.pk; exact X.pk) | (apply Y.ex; exact X.ex) | (apply Y.fa; exact X.fa) | (apply Y.fd; exact X.fd) | (apply Y.ld; exact X.ld) | (apply Y.ia; exact X.ia) | (apply Y.bd; exact X.bd) | (apply Y.len; exact X.len) | (apply Y.nt; exact X.nt) | (apply Y.badd; exact X.badd) | (apply Y.beql; exact X.beql) | (apply Y.bneq; exact X.bneq) | (apply Y.blss; exact X.blss) | (apply Y.bleq; exact X.bleq) | (apply Y.bgtr; exact X.bgtr) | (apply Y.bgeq; exact X.bgeq)); exact rfl) | refine X.l ?_ | refine X.w ?_ | refine X.a ?_ | (refine K.c_condD rfl (fun hc => ?_) (fun hc => ?_) <;> first | (exfalso; omega) | skip) | refine K.c_cond rfl (fun hc => ?_) (fun hc => ?_) | (refine K.s_guardD rfl rfl (fun hc => ?_) (fun hc => ?_) <;> first | (exfalso; omega) | skip) | refine K.s_guard rfl rfl (fun hc => ?_) (fun hc => ?_)))
                  · exfalso
                    rw [decide_eq_true (show (l.length : Int) = N by omega)] at hc
                    exact absurd hc (by decide)
                  · refine K.AT.sel [0, 0, 0] rfl ?_
                    refine K.a_round hKM (l.length + 1, h2) ⟨by dsimp only; omega, by dsimp only; omega, hle.trans le2⟩ (by repeat (first | exact K.Sub.nil _ | refine K.Sub.cons rfl ?_)) rfl rfl (by dsimp only; omega)
                · rw [if_neg (by omega)] at hrm
                  by_cases h180 : l.length ≤ 180
                  · rw [if_pos h180] at hrm
                    subst hrm
                    (repeat' (first | (apply K.s_pure; (first | (apply Y.mv; exact X.mv) | (apply Y.sg; exact X.sg) | (apply Y.pk; exact X.pk) | (apply Y.ex; exact X.ex) | (apply Y.fa; exact X.fa) | (apply Y.fd; exact X.fd) | (apply Y.ld; exact X.ld) | (apply Y.ia; exact X.ia) | (apply Y.bd; exact X.bd) | (apply Y.len; exact X.len) | (apply Y.nt; exact X.nt) | (apply Y.badd; exact X.badd) | (apply Y.beql; exact X.beql) | (apply Y.bneq; exact X.bneq) | (apply Y.blss; exact X.blss) | (apply Y.bleq; exact X.bleq) | (apply Y.bgtr; exact X.bgtr) | (apply Y.bgeq; exact X.bgeq)); exact rfl) | refine X.l ?_ | refine X.w ?_ | refine X.a ?_ | (refine K.c_condD rfl (fun hc => ?_) (fun hc => ?_) <;> first | (exfalso; omega) | skip) | refine K.c_cond rfl (fun hc => ?_) (fun hc => ?_) | (refine K.s_guardD rfl rfl (fun hc => ?_) (fun hc => ?_) <;> first | (exfalso; omega) | skip) | refine K.s_guard rfl rfl (fun hc => ?_) (fun hc => ?_)))
                    · exfalso
                      rw [decide_eq_false (show ¬ (l.length : Int) = N by omega)] at hc
                      exact absurd hc (by decide)
                    · refine K.AT.sel [0, 0, 0] rfl ?_
                      refine K.a_round hKM (l.length + 1, h2) ⟨by dsimp only; omega, by dsimp only; omega, hle.trans le2⟩ (by repeat (first | exact K.Sub.nil _ | refine K.Sub.cons rfl ?_)) rfl rfl (by dsimp only; omega)
                  · rw [if_neg h180] at hrm
                    subst hrm
                    (repeat' (first | (apply K.s_pure; (first | (apply Y.mv; exact X.mv) | (apply Y.sg; exact X.sg) | (apply Y.pk; exact X.pk) | (apply Y.ex; exact X.ex) | (apply Y.fa; exact X.fa) | (apply Y.fd; exact X.fd) | (apply Y.ld; exact X.ld) | (apply Y.ia; exact X.ia) | (apply Y.bd; exact X.bd) | (apply Y.len; exact X.len) | (apply Y.nt; exact X.nt) | (apply Y.badd; exact X.badd) | (apply Y.beql; exact X.beql) | (apply Y.bneq; exact X.bneq) | (apply Y.blss; exact X.blss) | (apply Y.bleq; exact X.bleq) | (apply Y.bgtr; exact X.bgtr) | (apply Y.bgeq; exact X.bgeq)); exact rfl) | refine X.l ?_ | refine X.w ?_ | refine X.a ?_ | (refine K.c_condD rfl (fun hc => ?_) (fun hc => ?_) <;> first | (exfalso; omega) | skip) | refine K.c_cond rfl (fun hc => ?_) (fun hc => ?_) | (refine K.s_guardD rfl rfl (fun hc => ?_) (fun hc => ?_) <;> first | (exfalso; omega) | skip) | refine K.s_guard rfl rfl (fun hc => ?_) (fun hc => ?_)))
                    · exfalso
                      rw [decide_eq_false (show ¬ (l.length : Int) = N by omega)] at hc
                      exact absurd hc (by decide)
                    · refine K.AT.sel [0, 0, 0] rfl ?_
                      refine K.a_round hKM (l.length + 1, h2) ⟨by dsimp only; omega, by dsimp only; omega, hle.trans le2⟩ (by repeat (first | exact K.Sub.nil _ | refine K.Sub.cons rfl ?_)) rfl rfl (by dsimp only; omega)
        · (repeat' (first | (apply K.s_pure; (first | (apply Y.mv; exact X.mv) | (apply Y.sg; exact X.sg) | (apply Y.pk; exact X.pk) | (apply Y.ex; exact X.ex) | (apply Y.fa; exact X.fa) | (apply Y.fd; exact X.fd) | (apply Y.ld; exact X.ld) | (apply Y.ia; exact X.ia) | (apply Y.bd; exact X.bd) | (apply Y.len; exact X.len) | (apply Y.nt; exact X.nt) | (apply Y.badd; exact X.badd) | (apply Y.beql; exact X.beql) | (apply Y.bneq; exact X.bneq) | (apply Y.blss; exact X.blss) | (apply Y.bleq; exact X.bleq) | (apply Y.bgtr; exact X.bgtr) | (apply Y.bgeq; exact X.bgeq)); exact rfl) | refine X.l ?_ | refine X.w ?_ | refine X.a ?_ | (refine K.c_condD rfl (fun hc => ?_) (fun hc => ?_) <;> first | (exfalso; omega) | skip) | refine K.c_cond rfl (fun hc => ?_) (fun hc => ?_) | (refine K.s_guardD rfl rfl (fun hc => ?_) (fun hc => ?_) <;> first | (exfalso; omega) | skip) | refine K.s_guard rfl rfl (fun hc => ?_) (fun hc => ?_)))
          refine K.l_callV (Fx.cal rfl) rfl (Alive h1) (K.pp [] rfl) rfl rfl ?_
          simp only [List.nil_append]
          (repeat' (first | (apply K.s_pure; (first | (apply Y.mv; exact X.mv) | (apply Y.sg; exact X.sg) | (apply Y.pk; exact X.pk) | (apply Y.ex; exact X.ex) | (apply Y.fa; exact X.fa) | (apply Y.fd; exact X.fd) | (apply Y.ld; exact X.ld) | (apply Y.ia; exact X.ia) | (apply Y.bd; exact X.bd) | (apply Y.len; exact X.len) | (apply Y.nt; exact X.nt) | (apply Y.badd; exact X.badd) | (apply Y.beql; exact X.beql) | (apply Y.bneq; exact X.bneq) | (apply Y.blss; exact X.blss) | (apply Y.bleq; exact X.bleq) | (apply Y.bgtr; exact X.bgtr) | (apply Y.bgeq; exact X.bgeq)); exact rfl) | refine X.l ?_ | refine X.w ?_ | refine X.a ?_ | (refine K.c_condD rfl (fun hc => ?_) (fun hc => ?_) <;> first | (exfalso; omega) | skip) | refine K.c_cond rfl (fun hc => ?_) (fun hc => ?_) | (refine K.s_guardD rfl rfl (fun hc => ?_) (fun hc => ?_) <;> first | (exfalso; omega) | skip) | refine K.s_guard rfl rfl (fun hc => ?_) (fun hc => ?_)))
          refine K.AT.drop ?_
          refine K.done (by first | exact Or.inl rfl | exact Or.inr rfl) rfl hle (H' := []) rfl ⟨rfl, rfl⟩
    · have hN0 : N = 0 := by
        have : roomQ p = 0 := by rw [roomQ, if_neg hq]
        omega
      subst hN0
      cases hm : mayQ p with
      | false =>
        (repeat' (first | (apply K.s_pure; (first | (apply Y.mv; exact X.mv) | (apply Y.sg; exact X.sg) | (apply Y.pk; exact X.pk) | (apply Y.ex; exact X.ex) | (apply Y.fa; exact X.fa) | (apply Y.fd; exact X.fd) | (apply Y.ld; exact X.ld) | (apply Y.ia; exact X.ia) | (apply Y.bd; exact X.bd) | (apply Y.len; exact X.len) | (apply Y.nt; exact X.nt) | (apply Y.badd; exact X.badd) | (apply Y.beql; exact X.beql) | (apply Y.bneq; exact X.bneq) | (apply Y.blss; exact X.blss) | (apply Y.bleq; exact X.bleq) | (apply Y.bgtr; exact X.bgtr) | (apply Y.bgeq; exact X.bgeq)); exact rfl) | refine X.l ?_ | refine X.w ?_ | refine X.a ?_ | (refine K.c_condD rfl (fun hc => ?_) (fun hc => ?_) <;> first | (exfalso; omega) | skip) | refine K.c_cond rfl (fun hc => ?_) (fun hc => ?_) | (refine K.s_guardD rfl rfl (fun hc => ?_) (fun hc => ?_) <;> first | (exfalso; omega) | skip) | refine K.s_guard rfl rfl (fun hc => ?_) (fun hc => ?_)))
        refine K.l_callV (Fx.cal rfl) rfl (Alive h) (K.pp [] rfl) rfl rfl ?_
        simp only [List.nil_append]
        (repeat' (first | (apply K.s_pure; (first | (apply Y.mv; exact X.mv) | (apply Y.sg; exact X.sg) | (apply Y.pk; exact X.pk) | (apply Y.ex; exact X.ex) | (apply Y.fa; exact X.fa) | (apply Y.fd; exact X.fd) | (apply Y.ld; exact X.ld) | (apply Y.ia; exact X.ia) | (apply Y.bd; exact X.bd) | (apply Y.len; exact X.len) | (apply Y.nt; exact X.nt) | (apply Y.badd; exact X.badd) | (apply Y.beql; exact X.beql) | (apply Y.bneq; exact X.bneq) | (apply Y.blss; exact X.blss) | (apply Y.bleq; exact X.bleq) | (apply Y.bgtr; exact X.bgtr) | (apply Y.bgeq; exact X.bgeq)); exact rfl) | refine X.l ?_ | refine X.w ?_ | refine X.a ?_ | (refine K.c_condD rfl (fun hc => ?_) (fun hc => ?_) <;> first | (exfalso; omega) | skip) | refine K.c_cond rfl (fun hc => ?_) (fun hc => ?_) | (refine K.s_guardD rfl rfl (fun hc => ?_) (fun hc => ?_) <;> first | (exfalso; omega) | skip) | refine K.s_guard rfl rfl (fun hc => ?_) (fun hc => ?_)))
        refine K.AT.drop ?_
        refine K.done (by first | exact Or.inl rfl | exact Or.inr rfl) rfl (by first | exact K.Base.le.refl _ | assumption) (H' := []) rfl ⟨rfl, rfl⟩
      | true =>
        have hk3 : p.kind = 3 := by
          rcases Int.lt_trichotomy p.kind 3 with h | h | h
          · exact absurd ⟨hm, by omega⟩ hq
          · exact h
          · exact absurd ⟨hm, by omega⟩ hq
        (repeat' (first | (apply K.s_pure; (first | (apply Y.mv; exact X.mv) | (apply Y.sg; exact X.sg) | (apply Y.pk; exact X.pk) | (apply Y.ex; exact X.ex) | (apply Y.fa; exact X.fa) | (apply Y.fd; exact X.fd) | (apply Y.ld; exact X.ld) | (apply Y.ia; exact X.ia) | (apply Y.bd; exact X.bd) | (apply Y.len; exact X.len) | (apply Y.nt; exact X.nt) | (apply Y.badd; exact X.badd) | (apply Y.beql; exact X.beql) | (apply Y.bneq; exact X.bneq) | (apply Y.blss; exact X.blss) | (apply Y.bleq; exact X.bleq) | (apply Y.bgtr; exact X.bgtr) | (apply Y.bgeq; exact X.bgeq)); exact rfl) | refine X.l ?_ | refine X.w ?_ | refine X.a ?_ | (refine K.c_condD rfl (fun hc => ?_) (fun hc => ?_) <;> first | (exfalso; omega) | skip) | refine K.c_cond rfl (fun hc => ?_) (fun hc => ?_) | (refine K.s_guardD rfl rfl (fun hc => ?_) (fun hc => ?_) <;> first | (exfalso; omega) | skip) | refine K.s_guard rfl rfl (fun hc => ?_) (fun hc => ?_)))
        refine K.l_callV (Fx.cal rfl) rfl (Alive h) (K.pp [] rfl) rfl rfl ?_
        simp only [List.nil_append]
        (repeat' (first | (apply K.s_pure; (first | (apply Y.mv; exact X.mv) | (apply Y.sg; exact X.sg) | (apply Y.pk; exact X.pk) | (apply Y.ex; exact X.ex) | (apply Y.fa; exact X.fa) | (apply Y.fd; exact X.fd) | (apply Y.ld; exact X.ld) | (apply Y.ia; exact X.ia) | (apply Y.bd; exact X.bd) | (apply Y.len; exact X.len) | (apply Y.nt; exact X.nt) | (apply Y.badd; exact X.badd) | (apply Y.beql; exact X.beql) | (apply Y.bneq; exact X.bneq) | (apply Y.blss; exact X.blss) | (apply Y.bleq; exact X.bleq) | (apply Y.bgtr; exact X.bgtr) | (apply Y.bgeq; exact X.bgeq)); exact rfl) | refine X.l ?_ | refine X.w ?_ | refine X.a ?_ | (refine K.c_condD rfl (fun hc => ?_) (fun hc => ?_) <;> first | (exfalso; omega) | skip) | refine K.c_cond rfl (fun hc => ?_) (fun hc => ?_) | (refine K.s_guardD rfl rfl (fun hc => ?_) (fun hc => ?_) <;> first | (exfalso; omega) | skip) | refine K.s_guard rfl rfl (fun hc => ?_) (fun hc => ?_)))
        refine K.AT.drop ?_
        refine K.done (by first | exact Or.inl rfl | exact Or.inr rfl) rfl (by first | exact K.Base.le.refl _ | assumption) (H' := []) rfl ⟨rfl, rfl⟩
end Go.Proofs.Ytjgfgpdkcojnmaa.Pg
