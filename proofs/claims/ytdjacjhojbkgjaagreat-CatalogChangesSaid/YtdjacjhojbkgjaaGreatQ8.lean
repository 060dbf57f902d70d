/-
  Rows: which columns may be. Conditions: each theorem's own.
-/
import Derived.Test.YtdjacjhojbkgjaaGreatQ7
namespace Go.Proofs.YtdjacjhojbkgjaaGreat.Rw
open Go Go.K Go.Proofs Go.Proofs.YtdjacjhojbkgjaaGreat
set_option linter.unusedVariables false
set_option linter.unusedSimpArgs false
set_option maxRecDepth 10000

def okC (c : Col) : Bool := nameB c.name.data.toList && decide (1 ≤ c.kind ∧ c.kind ≤ 3)
def mayB (l : List Col) : Bool := decide (1 ≤ l.length) && decide (l.length ≤ 16) && l.all okC && decide ((l.map Col.name).Nodup)
theorem mayB_yes {l : List Col} (h1 : 1 ≤ l.length) (h2 : l.length ≤ 16) (h3 : ∀ (j : Nat) (c : Col), l[j]? = some c → okC c = true) (h4 : ∀ (i j : Nat) (ci cj : Col), i < j → l[i]? = some ci → l[j]? = some cj → ci.name ≠ cj.name) : mayB l = true := by
  have e3 : l.all okC = true := List.all_eq_true.2 fun c hc => by
    obtain ⟨j, hj, e⟩ := List.getElem_of_mem hc
    exact h3 j c (by rw [List.getElem?_eq_getElem hj, e])
  have e4 : (l.map Col.name).Nodup := List.pairwise_iff_getElem.2 fun i j hi hj hij => by
    rw [List.getElem_map, List.getElem_map]
    rw [List.length_map] at hi hj
    exact h4 i j _ _ hij (List.getElem?_eq_getElem hi) (List.getElem?_eq_getElem hj)
  rw [mayB, decide_eq_true h1, decide_eq_true h2, e3, decide_eq_true e4]; rfl
theorem mayB_len {l : List Col} (h : l.length < 1 ∨ 16 < l.length) : mayB l = false := by
  rcases h with h | h
  · rw [mayB, decide_eq_false (show ¬ 1 ≤ l.length by omega)]; simp
  · rw [mayB, decide_eq_false (show ¬ l.length ≤ 16 by omega)]; simp
theorem mayB_no1 {l : List Col} {j : Nat} {c : Col} (hc : l[j]? = some c) (h : okC c = false) : mayB l = false := by
  have e3 : l.all okC = false := List.all_eq_false.2 ⟨c, List.mem_of_getElem? hc, by rw [h]; decide⟩
  rw [mayB, e3]; simp
theorem mayB_no2 {l : List Col} {i j : Nat} {ci cj : Col} (hij : i < j) (hi : l[i]? = some ci) (hj : l[j]? = some cj) (h : ci.name = cj.name) : mayB l = false := by
  have e4 : ¬ (l.map Col.name).Nodup := fun hn => by
    obtain ⟨a1, e1⟩ := List.getElem?_eq_some_iff.1 hi
    obtain ⟨a2, e2⟩ := List.getElem?_eq_some_iff.1 hj
    have := List.pairwise_iff_getElem.1 hn i j (by simpa using a1) (by simpa using a2) hij
    rw [List.getElem_map, List.getElem_map, e1, e2] at this
    exact this h
  rw [mayB, decide_eq_false e4]; simp
theorem mayB_len16 {l : List Col} (h : mayB l = true) : 1 ≤ l.length ∧ l.length ≤ 16 := by
  simp only [mayB, Bool.and_eq_true, decide_eq_true_eq] at h
  exact ⟨h.1.1.1, h.1.1.2⟩
set_option maxHeartbeats 1000000 in
theorem May (h : Base) (v : Value) (l : List Col) (hv : SL h 3 v (l.map cC)) (hw : ∀ c ∈ l, wfC c) (hl : l.length ≤ 9223372036854775807) : TrV Tryz.prog 25 [v] h [] (.bool (mayB l)) [] := by
  have hlen : (l.map cC).length = l.length := List.length_map ..
  obtain ⟨ao, ca, rfl⟩ := hv.len
  rw [hlen] at hv ⊢
  refine K.enter Tryz.func25 rfl (Nat.le_of_ble_eq_true rfl) (fun F => ?_)
  simp only [List.nil_append]
  by_cases hno : l.length < 1 ∨ 16 < l.length
  · rw [mayB_len hno]
    (repeat' (first | refine X.rq ?_ | (refine X.rc ?_ ?_ <;> intro hc <;> first | (exfalso; omega) | skip)))
    all_goals
      refine K.done (by first | exact Or.inl rfl | exact Or.inr rfl) rfl (by first | exact K.Base.le.refl _ | assumption) (H' := []) rfl ⟨rfl, rfl, rfl⟩
  · (repeat' (first | refine X.rq ?_ | (refine X.rc ?_ ?_ <;> intro hc <;> first | (exfalso; omega) | skip)))
    refine K.c_loop (σ := Nat) (fun j => [(0, .slice ao l.length ca), (15, .slice ao l.length ca), (16, .int .i64 l.length), (17, .int .i64 j)]) (fun _ => h) (fun _ => F)
      (fun j => j ≤ l.length ∧ (∀ (i : Nat) (c : Col), i < j → l[i]? = some c → okC c = true) ∧ ∀ (i k : Nat) (ci ck : Col), i < k → k < j → l[i]? = some ci → l[k]? = some ck → ci.name ≠ ck.name) (fun j => l.length - j) 0 ⟨Nat.zero_le _, fun i c hi => by omega, fun i k ci ck hi hk => by omega⟩ (by repeat (first | exact K.Sub.nil _ | refine K.Sub.cons rfl ?_)) rfl rfl ?_
    rintro j ⟨hj, hok, hnd⟩ KL hKL
    by_cases hjl : j < l.length
    · have hc0 : (l.map cC)[((j : Nat) : Int).toNat]? = some (cC l[j]) := by rw [Int.toNat_natCast, List.getElem?_map, List.getElem?_eq_getElem hjl]; rfl
      have hc1 : l[j]? = some l[j] := List.getElem?_eq_getElem hjl
      have hwc : wfC l[j] := hw _ (List.getElem_mem hjl)
      generalize l[j] = c at hc0 hc1 hwc
      have hk1 := hwc.k1
      have hk2 := hwc.k2
      (repeat' (first | refine X.rq ?_ | (refine X.rc ?_ ?_ <;> intro hc <;> first | (exfalso; omega) | skip)))
      refine K.s_pureE (K.p_indexL hv (Fx.und rfl) (Fx.sz rfl) rfl rfl (by omega) hc0) rfl ?_
      rintro v2 ⟨b, o, rfl, hcel⟩
      refine K.s_pure (K.p_loadM (Fx.agg rfl) rfl (Cels.up hcel) (Fx.sz rfl) rfl) rfl ?_
      refine K.l_alloc (Fx.zr rfl) rfl rfl (fun B => ?_)
      (repeat' (first | refine X.rq ?_ | (refine X.rc ?_ ?_ <;> intro hc <;> first | (exfalso; omega) | skip)))
      refine X.stw ?_
      (repeat' (first | refine X.rq ?_ | (refine X.rc ?_ ?_ <;> intro hc <;> first | (exfalso; omega) | skip)))
      refine K.l_callV (Fx.cal rfl) rfl (Name h c.name hwc.s) (K.pp [] rfl) rfl rfl ?_
      simp only [List.nil_append]
      have nok : okC c = false → ∀ E, AT Tryz.prog Tryz.f25.ntmps (K.post Tryz.prog Tryz.f25 fun v w' => ∃ h' H', h.le h' ∧ (v = Value.bool (mayB l) ∧ h' = h ∧ H' = []) ∧ Ok h' (H' ++ F) w') .ret ((2, .bool false) :: E) h (blk B 39 (cC c) :: F) := fun e E => by
        rw [mayB_no1 hc1 e]
        refine K.AT.drop ?_
        refine K.done (by first | exact Or.inl rfl | exact Or.inr rfl) rfl (by first | exact K.Base.le.refl _ | assumption) (H' := []) rfl ⟨rfl, rfl, rfl⟩
      cases hn : nameB c.name.data.toList with
      | false =>
        (repeat' (first | refine X.rq ?_ | (refine X.rc ?_ ?_ <;> intro hc <;> first | (exfalso; omega) | skip)))
        exact nok (by rw [okC, hn]; rfl) _
      | true =>
        (repeat' (first | refine X.rq ?_ | (refine X.rc ?_ ?_ <;> intro hc <;> first | (exfalso; omega) | skip)))
        · exact nok (by rw [okC, decide_eq_false (by omega)]; simp) _
        · exact nok (by rw [okC, decide_eq_false (by omega)]; simp) _
        · have hokc : okC c = true := by rw [okC, hn, decide_eq_true (by omega)]; rfl
          have hcap := hv.cap (by rw [hlen]; omega)
          rw [hlen] at hcap
          have hsl := hv.take (q := j) (by rw [hlen]; omega)
          refine K.s_pure (K.p_sliceU (q := j) (Fx.und rfl) (Fx.sz rfl) rfl rfl rfl (by omega)) rfl ?_
          (repeat' (first | refine X.rq ?_ | (refine X.rc ?_ ?_ <;> intro hc <;> first | (exfalso; omega) | skip)))
          refine K.c_loop (σ := Nat) (fun k => [(0, .slice ao l.length ca), (15, .slice ao l.length ca), (16, .int .i64 l.length), (17, .int .i64 j), (3, .int .i64 j), (4, .pointer (some ⟨B, 0, none⟩)), (38, .slice ao j ca), (39, .int .i64 j), (40, .int .i64 k)]) (fun _ => h)
            (fun _ => blk B 39 (cC c) :: F) (fun k => k ≤ j ∧ ∀ (i : Nat) (ci : Col), i < k → l[i]? = some ci → ci.name ≠ c.name) (fun k => j - k) 0 ⟨Nat.zero_le _, fun i ci hi => by omega⟩ (by repeat (first | exact K.Sub.nil _ | refine K.Sub.cons rfl ?_)) rfl rfl ?_
          rintro k ⟨hk, hne⟩ KM hKM
          by_cases hkj : k < j
          · have hkl : k < l.length := by omega
            have hd0 : ((l.map cC).take j)[((k : Nat) : Int).toNat]? = some (cC l[k]) := by rw [Int.toNat_natCast, List.getElem?_take, if_pos hkj, List.getElem?_map, List.getElem?_eq_getElem hkl]; rfl
            have hd1 : l[k]? = some l[k] := List.getElem?_eq_getElem hkl
            generalize l[k] = d at hd0 hd1
            (repeat' (first | refine X.rq ?_ | (refine X.rc ?_ ?_ <;> intro hc <;> first | (exfalso; omega) | skip)))
            refine K.s_pureE (K.p_indexL hsl (Fx.und rfl) (Fx.sz rfl) rfl rfl (by omega) hd0) rfl ?_
            rintro v3 ⟨b3, o3, rfl, hcel3⟩
            refine K.s_pure (K.p_loadM (Fx.agg rfl) rfl (Cels.up hcel3) (Fx.sz rfl) rfl) rfl ?_
            refine K.l_alloc (Fx.zr rfl) rfl rfl (fun B => ?_)
            refine X.stw ?_
            (repeat' (first | refine X.rq ?_ | (refine X.rc ?_ ?_ <;> intro hc <;> first | (exfalso; omega) | skip)))
            · rw [mayB_no2 hkj hd1 hc1 hc]
              refine K.AT.sel [0, 0] rfl ?_
              refine K.done (by first | exact Or.inl rfl | exact Or.inr rfl) rfl (by first | exact K.Base.le.refl _ | assumption) (H' := []) rfl ⟨rfl, rfl, rfl⟩
            · have hx := hc
              refine K.AT.drop ?_
              refine K.a_round hKM (k + 1) ⟨by omega, fun i ci hi e => ?_⟩ (by repeat (first | exact K.Sub.nil _ | refine K.Sub.cons rfl ?_)) rfl rfl (by omega)
              by_cases hik : i < k
              · exact hne i ci hik e
              · obtain rfl : i = k := by omega
                rw [hd1] at e; cases e; exact hx
          · obtain rfl : k = j := by omega
            (repeat' (first | refine X.rq ?_ | (refine X.rc ?_ ?_ <;> intro hc <;> first | (exfalso; omega) | skip)))
            refine K.AT.drop ?_
            refine K.a_round hKL (k + 1) ⟨by omega, fun i ci hi e => ?_, fun i m ci cm him hm ei em => ?_⟩ (by repeat (first | exact K.Sub.nil _ | refine K.Sub.cons rfl ?_)) rfl rfl (by omega)
            · by_cases hik : i < k
              · exact hok i ci hik e
              · obtain rfl : i = k := by omega
                rw [hc1] at e; cases e; exact hokc
            · by_cases hmk : m < k
              · exact hnd i m ci cm him hmk ei em
              · obtain rfl : m = k := by omega
                rw [hc1] at em; cases em; exact hne i ci him ei
    · obtain rfl : j = l.length := by omega
      (repeat' (first | refine X.rq ?_ | (refine X.rc ?_ ?_ <;> intro hc <;> first | (exfalso; omega) | skip)))
      rw [mayB_yes (by omega) (by omega) (fun i c hi => hok i c (List.getElem?_eq_some_iff.1 hi).1 hi) (fun i k ci ck hik hi hk => hnd i k ci ck hik (List.getElem?_eq_some_iff.1 hk).1 hi hk)]
      refine K.done (by first | exact Or.inl rfl | exact Or.inr rfl) rfl (by first | exact K.Base.le.refl _ | assumption) (H' := []) rfl ⟨rfl, rfl, rfl⟩

set_option maxHeartbeats 1000000 in
theorem RefMay (h : Base) (v : Value) (l : List Col) (hv : SL h 3 v (l.map cC)) (hw : ∀ c ∈ l, wfC c) (hl : l.length ≤ 9223372036854775807) : TrV Tryz.prog 39 [v] h [] (.bool (mayB l)) [] := by
  have hlen : (l.map cC).length = l.length := List.length_map ..
  obtain ⟨ao, ca, rfl⟩ := hv.len
  rw [hlen] at hv ⊢
  refine K.enter Tryz.func39 rfl (Nat.le_of_ble_eq_true rfl) (fun F => ?_)
  simp only [List.nil_append]
  by_cases hno : l.length < 1 ∨ 16 < l.length
  · rw [mayB_len hno]
    (repeat' (first | refine X.rq ?_ | (refine X.rc ?_ ?_ <;> intro hc <;> first | (exfalso; omega) | skip)))
    all_goals
      refine K.done (by first | exact Or.inl rfl | exact Or.inr rfl) rfl (by first | exact K.Base.le.refl _ | assumption) (H' := []) rfl ⟨rfl, rfl, rfl⟩
  · (repeat' (first | refine X.rq ?_ | (refine X.rc ?_ ?_ <;> intro hc <;> first | (exfalso; omega) | skip)))
    refine K.c_loop (σ := Nat) (fun j => [(0, .slice ao l.length ca), (3, .int .i64 j)]) (fun _ => h) (fun _ => F)
      (fun j => j ≤ l.length ∧ (∀ (i : Nat) (c : Col), i < j → l[i]? = some c → okC c = true) ∧ ∀ (i k : Nat) (ci ck : Col), i < k → i < j → l[i]? = some ci → l[k]? = some ck → ci.name ≠ ck.name) (fun j => l.length - j) 0 ⟨Nat.zero_le _, fun i c hi => by omega, fun i k ci ck hi hk => by omega⟩ (by repeat (first | exact K.Sub.nil _ | refine K.Sub.cons rfl ?_)) rfl rfl ?_
    rintro j ⟨hj, hok, hnd⟩ KL hKL
    by_cases hjl : j < l.length
    · have hc0 : (l.map cC)[((j : Nat) : Int).toNat]? = some (cC l[j]) := by rw [Int.toNat_natCast, List.getElem?_map, List.getElem?_eq_getElem hjl]; rfl
      have hc1 : l[j]? = some l[j] := List.getElem?_eq_getElem hjl
      have hwc : wfC l[j] := hw _ (List.getElem_mem hjl)
      generalize l[j] = c at hc0 hc1 hwc
      have hk1 := hwc.k1
      have hk2 := hwc.k2
      (repeat' (first | refine X.rq ?_ | (refine X.rc ?_ ?_ <;> intro hc <;> first | (exfalso; omega) | skip)))
      refine K.s_pureE (K.p_indexL hv (Fx.und rfl) (Fx.sz rfl) rfl rfl (by omega) hc0) rfl ?_
      rintro v2 ⟨b, o, rfl, hcel⟩
      have hq1 := (Cels.up (K := F) hcel).2.1
      (repeat' (first | refine X.rq ?_ | (refine X.rc ?_ ?_ <;> intro hc <;> first | (exfalso; omega) | skip)))
      refine K.s_pureE (K.p_indexL hv (Fx.und rfl) (Fx.sz rfl) rfl rfl (by omega) hc0) rfl ?_
      rintro v3 ⟨b3, o3, rfl, hcel3⟩
      have hq2 := (Cels.up (K := F) hcel3).1
      (repeat' (first | refine X.rq ?_ | (refine X.rc ?_ ?_ <;> intro hc <;> first | (exfalso; omega) | skip)))
      refine K.l_callV (Fx.cal rfl) rfl (RefName h c.name hwc.s) (K.pp [] rfl) rfl rfl ?_
      simp only [List.nil_append]
      have nok : okC c = false → ∀ E, AT Tryz.prog Tryz.f39.ntmps (K.post Tryz.prog Tryz.f39 fun v w' => ∃ h' H', h.le h' ∧ (v = Value.bool (mayB l) ∧ h' = h ∧ H' = []) ∧ Ok h' (H' ++ F) w') .ret ((2, .bool false) :: E) h F := fun e E => by
        rw [mayB_no1 hc1 e]
        refine K.done (by first | exact Or.inl rfl | exact Or.inr rfl) rfl (by first | exact K.Base.le.refl _ | assumption) (H' := []) rfl ⟨rfl, rfl, rfl⟩
      cases hn : nameB c.name.data.toList with
      | false =>
        (repeat' (first | refine X.rq ?_ | (refine X.rc ?_ ?_ <;> intro hc <;> first | (exfalso; omega) | skip)))
        exact nok (by rw [okC, hn]; rfl) _
      | true =>
        by_cases hkd : 1 ≤ c.kind ∧ c.kind ≤ 3
        · have hokc : okC c = true := by rw [okC, hn, decide_eq_true hkd]; rfl
          (repeat' (first | refine X.rq ?_ | (refine X.rc ?_ ?_ <;> intro hc <;> first | (exfalso; omega) | skip)))
          all_goals
            refine K.c_loop (σ := Nat) (fun k => [(0, .slice ao l.length ca), (3, .int .i64 j), (5, .int .i64 k)]) (fun _ => h) (fun _ => F)
              (fun k => j < k ∧ k ≤ l.length ∧ ∀ (i : Nat) (ci : Col), j < i → i < k → l[i]? = some ci → c.name ≠ ci.name) (fun k => l.length - k) (j + 1) ⟨Nat.lt_succ_self _, by omega, fun i ci h1 h2 => by omega⟩ (by repeat (first | exact K.Sub.nil _ | refine K.Sub.cons rfl ?_)) rfl rfl ?_
            rintro k ⟨hk0, hk, hne⟩ KM hKM
            by_cases hkl : k < l.length
            · have hd0 : (l.map cC)[((k : Nat) : Int).toNat]? = some (cC l[k]) := by rw [Int.toNat_natCast, List.getElem?_map, List.getElem?_eq_getElem hkl]; rfl
              have hd1 : l[k]? = some l[k] := List.getElem?_eq_getElem hkl
              generalize l[k] = d at hd0 hd1
              (repeat' (first | refine X.rq ?_ | (refine X.rc ?_ ?_ <;> intro hc <;> first | (exfalso; omega) | skip)))
              refine X.draw ([]) [] (.pu 0 (.pu 1 (.pu 5 (.pu 6 (.st 2 (.pu 3 (.st 4 (.st 7 (.pu 8 (.st 9 (.pu 10 .nil))))))))))) ?_
              refine K.d_pu rfl (fun _ _ => X.mv) rfl ?_
              refine K.d_pu rfl (fun _ _ => X.mv) rfl ?_
              refine K.d_pu rfl (fun _ _ => X.mv) rfl ?_
              refine K.d_pu rfl (fun _ _ => X.mv) rfl ?_
              refine K.d_stE rfl (K.p_indexL hv (Fx.und rfl) (Fx.sz rfl) rfl rfl (by omega) hd0) rfl ?_
              rintro v4 ⟨b4, o4, rfl, hcel4⟩
              have hq4 := (Cels.up (K := []) hcel4).1
              refine K.d_pu rfl (fun _ _ => X.fa) rfl ?_
              refine K.d_st rfl X.ld rfl ?_
              refine K.d_stE rfl (K.p_indexL hv (Fx.und rfl) (Fx.sz rfl) rfl rfl (by omega) hc0) rfl ?_
              rintro v5 ⟨b5, o5, rfl, hcel5⟩
              have hq5 := (Cels.up (K := []) hcel5).1
              refine K.d_pu rfl (fun _ _ => X.fa) rfl ?_
              refine K.d_st rfl X.ld rfl ?_
              refine K.d_pu rfl (fun _ _ => X.beql) rfl ?_
              refine K.d_nil ?_
              (repeat' (first | refine X.rq ?_ | (refine X.rc ?_ ?_ <;> intro hc <;> first | (exfalso; omega) | skip)))
              · rw [mayB_no2 hk0 hc1 hd1 (Eq.symm hc)]
                refine K.done (by first | exact Or.inl rfl | exact Or.inr rfl) rfl (by first | exact K.Base.le.refl _ | assumption) (H' := []) rfl ⟨rfl, rfl, rfl⟩
              · have hx := hc
                refine K.a_round hKM (k + 1) ⟨by omega, by omega, fun i ci h1 h2 e => ?_⟩ (by repeat (first | exact K.Sub.nil _ | refine K.Sub.cons rfl ?_)) rfl rfl (by omega)
                by_cases hik : i < k
                · exact hne i ci h1 hik e
                · obtain rfl : i = k := by omega
                  rw [hd1] at e; cases e; exact fun e2 => hx e2.symm
            · obtain rfl : k = l.length := by omega
              (repeat' (first | refine X.rq ?_ | (refine X.rc ?_ ?_ <;> intro hc <;> first | (exfalso; omega) | skip)))
              refine K.a_round hKL (j + 1) ⟨by omega, fun i ci hi e => ?_, fun i m ci cm him hi ei em => ?_⟩ (by repeat (first | exact K.Sub.nil _ | refine K.Sub.cons rfl ?_)) rfl rfl (by omega)
              · by_cases hij : i < j
                · exact hok i ci hij e
                · obtain rfl : i = j := by omega
                  rw [hc1] at e; cases e; exact hokc
              · by_cases hij : i < j
                · exact hnd i m ci cm him hij ei em
                · obtain rfl : i = j := by omega
                  rw [hc1] at ei; cases ei; exact hne m cm him (List.getElem?_eq_some_iff.1 em).1 em
        · (repeat' (first | refine X.rq ?_ | (refine X.rc ?_ ?_ <;> intro hc <;> first | (exfalso; omega) | skip)))
          all_goals
            exact nok (by rw [okC, decide_eq_false hkd]; simp) _
    · obtain rfl : j = l.length := by omega
      (repeat' (first | refine X.rq ?_ | (refine X.rc ?_ ?_ <;> intro hc <;> first | (exfalso; omega) | skip)))
      rw [mayB_yes (by omega) (by omega) (fun i c hi => hok i c (List.getElem?_eq_some_iff.1 hi).1 hi) (fun i k ci ck hik hi hk => hnd i k ci ck hik (List.getElem?_eq_some_iff.1 hi).1 hi hk)]
      refine K.done (by first | exact Or.inl rfl | exact Or.inr rfl) rfl (by first | exact K.Base.le.refl _ | assumption) (H' := []) rfl ⟨rfl, rfl, rfl⟩
end Go.Proofs.YtdjacjhojbkgjaaGreat.Rw
