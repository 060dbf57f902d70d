/-
  Of which kind an expression is, by its parts: walked. Conditions: each theorem's own.
-/
import Derived.Test.YtmkhejdamjibgaaEo

namespace Go.Proofs.Ytmkhejdamjibgaa.Rw
open Go Go.K Go.Proofs Go.Proofs.Ytmkhejdamjibgaa
set_option linter.unusedVariables false
set_option linter.unusedSimpArgs false
set_option maxRecDepth 10000

def kV (r : Int × Bool) : Value := .tuple #[.int .i64 r.1, .bool r.2]
theorem kV_eq {a k : Int} {b c : Bool} (h1 : a = k) (h2 : b = true ↔ c = true) : Value.tuple #[.int .i64 a, .bool b] = kV (k, c) := by
  rw [h1, Bool.eq_iff_iff.2 h2]; rfl
structure KiS where
  ka : Int
  kb : Int
  o : Bool
theorem right_cols {n : Int} : ∀ e : Ex, rightQ n e = true → ∀ c ∈ colsQ e, 0 ≤ c ∧ c < n
  | .mk op val tb nm col args, hr, c, hc => by
    rw [rightQ, rightL_all] at hr
    simp only [Bool.and_eq_true, decide_eq_true_eq] at hr
    rw [colsQ, colsL_flat, List.mem_append] at hc
    rcases hc with hc | hc
    · split at hc
      · rename_i h3
        rw [List.mem_singleton.1 hc]
        exact hr.1.2.2 h3
      · cases hc
    · obtain ⟨e, he, hc⟩ := List.mem_flatMap.1 hc
      exact right_cols e (List.all_eq_true.1 hr.2 e he) c hc
  termination_by e => SizeOf.sizeOf e
  decreasing_by
    have := List.sizeOf_lt_of_mem he
    simp only [Ex.mk.sizeOf_spec]
    omega
set_option maxHeartbeats 8000000 in
theorem KindOf : ∀ (m : Nat) (h : Base) (cs : List Value) (e : Ex) (rv : Value) (row : List Val), ExC h m cs e → SL h 3 rv (row.map cV) → row.length ≤ 9223372036854775807 → rightQ row.length e = true → TrV Try.prog 12 [.agg cs.toArray, rv] h [] (kV (kindQ row e)) []
  | 0, h, cs, e, rv, row, hx, _, _, _ => hx.elim
  | m + 1, h, cs, .mk op val tb nm col args, rv, row, ⟨⟨hop, hval, hcol⟩, av, es, hcs, hv, hel, hal, hr⟩, hrv, hrl, hri => by
    subst hcs
    have ih := KindOf m h
    have hrv0 := hrv
    obtain ⟨ao, ca, rfl⟩ := hv.len
    obtain ⟨ao2, ca2, rfl⟩ := hrv.len
    have hlen : (row.map cV).length = row.length := List.length_map ..
    rw [hlen] at hrv hrv0 ⊢
    rw [hel] at hv ⊢
    rw [rightQ, rightL_all] at hri
    simp only [Bool.and_eq_true, decide_eq_true_eq] at hri
    obtain ⟨⟨hp, -, h3⟩, hra⟩ := hri
    have hpo : partsQ op = if op = 1 ∨ op = 3 then 0 else if 4 ≤ op ∧ op ≤ 7 then 1 else if 8 ≤ op ∧ op ≤ 21 then 2 else -1 := rfl
    rw [kindQ]
    refine K.enter Try.func12 rfl (Nat.le_of_ble_eq_true rfl) (fun F => ?_)
    simp only [List.nil_append]
    (repeat' (first | refine X.rq ?_ | (refine X.rc ?_ ?_ <;> intro hc <;> first | (exfalso; omega) | skip)))
    refine K.l_box rfl rfl rfl (fun B2 => ?_)
    by_cases e1 : op = 1
    · rw [if_pos e1]
      (repeat' (first | refine X.rq ?_ | (refine X.rc ?_ ?_ <;> intro hc <;> first | (exfalso; omega) | skip)))
      refine K.AT.drop ?_
      refine K.done (by first | exact Or.inl rfl | exact Or.inr rfl) rfl (by first | exact K.Base.le.refl _ | assumption) (H' := []) rfl ⟨rfl, rfl, rfl⟩
    rw [if_neg e1]
    by_cases e3 : op = 3
    · rw [if_pos e3]
      have hc3 := h3 e3
      have hx1 : row[col.toNat]? = some (row[col.toNat]'(by omega)) := List.getElem?_eq_getElem (by omega)
      rw [List.getD_eq_getElem?_getD, hx1, Option.getD_some]
      generalize row[col.toNat]'(by omega) = x at hx1
      have hc0 : (row.map cV)[col.toNat]? = some (cV x) := by rw [List.getElem?_map, hx1]; rfl
      (repeat' (first | refine X.rq ?_ | (refine X.rc ?_ ?_ <;> intro hc <;> first | (exfalso; omega) | skip)))
      refine K.s_pureE (K.p_indexL hrv (Fx.und rfl) (Fx.sz rfl) rfl rfl hc3.1 hc0) rfl ?_
      rintro v2 ⟨b, o, rfl, hcel⟩
      have hcel := Cels.up (K := blk B2 26 (cE op val tb nm col (.slice ao args.length ca)) :: F) hcel
      (repeat' (first | refine X.rq ?_ | (refine X.rc ?_ ?_ <;> intro hc <;> first | (exfalso; omega) | skip)))
      refine K.s_pure (K.p_load (Fx.agg rfl) rfl (Cels.get hcel 0 (.int .i64 x.kind) rfl)) rfl ?_
      (repeat' (first | refine X.rq ?_ | (refine X.rc ?_ ?_ <;> intro hc <;> first | (exfalso; omega) | skip)))
      refine K.AT.drop ?_
      refine K.done (by first | exact Or.inl rfl | exact Or.inr rfl) rfl (by first | exact K.Base.le.refl _ | assumption) (H' := []) rfl ⟨rfl, rfl, rfl⟩
    rw [if_neg e3]
    rw [if_neg (by omega)] at hpo
    have hn0 : 0 < args.length := by
      rw [hpo] at hp
      split at hp
      · omega
      · split at hp <;> omega
    have hop4 : 4 ≤ op ∧ op ≤ 21 := by
      rw [hpo] at hp
      split at hp
      · omega
      · split at hp <;> omega
    have hlt : (op ≤ 7 ∧ args.length = 1) ∨ (8 ≤ op ∧ args.length = 2) := by
      rw [hpo] at hp
      split at hp
      · exact .inl (by omega)
      · split at hp
        · exact .inr (by omega)
        · omega
    clear hp hpo h3 hop hcol
    have hc1 : es[0]? = some (es[0]'(by omega)) := List.getElem?_eq_getElem (by omega)
    have he1 : args[0]? = some (args[0]'hn0) := List.getElem?_eq_getElem hn0
    generalize es[0]'(by omega) = c at hc1
    generalize args[0]'hn0 = a at he1
    have hca := hr 0 c a hc1 he1
    have hra1 := List.all_eq_true.1 hra a (List.mem_of_getElem? he1)
    have hk1 := ih c a _ row hca hrv0 hrl hra1
    (repeat' (first | refine X.rq ?_ | (refine X.rc ?_ ?_ <;> intro hc <;> first | (exfalso; omega) | skip)))
    refine K.s_pureE (K.p_indexL hv (Fx.und rfl) (Fx.sz rfl) rfl rfl (by omega) hc1) rfl ?_
    rintro v2 ⟨b, o, rfl, hcel⟩
    refine K.s_pure (K.p_loadM (Fx.agg rfl) rfl (Cels.up hcel) (Fx.sz rfl) hca.len) rfl ?_
    (repeat' (first | refine X.rq ?_ | (refine X.rc ?_ ?_ <;> intro hc <;> first | (exfalso; omega) | skip)))
    refine K.l_callV (Fx.cal rfl) rfl hk1 (K.pp [] rfl) rfl rfl ?_
    simp only [List.nil_append]
    have hkq : ∀ q : Int × Bool, kindQ row a = q → (args.length = 1 → kopQ op (kindL row args) = kresQ op q q) ∧ (∀ b, args[1]? = some b → args.length = 2 → kopQ op (kindL row args) = kresQ op q (kindQ row b)) := fun q hq => by
      rcases args with _ | ⟨a', _ | ⟨b', _ | ⟨c', r'⟩⟩⟩
      · cases he1
      · cases he1
        refine ⟨fun _ => by rw [kindL, kindL, hq]; rfl, fun b hb => by cases hb⟩
      · cases he1
        refine ⟨fun e => (by simp at e), fun b hb _ => ?_⟩
        cases hb
        rw [kindL, kindL, kindL, hq]; rfl
      · exact ⟨fun e => by simp at e, fun b hb e => by simp at e⟩
    obtain ⟨hkq1, hkq2⟩ := hkq _ rfl
    clear hkq hk1
    generalize kindQ row a = qa at hkq1 hkq2 ⊢
    obtain ⟨ka, oa⟩ := qa
    rw [show kV (ka, oa) = .tuple #[.int .i64 ka, .bool oa] from rfl]
    (repeat' (first | refine X.rs ?_ | (refine X.rd ?_ ?_ <;> intro hc <;> first | (exfalso; omega) | skip)))
    apply K.c_seq
    refine X.w ?_
    (repeat' (first | refine X.rs ?_ | (refine X.rd ?_ ?_ <;> intro hc <;> first | (exfalso; omega) | skip)))
    apply K.c_seq
    refine K.c_join (β := KiS) (fun q => [(2, .pointer (some ⟨B2, 0, none⟩)), (6, .int .i64 q.ka), (7, .bool q.o), (8, .int .i64 q.kb)]) (fun _ => h) (fun _ => blk B2 26 (cE op val tb nm col (.slice ao args.length ca)) :: F)
      (fun q => kopQ op (kindL row args) = if q.o = true then kresQ op (q.ka, true) (q.kb, true) else (0, false)) (fun KJ hJ => ?_) ?_
    · rcases hlt with ⟨h7, h1⟩ | ⟨h8, h2⟩
      · have hk := hkq1 h1
        cases oa with
        | false =>
          (repeat' (first | refine X.rq ?_ | (refine X.rc ?_ ?_ <;> intro hc <;> first | (exfalso; omega) | skip)))
          exact K.a_join hJ ⟨ka, ka, false⟩ (by rw [hk]; rfl) (by repeat (first | exact K.Sub.nil _ | refine K.Sub.cons rfl ?_)) rfl rfl
        | true =>
          (repeat' (first | refine X.rq ?_ | (refine X.rc ?_ ?_ <;> intro hc <;> first | (exfalso; omega) | skip)))
          exact K.a_join hJ ⟨ka, ka, true⟩ hk (by repeat (first | exact K.Sub.nil _ | refine K.Sub.cons rfl ?_)) rfl rfl
      · have hc2 : es[1]? = some (es[1]'(by omega)) := List.getElem?_eq_getElem (by omega)
        have he2 : args[1]? = some (args[1]'(by omega)) := List.getElem?_eq_getElem (by omega)
        generalize es[1]'(by omega) = c2 at hc2
        generalize args[1]'(by omega) = a2 at he2
        have hk := hkq2 a2 he2 h2
        cases oa with
        | false =>
          (repeat' (first | refine X.rq ?_ | (refine X.rc ?_ ?_ <;> intro hc <;> first | (exfalso; omega) | skip)))
          exact K.a_join hJ ⟨ka, ka, false⟩ (by rw [hk]; rfl) (by repeat (first | exact K.Sub.nil _ | refine K.Sub.cons rfl ?_)) rfl rfl
        | true =>
          have hca2 := hr 1 c2 a2 hc2 he2
          have hra2 := List.all_eq_true.1 hra a2 (List.mem_of_getElem? he2)
          have hk2 := ih c2 a2 _ row hca2 hrv0 hrl hra2
          (repeat' (first | refine X.rq ?_ | (refine X.rc ?_ ?_ <;> intro hc <;> first | (exfalso; omega) | skip)))
          refine K.s_pureE (K.p_indexL (m := 1) hv (Fx.und rfl) (Fx.sz rfl) rfl rfl (by omega) hc2) rfl ?_
          rintro v3 ⟨b3, o3, rfl, hcel3⟩
          refine K.s_pure (K.p_loadM (Fx.agg rfl) rfl (Cels.up hcel3) (Fx.sz rfl) hca2.len) rfl ?_
          (repeat' (first | refine X.rq ?_ | (refine X.rc ?_ ?_ <;> intro hc <;> first | (exfalso; omega) | skip)))
          refine K.l_callV (Fx.cal rfl) rfl hk2 (K.pp [] rfl) rfl rfl ?_
          simp only [List.nil_append]
          generalize kindQ row a2 = qb at hk ⊢
          obtain ⟨kb, ob⟩ := qb
          rw [show kV (kb, ob) = .tuple #[.int .i64 kb, .bool ob] from rfl]
          (repeat' (first | refine X.rq ?_ | (refine X.rc ?_ ?_ <;> intro hc <;> first | (exfalso; omega) | skip)))
          exact K.a_join hJ ⟨ka, kb, ob⟩ (by rw [hk]; cases ob <;> rfl) (by repeat (first | exact K.Sub.nil _ | refine K.Sub.cons rfl ?_)) rfl rfl
    · rintro ⟨ka, kb, o⟩ hk
      dsimp only at hk ⊢
      rw [hk]
      clear hk hkq1 hkq2 hra1 hca hc1 he1 hra hr ih hv hrv hrv0 hcel
      cases o with
      | false =>
        rw [if_neg (by decide)]
        (repeat' (first | refine X.rq ?_ | (refine X.rc ?_ ?_ <;> intro hc <;> first | (exfalso; omega) | skip)))
        refine K.AT.drop ?_
        refine K.done (by first | exact Or.inl rfl | exact Or.inr rfl) rfl (by first | exact K.Base.le.refl _ | assumption) (H' := []) rfl ⟨rfl, rfl, rfl⟩
      | true =>
        rw [if_pos rfl]
        unfold kresQ
        simp only [Bool.true_eq_false, if_false]
        by_cases h67 : op = 6 ∨ op = 7
        · rw [if_pos h67]
          rcases h67 with h6 | h6
          all_goals
            (repeat' (first | refine X.rq ?_ | (refine X.rc ?_ ?_ <;> intro hc <;> first | (exfalso; omega) | skip)))
            refine K.AT.drop ?_
            refine K.done (by first | exact Or.inl rfl | exact Or.inr rfl) rfl (by first | exact K.Base.le.refl _ | assumption) (H' := []) rfl ⟨rfl, rfl, rfl⟩
        rw [if_neg h67]
        by_cases hc : 14 ≤ op ∧ op ≤ 19
        · rw [if_pos hc]
          by_cases q1 : ka = kb
          · (repeat' (first | refine X.rq ?_ | (refine X.rc ?_ ?_ <;> intro hc <;> first | (exfalso; omega) | skip)))
            all_goals
              refine K.AT.drop ?_
              refine K.done (by first | exact Or.inl rfl | exact Or.inr rfl) rfl (by first | exact K.Base.le.refl _ | assumption) (H' := []) rfl ⟨kV_eq rfl (by simp only [decide_eq_true_iff, true_iff, false_iff, Bool.false_eq_true]; omega), rfl, rfl⟩
          · by_cases q2 : ka = 0
            · (repeat' (first | refine X.rq ?_ | (refine X.rc ?_ ?_ <;> intro hc <;> first | (exfalso; omega) | skip)))
              all_goals
                refine K.AT.drop ?_
                refine K.done (by first | exact Or.inl rfl | exact Or.inr rfl) rfl (by first | exact K.Base.le.refl _ | assumption) (H' := []) rfl ⟨kV_eq rfl (by simp only [decide_eq_true_iff, true_iff, false_iff, Bool.false_eq_true]; omega), rfl, rfl⟩
            · (repeat' (first | refine X.rq ?_ | (refine X.rc ?_ ?_ <;> intro hc <;> first | (exfalso; omega) | skip)))
              all_goals
                refine K.AT.drop ?_
                refine K.done (by first | exact Or.inl rfl | exact Or.inr rfl) rfl (by first | exact K.Base.le.refl _ | assumption) (H' := []) rfl ⟨kV_eq rfl (by simp only [decide_eq_true_iff, true_iff, false_iff, Bool.false_eq_true]; omega), rfl, rfl⟩
        · rw [if_neg hc]
          have hw : (op ≤ 12 ∧ op ≠ 5 ∧ wantQ op = 1) ∨ (op = 13 ∧ wantQ op = 2) ∨ (op = 5 ∧ wantQ op = 3) ∨ (20 ≤ op ∧ op ≤ 21 ∧ wantQ op = 3) := by
            unfold wantQ
            split
            · omega
            · split <;> omega
          generalize wantQ op = w at hw ⊢
          rcases hw with ⟨w1, w2, rfl⟩ | ⟨w1, rfl⟩ | ⟨w1, rfl⟩ | ⟨w1, w2, rfl⟩
          all_goals
            (repeat' (first | refine X.rq ?_ | (refine X.rc ?_ ?_ <;> intro hc <;> first | (exfalso; omega) | skip)))
            all_goals
              refine K.AT.drop ?_
              refine K.done (by first | exact Or.inl rfl | exact Or.inr rfl) rfl (by first | exact K.Base.le.refl _ | assumption) (H' := []) rfl ⟨kV_eq rfl (by simp only [decide_eq_true_iff, Bool.and_eq_true, Bool.or_eq_true, Bool.false_eq_true, true_iff, false_iff]; omega), rfl, rfl⟩
end Go.Proofs.Ytmkhejdamjibgaa.Rw
