/-
  A value hangs on its columns alone; of which kind it is, and how it may err: plainly. Conditions: each theorem's own.
-/
import Derived.Test.YtmkhejdamjibgaaEk
import Derived.Test.YtmkhejdamjibgaaEh

namespace Go.Proofs.Ytmkhejdamjibgaa.Rw
open Go Go.K Go.Proofs Go.Proofs.Ytmkhejdamjibgaa
set_option linter.unusedVariables false
set_option linter.unusedSimpArgs false

theorem valueL_same {row row' : List Val} {l : List Ex} (h : ∀ e ∈ l, valueQ row e = valueQ row' e) : valueL row l = valueL row' l := by
  rw [valueL_map, valueL_map]
  exact List.map_congr_left h
theorem value_same {row row' : List Val} : ∀ e : Ex, (∀ c ∈ colsQ e, row[c.toNat]? = row'[c.toNat]?) → valueQ row e = valueQ row' e
  | .mk op val tb nm col args, h => by
    rw [valueQ, valueQ]
    by_cases h3 : op = 3
    · have := h col (by rw [colsQ, if_pos h3]; exact List.mem_append_left _ List.mem_cons_self)
      rw [if_pos h3, if_pos h3, List.getD_eq_getElem?_getD, List.getD_eq_getElem?_getD, this]
    · rw [if_neg h3, if_neg h3, valueL_same fun e he => value_same e fun c hc => h c (by
        rw [colsQ, colsL_flat]
        exact List.mem_append_right _ (List.mem_flatMap.2 ⟨e, he, hc⟩))]
  termination_by e => SizeOf.sizeOf e
  decreasing_by
    have := List.sizeOf_lt_of_mem he
    simp only [Ex.mk.sizeOf_spec]
    omega
/-- The kind that an operator makes of its parts' kinds, if it wants these. -/
def wantQ (op : Int) : Int := if op = 5 ∨ op = 20 ∨ op = 21 then 3 else if op = 13 then 2 else 1
def kresQ (op : Int) (a b : Int × Bool) : Int × Bool :=
  if a.2 = false then (0, false) else if b.2 = false then (0, false) else if op = 6 ∨ op = 7 then (3, true)
  else if 14 ≤ op ∧ op ≤ 19 then (3, decide (a.1 = b.1 ∨ a.1 = 0 ∨ b.1 = 0)) else (wantQ op, decide ((a.1 = wantQ op ∨ a.1 = 0) ∧ (b.1 = wantQ op ∨ b.1 = 0)))
def kopQ (op : Int) : List (Int × Bool) → Int × Bool
  | [a] => kresQ op a a
  | [a, b] => kresQ op a b
  | _ => (0, false)
mutual
def kindQ (row : List Val) : Ex → Int × Bool
  | .mk op val tb nm col args => if op = 1 then (val.kind, true) else if op = 3 then ((row.getD col.toNat vN).kind, true) else kopQ op (kindL row args)
def kindL (row : List Val) : List Ex → List (Int × Bool)
  | [] => []
  | e :: r => kindQ row e :: kindL row r
end
theorem kres_ok {op : Int} {a b : Int × Bool} (h : (kresQ op a b).2 = true) : a.2 = true ∧ b.2 = true := by
  unfold kresQ at h
  cases ha : a.2 with
  | false => rw [ha] at h; simp at h
  | true =>
    cases hb : b.2 with
    | false => rw [ha, hb] at h; simp at h
    | true => exact ⟨rfl, rfl⟩
theorem reck_law {k : Nat} {a b : Val} (h : fitQ 1 [a, b] = 0) : ((reckQ k a b).1.kind = 1 ∨ (reckQ k a b).1.kind = 0) ∧ ((reckQ k a b).2 = 0 ∨ (reckQ k a b).2 = 31 ∨ (reckQ k a b).2 = 32) := by
  unfold reckQ
  split
  · exact ⟨.inr rfl, .inr (.inr rfl)⟩
  · unfold recQ
    split
    · exact ⟨.inr rfl, .inl h⟩
    · split
      · exact ⟨.inl rfl, .inl rfl⟩
      · exact ⟨.inr rfl, .inr (.inl rfl)⟩
theorem whole_law (n : Int) : (wholeQ n).kind = 3 ∨ (wholeQ n).kind = 0 := by
  unfold wholeQ
  split
  · exact .inr rfl
  · exact .inl rfl
theorem join_law {a b : Val} (h : fitQ 2 [a, b] = 0) : ((joinQ a b).1.kind = 2 ∨ (joinQ a b).1.kind = 0) ∧ ((joinQ a b).2 = 0 ∨ (joinQ a b).2 = 3) := by
  unfold joinQ
  split
  · exact ⟨.inr rfl, .inl h⟩
  · split
    · exact ⟨.inr rfl, .inr rfl⟩
    · exact ⟨.inl rfl, .inl rfl⟩
theorem cmp_law {t : Int → Bool} {a b : Val} (ha : okV a = true) (hb : okV b = true) (h : a.kind = 0 ∨ b.kind = 0 ∨ a.kind = b.kind) : ((cmpQ t a b).1.kind = 3 ∨ (cmpQ t a b).1.kind = 0) ∧ (cmpQ t a b).2 = 0 := by
  unfold cmpQ
  rw [ha, hb, if_pos (show (true && true) = true from rfl)]
  split
  · exact ⟨.inr rfl, rfl⟩
  · rename_i h0
    rw [if_neg (by rcases h with h | h | h; exact absurd (.inl h) h0; exact absurd (.inr h) h0; exact fun e => e h)]
    exact ⟨.inl rfl, rfl⟩
theorem all_two {a b : Val} {p : Val → Prop} (ha : p a) (hb : p b) : ∀ u ∈ [a, b], p u := fun u hu => by
  rcases List.mem_cons.1 hu with rfl | hu
  · exact ha
  · rw [List.mem_singleton.1 hu]; exact hb
/-- What is so of a value, by the kind that its parts promise. -/
def LawV (r : Val × Int) (k : Int) (s : Bool) : Prop := (r.2 = 0 → r.1.kind = k ∨ r.1.kind = 0) ∧ (r.2 ≠ 0 → (r.2 = 32 ∨ r.2 = 31 ∨ r.2 = 3) ∧ s = false)
theorem un_law {op k : Int} {a : Val} (h4 : 4 ≤ op) (h7 : op ≤ 7) (ha : okV a = true) (hk : a.kind = k ∨ a.kind = 0) (hq : (kresQ op (k, true) (k, true)).2 = true) :
    LawV (unQ op a) (kresQ op (k, true) (k, true)).1 (decide (safeOp op)) := by
  unfold kresQ at hq ⊢
  simp only [Bool.true_eq_false, if_false] at hq ⊢
  by_cases h67 : op = 6 ∨ op = 7
  · rw [if_pos h67]
    unfold unQ
    rw [if_neg (by omega), if_neg (by omega)]
    split
    · exact ⟨fun _ => .inl rfl, fun h => absurd rfl h⟩
    · exact ⟨fun _ => .inl rfl, fun h => absurd rfl h⟩
  · rw [if_neg h67, if_neg (by omega)] at hq ⊢
    have hq := of_decide_eq_true hq
    by_cases h5 : op = 5
    · subst h5
      have hw : wantQ 5 = 3 := rfl
      rw [hw] at hq ⊢
      have hf : fitQ 3 [a] = 0 := fitQ_zero (fun u hu => by rw [List.mem_singleton.1 hu]; exact ha) fun u hu => by rw [List.mem_singleton.1 hu]; omega
      unfold unQ
      rw [if_neg (by omega), if_pos rfl]
      unfold notQ
      rw [if_pos hf]
      exact ⟨fun _ => whole_law _, fun h => absurd rfl h⟩
    · obtain rfl : op = 4 := by omega
      have hw : wantQ 4 = 1 := rfl
      rw [hw] at hq ⊢
      have hf : fitQ 1 [vI 0, a] = 0 := fitQ_zero (all_two (by decide) ha) (all_two (.inr rfl) (by omega))
      unfold unQ
      rw [if_pos rfl]
      obtain ⟨g1, g2⟩ := reck_law (k := 1) hf
      exact ⟨fun _ => g1, fun h => ⟨by omega, by decide⟩⟩
theorem bi_law {op k j : Int} {a b : Val} (h8 : 8 ≤ op) (h21 : op ≤ 21) (ha : okV a = true) (hb : okV b = true) (hk : a.kind = k ∨ a.kind = 0) (hj : b.kind = j ∨ b.kind = 0) (hq : (kresQ op (k, true) (j, true)).2 = true) :
    LawV (biQ op a b) (kresQ op (k, true) (j, true)).1 (decide (safeOp op)) := by
  unfold kresQ at hq ⊢
  simp only [Bool.true_eq_false, if_false] at hq ⊢
  rw [if_neg (show ¬ (op = 6 ∨ op = 7) by omega)] at hq ⊢
  by_cases hc : 14 ≤ op ∧ op ≤ 19
  · rw [if_pos hc] at hq ⊢
    have hq := of_decide_eq_true hq
    unfold biQ
    rw [if_neg (by omega), if_neg (by omega), if_neg (by omega), if_neg (by omega)]
    obtain ⟨g1, g2⟩ := cmp_law (t := testQ (op - 14).toNat) ha hb (by omega)
    exact ⟨fun _ => g1, fun h => absurd g2 h⟩
  · rw [if_neg hc] at hq ⊢
    have hq := of_decide_eq_true hq
    have hw : (op ≤ 12 → wantQ op = 1) ∧ (op = 13 → wantQ op = 2) ∧ (20 ≤ op → wantQ op = 3) := by
      unfold wantQ
      refine ⟨fun h => ?_, fun h => ?_, fun h => ?_⟩
      · rw [if_neg (by omega), if_neg (by omega)]
      · rw [if_neg (by omega), if_pos h]
      · rw [if_pos (by omega)]
    generalize wantQ op = w at hq hw ⊢
    have hfit : fitQ w [a, b] = 0 := fitQ_zero (all_two ha hb) (all_two (by omega) (by omega))
    unfold biQ
    by_cases h12 : op ≤ 12
    · rw [if_pos h12]
      rw [hw.1 h12] at hfit ⊢
      obtain ⟨g1, g2⟩ := reck_law (k := (op - 8).toNat) hfit
      exact ⟨fun _ => g1, fun h => ⟨by omega, decide_eq_false (by unfold safeOp; omega)⟩⟩
    · rw [if_neg h12]
      by_cases h13 : op = 13
      · rw [if_pos h13]
        rw [hw.2.1 h13] at hfit ⊢
        obtain ⟨g1, g2⟩ := join_law hfit
        exact ⟨fun _ => g1, fun h => ⟨by omega, decide_eq_false (by unfold safeOp; omega)⟩⟩
      · rw [if_neg h13]
        rw [hw.2.2 (by omega)] at hfit ⊢
        by_cases h20 : op = 20
        · rw [if_pos h20]
          unfold andQ
          rw [if_pos hfit]
          exact ⟨fun _ => whole_law _, fun h => absurd rfl h⟩
        · rw [if_neg h20, if_pos (by omega)]
          unfold orQ
          rw [if_pos hfit]
          exact ⟨fun _ => whole_law _, fun h => absurd rfl h⟩
theorem ok_value {row : List Val} {e : Ex} (hr : rightQ row.length e = true) (hrow : row.all okV = true) : okV (valueQ row e).1 = true := by
  obtain ⟨op, val, tb, nm, col, args⟩ := e
  rw [rightQ] at hr
  simp only [Bool.and_eq_true, decide_eq_true_eq] at hr
  rw [valueQ]
  split
  · rename_i h1
    exact hr.1.2.1 h1
  · split
    · rename_i h3
      have := hr.1.2.2 h3
      rw [List.getD_eq_getElem?_getD, List.getElem?_eq_getElem (show col.toNat < row.length by omega)]
      exact List.all_eq_true.1 hrow _ (List.getElem_mem _)
    · exact (good_op _ _).1
theorem kind_step {row : List Val} (hrow : row.all okV = true) {op : Int} {val : Val} {tb nm : ByteArray} {col : Int} {args : List Ex} (ih : ∀ e ∈ args, rightQ row.length e = true → (kindQ row e).2 = true → LawV (valueQ row e) (kindQ row e).1 (safeQ e))
    (hr : rightQ row.length (.mk op val tb nm col args) = true) (hk : (kindQ row (.mk op val tb nm col args)).2 = true) : LawV (valueQ row (.mk op val tb nm col args)) (kindQ row (.mk op val tb nm col args)).1 (safeQ (.mk op val tb nm col args)) := by
    have hr0 := hr
    rw [rightQ, rightL_all] at hr
    simp only [Bool.and_eq_true, decide_eq_true_eq] at hr
    obtain ⟨⟨hp, h1, h3⟩, hra⟩ := hr
    rw [kindQ] at hk ⊢
    rw [valueQ, safeQ]
    by_cases e1 : op = 1
    · rw [if_pos e1, if_pos e1]
      exact ⟨fun _ => .inl rfl, fun h => absurd rfl h⟩
    rw [if_neg e1, if_neg e1]
    rw [if_neg e1] at hk
    by_cases e3 : op = 3
    · rw [if_pos e3, if_pos e3]
      exact ⟨fun _ => .inl rfl, fun h => absurd rfl h⟩
    rw [if_neg e3, if_neg e3]
    rw [if_neg e3] at hk
    have hpo : partsQ op = if op = 1 ∨ op = 3 then 0 else if 4 ≤ op ∧ op ≤ 7 then 1 else if 8 ≤ op ∧ op ≤ 21 then 2 else -1 := rfl
    rw [if_neg (by omega)] at hpo
    rcases args with _ | ⟨a, _ | ⟨b, _ | ⟨c, r⟩⟩⟩
    · exfalso; rw [hpo] at hp; split at hp <;> (try split at hp) <;> simp at hp
    · have hop : 4 ≤ op ∧ op ≤ 7 := by
        rw [hpo] at hp
        split at hp
        · assumption
        · split at hp <;> simp at hp
      simp only [kindL, kopQ, valueL, opQ, safeL, List.all_cons, List.all_nil, Bool.and_true] at hk hra ⊢
      obtain ⟨hka, _⟩ := kres_ok hk
      obtain ⟨g1, g2⟩ := ih a (by simp) hra hka
      have hoa := ok_value hra hrow
      generalize kindQ row a = ka at hk hka g1
      obtain ⟨k, kb⟩ := ka
      dsimp only at hka g1
      subst hka
      generalize valueQ row a = va at g1 g2 hoa ⊢
      by_cases hf : va.2 = 0
      · rw [if_neg (fun h => h hf)]
        obtain ⟨q1, q2⟩ := un_law hop.1 hop.2 hoa (g1 hf) hk
        exact ⟨q1, fun h => ⟨(q2 h).1, by rw [(q2 h).2]; rfl⟩⟩
      · rw [if_pos hf]
        exact ⟨fun h => absurd h hf, fun h => ⟨(g2 hf).1, by rw [(g2 hf).2, Bool.and_false]⟩⟩
    · have hop : 8 ≤ op ∧ op ≤ 21 := by
        rw [hpo] at hp
        split at hp
        · simp at hp
        · split at hp
          · assumption
          · simp at hp
      simp only [kindL, kopQ, valueL, opQ, safeL, List.all_cons, List.all_nil, Bool.and_true, Bool.and_eq_true] at hk hra ⊢
      obtain ⟨hka, hkb⟩ := kres_ok hk
      obtain ⟨g1, g2⟩ := ih a (by simp) hra.1 hka
      obtain ⟨f1, f2⟩ := ih b (by simp) hra.2 hkb
      have hoa := ok_value hra.1 hrow
      have hob := ok_value hra.2 hrow
      generalize kindQ row a = ka at hk hka g1
      generalize kindQ row b = kb at hk hkb f1
      obtain ⟨k, _⟩ := ka
      obtain ⟨j, _⟩ := kb
      dsimp only at hka hkb g1 f1
      subst hka hkb
      generalize valueQ row a = va at g1 g2 hoa ⊢
      generalize valueQ row b = vb at f1 f2 hob ⊢
      by_cases hf : va.2 = 0
      · rw [if_neg (fun h => h hf)]
        by_cases hg : vb.2 = 0
        · rw [if_neg (fun h => h hg)]
          obtain ⟨q1, q2⟩ := bi_law hop.1 hop.2 hoa hob (g1 hf) (f1 hg) hk
          exact ⟨q1, fun h => ⟨(q2 h).1, by rw [(q2 h).2]; rfl⟩⟩
        · rw [if_pos hg]
          exact ⟨fun h => absurd h hg, fun h => ⟨(f2 hg).1, by rw [(f2 hg).2, Bool.and_false, Bool.and_false]⟩⟩
      · rw [if_pos hf]
        exact ⟨fun h => absurd h hf, fun h => ⟨(g2 hf).1, by rw [(g2 hf).2, Bool.false_and, Bool.and_false]⟩⟩
    · exfalso
      rw [hpo] at hp
      simp only [List.length_cons] at hp
      split at hp <;> (try split at hp) <;> omega
theorem kind_law {row : List Val} (hrow : row.all okV = true) : ∀ e : Ex, rightQ row.length e = true → (kindQ row e).2 = true → LawV (valueQ row e) (kindQ row e).1 (safeQ e)
  | .mk op val tb nm col args, hr, hk => kind_step hrow (fun e he => kind_law hrow e) hr hk
  termination_by e => SizeOf.sizeOf e
  decreasing_by
    have := List.sizeOf_lt_of_mem he
    simp only [Ex.mk.sizeOf_spec]
    omega
end Go.Proofs.Ytmkhejdamjibgaa.Rw
