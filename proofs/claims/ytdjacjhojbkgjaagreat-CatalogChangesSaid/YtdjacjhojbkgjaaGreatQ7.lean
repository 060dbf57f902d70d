/-
  Rows, the plain side: columns, values, names; and the walks of Name and May. Conditions: each theorem's own.
-/
import Derived.Test.YtdjacjhojbkgjaaGreatQ6
namespace Go.Proofs.YtdjacjhojbkgjaaGreat.Rw
open Go Go.K Go.Proofs Go.Proofs.YtdjacjhojbkgjaaGreat
set_option linter.unusedVariables false
set_option linter.unusedSimpArgs false
set_option maxRecDepth 10000

structure Col where
  name : ByteArray
  kind : Int
  need : Bool
  deriving DecidableEq
structure Val where
  kind : Int
  n : Int
  s : ByteArray
  deriving DecidableEq
def cC (c : Col) : List Value := [.string c.name, .int .i64 c.kind, .bool c.need]
def cV (v : Val) : List Value := [.int .i64 v.kind, .int .i64 v.n, .string v.s]
structure wfC (c : Col) : Prop where
  k1 : -9223372036854775808 ≤ c.kind
  k2 : c.kind ≤ 9223372036854775807
  s : c.name.size ≤ 9223372036854775807
structure wfV (v : Val) : Prop where
  k1 : -9223372036854775808 ≤ v.kind
  k2 : v.kind ≤ 9223372036854775807
  n1 : -9223372036854775808 ≤ v.n
  n2 : v.n ≤ 9223372036854775807
  s : v.s.size ≤ 9223372036854775807

def okAt (k : Nat) (c : UInt8) : Bool := decide ((97 ≤ c.toNat ∧ c.toNat ≤ 122) ∨ (0 < k ∧ ((48 ≤ c.toNat ∧ c.toNat ≤ 57) ∨ c.toNat = 95)))
def allI : Nat → List UInt8 → Bool
  | _, [] => true
  | k, c :: r => okAt k c && allI (k + 1) r
theorem allI_iff : ∀ (l : List UInt8) (k : Nat), allI k l = true ↔ ∀ j c, l[j]? = some c → okAt (k + j) c = true
  | [], k => by simp [allI]
  | c :: r, k => by
    rw [allI, Bool.and_eq_true, allI_iff r (k + 1)]
    constructor
    · rintro ⟨h1, h2⟩ j d hj
      cases j with
      | zero => simp at hj; subst hj; exact h1
      | succ j => have := h2 j d (by simpa using hj); rwa [show k + 1 + j = k + (j + 1) from by omega] at this
    · intro h
      exact ⟨h 0 c rfl, fun j d hj => by have := h (j + 1) d (by simpa using hj); rwa [show k + (j + 1) = k + 1 + j from by omega] at this⟩
def nameB (l : List UInt8) : Bool := decide (1 ≤ l.length) && decide (l.length ≤ 24) && allI 0 l
theorem nameB_yes {l : List UInt8} (h1 : 1 ≤ l.length) (h2 : l.length ≤ 24) (h3 : ∀ j c, l[j]? = some c → okAt j c = true) : nameB l = true := by
  rw [nameB, decide_eq_true h1, decide_eq_true h2, (allI_iff l 0).2 fun j c hj => by rw [Nat.zero_add]; exact h3 j c hj]; rfl
theorem nameB_no {l : List UInt8} {j : Nat} {c : UInt8} (hc : l[j]? = some c) (hk : okAt j c = false) : nameB l = false := by
  cases h : allI 0 l with
  | false => rw [nameB, h, Bool.and_false]
  | true =>
    have := (allI_iff l 0).1 h j c hc
    rw [Nat.zero_add, hk] at this; cases this
theorem nameB_short {l : List UInt8} (h : l.length < 1 ∨ 24 < l.length) : nameB l = false := by
  rcases h with h | h
  · rw [nameB, decide_eq_false (show ¬ 1 ≤ l.length by omega)]; rfl
  · rw [nameB, decide_eq_false (show ¬ l.length ≤ 24 by omega), Bool.and_false]; rfl

theorem empty_iff (s : ByteArray) : s = ⟨#[]⟩ ↔ s.data.toList.length = 0 := by
  obtain ⟨⟨l⟩⟩ := s
  simp

theorem Name (h : Base) (s : ByteArray) (hs : s.size ≤ 9223372036854775807) : TrV Tryz.prog 24 [.string s] h [] (.bool (nameB s.data.toList)) [] := by
  have hsz : s.data.toList.length = s.size := by simp
  have hem := empty_iff s
  refine K.enter Tryz.func24 rfl (Nat.le_of_ble_eq_true rfl) (fun F => ?_)
  simp only [List.nil_append]
  (repeat' (first | refine X.rq ?_ | (refine X.rc ?_ ?_ <;> intro hc <;> first | (exfalso; omega) | skip)))
  · rw [nameB_short (by have := hem.1 hc; omega)]
    refine K.done (by first | exact Or.inl rfl | exact Or.inr rfl) rfl (by first | exact K.Base.le.refl _ | assumption) (H' := []) rfl ⟨rfl, rfl, rfl⟩
  · rw [nameB_short (by omega)]
    refine K.done (by first | exact Or.inl rfl | exact Or.inr rfl) rfl (by first | exact K.Base.le.refl _ | assumption) (H' := []) rfl ⟨rfl, rfl, rfl⟩
  · rename_i hne
    have hpos : 1 ≤ s.data.toList.length := by
      rcases Nat.eq_zero_or_pos s.data.toList.length with e | e
      · exact absurd (hem.2 e) hne
      · exact e
    refine K.c_loop (σ := Nat) (fun j => [(0, .string s), (13, .int .i64 s.size), (14, .int .i64 j)]) (fun _ => h) (fun _ => F) (fun j => j ≤ s.size ∧ ∀ k c, k < j → s.data.toList[k]? = some c → okAt k c = true) (fun j => s.size - j) 0 ⟨Nat.zero_le _, fun k c hk => by omega⟩ (by repeat (first | exact K.Sub.nil _ | refine K.Sub.cons rfl ?_)) rfl rfl ?_
    rintro j ⟨hj, hge⟩ KL hKL
    by_cases hjl : j < s.data.toList.length
    · have hc0 : s.data.toList[((j : Nat) : Int).toNat]? = some s.data.toList[j] := by rw [Int.toNat_natCast]; exact List.getElem?_eq_getElem hjl
      have hc1 : s.data.toList[j]? = some s.data.toList[j] := List.getElem?_eq_getElem hjl
      generalize s.data.toList[j] = c at hc0 hc1
      have hcl := c.toNat_lt
      have step : okAt j c = true → ∀ k d, k < j + 1 → s.data.toList[k]? = some d → okAt k d = true := fun e k d hk hd => by
        by_cases hkj : k < j
        · exact hge k d hkj hd
        · obtain rfl : k = j := by omega
          rw [hc1] at hd; cases hd; exact e
      (repeat' (first | refine X.rq ?_ | (refine X.rc ?_ ?_ <;> intro hc <;> first | (exfalso; omega) | skip)))
      all_goals first
        | (refine K.a_round hKL (j + 1) ⟨by omega, step (decide_eq_true (by omega))⟩ (by repeat (first | exact K.Sub.nil _ | refine K.Sub.cons rfl ?_)) rfl rfl (by omega))
        | (rw [nameB_no hc1 (decide_eq_false (by omega))]
           refine K.done (by first | exact Or.inl rfl | exact Or.inr rfl) rfl (by first | exact K.Base.le.refl _ | assumption) (H' := []) rfl ⟨rfl, rfl, rfl⟩)
    · obtain rfl : j = s.size := by omega
      (repeat' (first | refine X.rq ?_ | (refine X.rc ?_ ?_ <;> intro hc <;> first | (exfalso; omega) | skip)))
      rw [nameB_yes hpos (by omega) fun k c hk => hge k c (by have := (List.getElem?_eq_some_iff.1 hk).1; omega) hk]
      refine K.done (by first | exact Or.inl rfl | exact Or.inr rfl) rfl (by first | exact K.Base.le.refl _ | assumption) (H' := []) rfl ⟨rfl, rfl, rfl⟩

theorem RefName (h : Base) (s : ByteArray) (hs : s.size ≤ 9223372036854775807) : TrV Tryz.prog 38 [.string s] h [] (.bool (nameB s.data.toList)) [] := by
  have hsz : s.data.toList.length = s.size := by simp
  refine K.enter Tryz.func38 rfl (Nat.le_of_ble_eq_true rfl) (fun F => ?_)
  simp only [List.nil_append]
  by_cases hno : s.size < 1 ∨ 24 < s.size
  · rw [nameB_short (by omega)]
    (repeat' (first | refine X.rq ?_ | (refine X.rc ?_ ?_ <;> intro hc <;> first | (exfalso; omega) | skip)))
    all_goals
      refine K.done (by first | exact Or.inl rfl | exact Or.inr rfl) rfl (by first | exact K.Base.le.refl _ | assumption) (H' := []) rfl ⟨rfl, rfl, rfl⟩
  · have h0 : s.data.toList[(0 : Int).toNat]? = some s.data.toList[0] := by rw [Int.toNat_zero]; exact List.getElem?_eq_getElem (by omega)
    have h1 : s.data.toList[0]? = some s.data.toList[0] := List.getElem?_eq_getElem (by omega)
    generalize s.data.toList[0] = c0 at h0 h1
    have hcl0 := c0.toNat_lt
    by_cases hlow : 97 ≤ c0.toNat ∧ c0.toNat ≤ 122
    · (repeat' (first | refine X.rq ?_ | (refine X.rc ?_ ?_ <;> intro hc <;> first | (exfalso; omega) | skip)))
      refine K.c_loop (σ := Nat) (fun j => [(0, .string s), (3, .int .i64 j)]) (fun _ => h) (fun _ => F) (fun j => 1 ≤ j ∧ j ≤ s.size ∧ ∀ k c, k < j → s.data.toList[k]? = some c → okAt k c = true) (fun j => s.size - j) 1 ⟨Nat.le_refl _, by omega, fun k c hk hc => by
        obtain rfl : k = 0 := by omega
        rw [h1] at hc; cases hc; exact decide_eq_true (by omega)⟩ (by repeat (first | exact K.Sub.nil _ | refine K.Sub.cons rfl ?_)) rfl rfl ?_
      rintro j ⟨hj1, hj, hge⟩ KL hKL
      by_cases hjl : j < s.data.toList.length
      · have hc0 : s.data.toList[((j : Nat) : Int).toNat]? = some s.data.toList[j] := by rw [Int.toNat_natCast]; exact List.getElem?_eq_getElem hjl
        have hc1 : s.data.toList[j]? = some s.data.toList[j] := List.getElem?_eq_getElem hjl
        generalize s.data.toList[j] = c at hc0 hc1
        have hcl := c.toNat_lt
        have step : okAt j c = true → ∀ k d, k < j + 1 → s.data.toList[k]? = some d → okAt k d = true := fun e k d hk hd => by
          by_cases hkj : k < j
          · exact hge k d hkj hd
          · obtain rfl : k = j := by omega
            rw [hc1] at hd; cases hd; exact e
        (repeat' (first | refine X.rq ?_ | (refine X.rc ?_ ?_ <;> intro hc <;> first | (exfalso; omega) | skip)))
        all_goals first
          | (refine K.a_round hKL (j + 1) ⟨by omega, by omega, step (decide_eq_true (by omega))⟩ (by repeat (first | exact K.Sub.nil _ | refine K.Sub.cons rfl ?_)) rfl rfl (by omega))
          | (rw [nameB_no hc1 (decide_eq_false (by omega))]
             refine K.done (by first | exact Or.inl rfl | exact Or.inr rfl) rfl (by first | exact K.Base.le.refl _ | assumption) (H' := []) rfl ⟨rfl, rfl, rfl⟩)
      · obtain rfl : j = s.size := by omega
        (repeat' (first | refine X.rq ?_ | (refine X.rc ?_ ?_ <;> intro hc <;> first | (exfalso; omega) | skip)))
        rw [nameB_yes (by omega) (by omega) fun k c hk => hge k c (by have := (List.getElem?_eq_some_iff.1 hk).1; omega) hk]
        refine K.done (by first | exact Or.inl rfl | exact Or.inr rfl) rfl (by first | exact K.Base.le.refl _ | assumption) (H' := []) rfl ⟨rfl, rfl, rfl⟩
    · rw [nameB_no h1 (decide_eq_false (by omega))]
      (repeat' (first | refine X.rq ?_ | (refine X.rc ?_ ?_ <;> intro hc <;> first | (exfalso; omega) | skip)))
      all_goals
        refine K.done (by first | exact Or.inl rfl | exact Or.inr rfl) rfl (by first | exact K.Base.le.refl _ | assumption) (H' := []) rfl ⟨rfl, rfl, rfl⟩
end Go.Proofs.YtdjacjhojbkgjaaGreat.Rw
