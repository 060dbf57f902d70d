/-
  Rows, the plain side: columns, values, names; and the walks of Name and May. Conditions: each theorem's own.
-/
import Derived.Test.YtmkhejdamjibgaaKA

namespace Go.Proofs.Ytmkhejdamjibgaa.Rw
open Go Go.K Go.Proofs Go.Proofs.Ytmkhejdamjibgaa
set_option linter.unusedVariables false
set_option linter.unusedSimpArgs false
set_option maxRecDepth 10000

structure Col where
  name : ByteArray
  kind : Int
  need : Bool
structure Val where
  kind : Int
  n : Int
  s : ByteArray
  deriving DecidableEq
def cC (c : Col) : List Value := [.string c.name, .int .i64 c.kind, .bool c.need]
def cV (v : Val) : List Value := [.int .i64 v.kind, .int .i64 v.n, .string v.s]
structure wfC (c : Col) : Prop where
  k1 : -9223372036854775808 ≤ c.kind
  k2 : c.kind ≤ 9223372036854775807
  s : c.name.size ≤ 9223372036854775807
structure wfV (v : Val) : Prop where
  k1 : -9223372036854775808 ≤ v.kind
  k2 : v.kind ≤ 9223372036854775807
  n1 : -9223372036854775808 ≤ v.n
  n2 : v.n ≤ 9223372036854775807
  s : v.s.size ≤ 9223372036854775807

/-- A letter that may stand at a place of a name. -/
def okAt (k : Nat) (c : UInt8) : Bool := decide ((97 ≤ c.toNat ∧ c.toNat ≤ 122) ∨ (0 < k ∧ ((48 ≤ c.toNat ∧ c.toNat ≤ 57) ∨ c.toNat = 95)))
def allI : Nat → List UInt8 → Bool
  | _, [] => true
  | k, c :: r => okAt k c && allI (k + 1) r
theorem allI_iff : ∀ (l : List UInt8) (k : Nat), allI k l = true ↔ ∀ j c, l[j]? = some c → okAt (k + j) c = true
  | [], k => by simp [allI]
  | c :: r, k => by
    rw [allI, Bool.and_eq_true, allI_iff r (k + 1)]
    constructor
    · rintro ⟨h1, h2⟩ j d hj
      cases j with
      | zero => simp at hj; subst hj; exact h1
      | succ j => have := h2 j d (by simpa using hj); rwa [show k + 1 + j = k + (j + 1) from by omega] at this
    · intro h
      exact ⟨h 0 c rfl, fun j d hj => by have := h (j + 1) d (by simpa using hj); rwa [show k + (j + 1) = k + 1 + j from by omega] at this⟩
/-- Is it a name? -/
def nameB (l : List UInt8) : Bool := decide (1 ≤ l.length) && decide (l.length ≤ 24) && allI 0 l
theorem nameB_yes {l : List UInt8} (h1 : 1 ≤ l.length) (h2 : l.length ≤ 24) (h3 : ∀ j c, l[j]? = some c → okAt j c = true) : nameB l = true := by
  rw [nameB, decide_eq_true h1, decide_eq_true h2, (allI_iff l 0).2 fun j c hj => by rw [Nat.zero_add]; exact h3 j c hj]; rfl
theorem nameB_no {l : List UInt8} {j : Nat} {c : UInt8} (hc : l[j]? = some c) (hk : okAt j c = false) : nameB l = false := by
  cases h : allI 0 l with
  | false => rw [nameB, h, Bool.and_false]
  | true =>
    have := (allI_iff l 0).1 h j c hc
    rw [Nat.zero_add, hk] at this; cases this
theorem nameB_short {l : List UInt8} (h : l.length < 1 ∨ 24 < l.length) : nameB l = false := by
  rcases h with h | h
  · rw [nameB, decide_eq_false (show ¬ 1 ≤ l.length by omega)]; rfl
  · rw [nameB, decide_eq_false (show ¬ l.length ≤ 24 by omega), Bool.and_false]; rfl

theorem empty_iff (s : ByteArray) : s = ⟨#[]⟩ ↔ s.data.toList.length = 0 := by
  obtain ⟨⟨l⟩⟩ := s
  simp

end Go.Proofs.Ytmkhejdamjibgaa.Rw
