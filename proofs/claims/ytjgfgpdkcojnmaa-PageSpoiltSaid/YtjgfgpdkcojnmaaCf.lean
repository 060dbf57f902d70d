/-
  The walks of package code, the reader: fixed numbers, signed numbers, texts. Conditions: each theorem's own.
-/
import Derived.Test.YtjgfgpdkcojnmaaCe
import Derived.Test.YtjgfgpdkcojnmaaKX

namespace Go.Proofs.Ytjgfgpdkcojnmaa.Cc
open Go Go.K Go.Proofs Go.Proofs.Ytjgfgpdkcojnmaa
set_option linter.unusedVariables false
set_option linter.unusedSimpArgs false
set_option maxRecDepth 10000

theorem R_U8 (h : Base) (s : Option RS) (ok : Bool) (rem : List UInt8) (hr : Rd h s ok rem) (hl : rem.length ≤ big) :
    Tr Try.prog 64 [rv s] h [rA s] (RPost h s (getOk ok 1 rem) (getRem ok 1 rem) (· = .int .u8 (getN ok 1 rem : Nat))) := by
  refine K.enter Try.func64 rfl (Nat.le_of_ble_eq_true rfl) (fun F => ?_)
  (repeat' (first | (apply K.s_pure; (first | (apply Y.mv; exact X.mv) | (apply Y.sg; exact X.sg)); exact rfl) | refine X.l ?_ | refine X.w ?_ | refine X.a ?_ | (refine K.c_condD rfl (fun hc => ?_) (fun hc => ?_) <;> first | (exfalso; omega) | skip) | refine K.c_cond rfl (fun hc => ?_) (fun hc => ?_)))
  refine K.l_call (Fx.cal rfl) rfl (get_u8 h s ok rem hr hl) (K.pp [0] rfl) rfl ?_
  rintro v h' H' - ⟨rfl, rfl, s', hs, hr', rfl⟩
  (repeat' (first | (apply K.s_pure; (first | (apply Y.mv; exact X.mv) | (apply Y.sg; exact X.sg)); exact rfl) | refine X.l ?_ | refine X.w ?_ | refine X.a ?_ | (refine K.c_condD rfl (fun hc => ?_) (fun hc => ?_) <;> first | (exfalso; omega) | skip) | refine K.c_cond rfl (fun hc => ?_) (fun hc => ?_)))
  refine K.done (by first | exact Or.inl rfl | exact Or.inr rfl) rfl (by first | exact K.Base.le.refl _ | assumption) (H' := [rA s']) rfl ⟨rfl, rfl, s', hs, hr', rfl⟩
theorem R_U16 (h : Base) (s : Option RS) (ok : Bool) (rem : List UInt8) (hr : Rd h s ok rem) (hl : rem.length ≤ big) :
    Tr Try.prog 67 [rv s] h [rA s] (RPost h s (getOk ok 2 rem) (getRem ok 2 rem) (· = .int .u16 (getN ok 2 rem : Nat))) := by
  refine K.enter Try.func67 rfl (Nat.le_of_ble_eq_true rfl) (fun F => ?_)
  (repeat' (first | (apply K.s_pure; (first | (apply Y.mv; exact X.mv) | (apply Y.sg; exact X.sg)); exact rfl) | refine X.l ?_ | refine X.w ?_ | refine X.a ?_ | (refine K.c_condD rfl (fun hc => ?_) (fun hc => ?_) <;> first | (exfalso; omega) | skip) | refine K.c_cond rfl (fun hc => ?_) (fun hc => ?_)))
  refine K.l_call (Fx.cal rfl) rfl (get_u16 h s ok rem hr hl) (K.pp [0] rfl) rfl ?_
  rintro v h' H' - ⟨rfl, rfl, s', hs, hr', rfl⟩
  (repeat' (first | (apply K.s_pure; (first | (apply Y.mv; exact X.mv) | (apply Y.sg; exact X.sg)); exact rfl) | refine X.l ?_ | refine X.w ?_ | refine X.a ?_ | (refine K.c_condD rfl (fun hc => ?_) (fun hc => ?_) <;> first | (exfalso; omega) | skip) | refine K.c_cond rfl (fun hc => ?_) (fun hc => ?_)))
  refine K.done (by first | exact Or.inl rfl | exact Or.inr rfl) rfl (by first | exact K.Base.le.refl _ | assumption) (H' := [rA s']) rfl ⟨rfl, rfl, s', hs, hr', rfl⟩
theorem R_U32 (h : Base) (s : Option RS) (ok : Bool) (rem : List UInt8) (hr : Rd h s ok rem) (hl : rem.length ≤ big) :
    Tr Try.prog 63 [rv s] h [rA s] (RPost h s (getOk ok 4 rem) (getRem ok 4 rem) (· = .int .u32 (getN ok 4 rem : Nat))) := by
  refine K.enter Try.func63 rfl (Nat.le_of_ble_eq_true rfl) (fun F => ?_)
  (repeat' (first | (apply K.s_pure; (first | (apply Y.mv; exact X.mv) | (apply Y.sg; exact X.sg)); exact rfl) | refine X.l ?_ | refine X.w ?_ | refine X.a ?_ | (refine K.c_condD rfl (fun hc => ?_) (fun hc => ?_) <;> first | (exfalso; omega) | skip) | refine K.c_cond rfl (fun hc => ?_) (fun hc => ?_)))
  refine K.l_call (Fx.cal rfl) rfl (get_u32 h s ok rem hr hl) (K.pp [0] rfl) rfl ?_
  rintro v h' H' - ⟨rfl, rfl, s', hs, hr', rfl⟩
  (repeat' (first | (apply K.s_pure; (first | (apply Y.mv; exact X.mv) | (apply Y.sg; exact X.sg)); exact rfl) | refine X.l ?_ | refine X.w ?_ | refine X.a ?_ | (refine K.c_condD rfl (fun hc => ?_) (fun hc => ?_) <;> first | (exfalso; omega) | skip) | refine K.c_cond rfl (fun hc => ?_) (fun hc => ?_)))
  refine K.done (by first | exact Or.inl rfl | exact Or.inr rfl) rfl (by first | exact K.Base.le.refl _ | assumption) (H' := [rA s']) rfl ⟨rfl, rfl, s', hs, hr', rfl⟩
theorem R_U64 (h : Base) (s : Option RS) (ok : Bool) (rem : List UInt8) (hr : Rd h s ok rem) (hl : rem.length ≤ big) :
    Tr Try.prog 65 [rv s] h [rA s] (RPost h s (getOk ok 8 rem) (getRem ok 8 rem) (· = .int .u64 (getN ok 8 rem : Nat))) := by
  refine K.enter Try.func65 rfl (Nat.le_of_ble_eq_true rfl) (fun F => ?_)
  (repeat' (first | (apply K.s_pure; (first | (apply Y.mv; exact X.mv) | (apply Y.sg; exact X.sg)); exact rfl) | refine X.l ?_ | refine X.w ?_ | refine X.a ?_ | (refine K.c_condD rfl (fun hc => ?_) (fun hc => ?_) <;> first | (exfalso; omega) | skip) | refine K.c_cond rfl (fun hc => ?_) (fun hc => ?_)))
  refine K.l_call (Fx.cal rfl) rfl (get_u64 h s ok rem hr hl) (K.pp [0] rfl) rfl ?_
  rintro v h' H' - ⟨rfl, rfl, s', hs, hr', rfl⟩
  (repeat' (first | (apply K.s_pure; (first | (apply Y.mv; exact X.mv) | (apply Y.sg; exact X.sg)); exact rfl) | refine X.l ?_ | refine X.w ?_ | refine X.a ?_ | (refine K.c_condD rfl (fun hc => ?_) (fun hc => ?_) <;> first | (exfalso; omega) | skip) | refine K.c_cond rfl (fun hc => ?_) (fun hc => ?_)))
  refine K.done (by first | exact Or.inl rfl | exact Or.inr rfl) rfl (by first | exact K.Base.le.refl _ | assumption) (H' := [rA s']) rfl ⟨rfl, rfl, s', hs, hr', rfl⟩

theorem xor_i64 {a : Nat} (ha : a < 9223372036854775808) (b : Int) (hb : b = 0 ∨ b = -1) : bits .xor .i64 (a : Int) b = if b = 0 then (a : Int) else -(a : Int) - 1 := by
  have h1 : (BitVec.ofInt 64 (a : Int)).toNat = a := ofInt_u64 a (by omega)
  rcases hb with rfl | rfl
  · rw [if_pos rfl]
    show IntKind.i64.wrap ((BitVec.ofInt 64 (a : Int) ^^^ BitVec.ofInt 64 0).toNat) = _
    rw [BitVec.toNat_xor, h1, show (BitVec.ofInt 64 0).toNat = 0 from by decide, Nat.xor_zero]
    exact wr_i64 (by omega) (by omega)
  · rw [if_neg (by omega)]
    show IntKind.i64.wrap ((BitVec.ofInt 64 (a : Int) ^^^ BitVec.ofInt 64 (-1)).toNat) = _
    rw [BitVec.toNat_xor, h1, show (BitVec.ofInt 64 (-1)).toNat = 18446744073709551615 from by decide, xor_ones a (by omega)]
    simp only [IntKind.wrap, IntKind.bits, IntKind.signed, Nat.reduceSub, Int.reducePow, Bool.true_and, decide_eq_true_eq, ge_iff_le]
    split <;> omega
theorem unzig_code (x : Nat) (hx : x < 18446744073709551616) : bits .xor .i64 (IntKind.i64.wrap ((x : Int).fdiv (2 ^ (min (1 : Int).toNat IntKind.u64.bits)))) (IntKind.i64.wrap (0 - IntKind.i64.wrap (bits .and .u64 (x : Int) 1))) = unzig x := by
  have e1 : (x : Int).fdiv (2 ^ (min (1 : Int).toNat IntKind.u64.bits)) = ((x / 2 : Nat) : Int) := by
    rw [Int.fdiv_eq_ediv_of_nonneg _ (by decide)]; rfl
  have e2 : bits .and .u64 (x : Int) 1 = ((x % 2 : Nat) : Int) := by
    rw [show (1 : Int) = ((1 : Nat) : Int) from rfl, bits_and_u64_nat _ _ hx (by omega), nat_mask1]
  rw [e1, e2, wr_i64 (a := ((x / 2 : Nat) : Int)) (by omega) (by omega), wr_i64 (a := ((x % 2 : Nat) : Int)) (by omega) (by omega), wr_i64 (by omega) (by omega)]
  rw [xor_i64 (by omega) _ (by omega)]
  unfold unzig
  split <;> split <;> omega

/-- The text that is read, and what is left. -/
def txt (ok : Bool) (rem : List UInt8) (most : Int) : Option (Nat × Nat) := match found ok rem with
  | some (x, m) => if 0 ≤ most ∧ (x : Int) ≤ most ∧ x + m ≤ rem.length then some (x, m) else none
  | none => none
def txtV (o : Option (Nat × Nat)) (rem : List UInt8) : List UInt8 := match o with | some (x, m) => (rem.drop m).take x | none => []
def txtRem (o : Option (Nat × Nat)) (rem : List UInt8) : List UInt8 := match o with | some (x, m) => (rem.drop m).drop x | none => rem

end Go.Proofs.Ytjgfgpdkcojnmaa.Cc
