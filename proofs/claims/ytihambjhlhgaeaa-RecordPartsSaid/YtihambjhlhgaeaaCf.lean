/-
  The walks of package code, the reader: fixed numbers, signed numbers, texts. Conditions: each theorem's own.
-/
import Derived.Test.YtihambjhlhgaeaaCe
import Derived.Test.YtihambjhlhgaeaaKX

namespace Go.Proofs.Ytihambjhlhgaeaa.Cc
open Go Go.K Go.Proofs Go.Proofs.Ytihambjhlhgaeaa
set_option linter.unusedVariables false
set_option linter.unusedSimpArgs false
set_option maxRecDepth 10000

theorem R_U8 (h : Base) (s : Option RS) (ok : Bool) (rem : List UInt8) (hr : Rd h s ok rem) (hl : rem.length ≤ big) :
    Tr Try.prog 67 [rv s] h [rA s] (RPost h s (getOk ok 1 rem) (getRem ok 1 rem) (· = .int .u8 (getN ok 1 rem : Nat))) := by
  refine K.enter Try.func67 rfl (Nat.le_of_ble_eq_true rfl) (fun F => ?_)
  (repeat' (first | refine X.rq ?_ | (refine X.rc ?_ ?_ <;> intro hc <;> first | (exfalso; omega) | skip)))
  refine K.l_call (Fx.cal rfl) rfl (get_u8 h s ok rem hr hl) (K.pp [0] rfl) rfl ?_
  rintro v h' H' - ⟨rfl, rfl, s', hs, hr', rfl⟩
  (repeat' (first | refine X.rq ?_ | (refine X.rc ?_ ?_ <;> intro hc <;> first | (exfalso; omega) | skip)))
  refine K.done (by first | exact Or.inl rfl | exact Or.inr rfl) rfl (by first | exact K.Base.le.refl _ | assumption) (H' := [rA s']) rfl ⟨rfl, rfl, s', hs, hr', rfl⟩
theorem R_U16 (h : Base) (s : Option RS) (ok : Bool) (rem : List UInt8) (hr : Rd h s ok rem) (hl : rem.length ≤ big) :
    Tr Try.prog 46 [rv s] h [rA s] (RPost h s (getOk ok 2 rem) (getRem ok 2 rem) (· = .int .u16 (getN ok 2 rem : Nat))) := by
  refine K.enter Try.func46 rfl (Nat.le_of_ble_eq_true rfl) (fun F => ?_)
  (repeat' (first | refine X.rq ?_ | (refine X.rc ?_ ?_ <;> intro hc <;> first | (exfalso; omega) | skip)))
  refine K.l_call (Fx.cal rfl) rfl (get_u16 h s ok rem hr hl) (K.pp [0] rfl) rfl ?_
  rintro v h' H' - ⟨rfl, rfl, s', hs, hr', rfl⟩
  (repeat' (first | refine X.rq ?_ | (refine X.rc ?_ ?_ <;> intro hc <;> first | (exfalso; omega) | skip)))
  refine K.done (by first | exact Or.inl rfl | exact Or.inr rfl) rfl (by first | exact K.Base.le.refl _ | assumption) (H' := [rA s']) rfl ⟨rfl, rfl, s', hs, hr', rfl⟩

theorem xor_i64 {a : Nat} (ha : a < 9223372036854775808) (b : Int) (hb : b = 0 ∨ b = -1) : bits .xor .i64 (a : Int) b = if b = 0 then (a : Int) else -(a : Int) - 1 := by
  have h1 : (BitVec.ofInt 64 (a : Int)).toNat = a := ofInt_u64 a (by omega)
  rcases hb with rfl | rfl
  · rw [if_pos rfl]
    show IntKind.i64.wrap ((BitVec.ofInt 64 (a : Int) ^^^ BitVec.ofInt 64 0).toNat) = _
    rw [BitVec.toNat_xor, h1, show (BitVec.ofInt 64 0).toNat = 0 from by decide, Nat.xor_zero]
    exact wr_i64 (by omega) (by omega)
  · rw [if_neg (by omega)]
    show IntKind.i64.wrap ((BitVec.ofInt 64 (a : Int) ^^^ BitVec.ofInt 64 (-1)).toNat) = _
    rw [BitVec.toNat_xor, h1, show (BitVec.ofInt 64 (-1)).toNat = 18446744073709551615 from by decide, xor_ones a (by omega)]
    simp only [IntKind.wrap, IntKind.bits, IntKind.signed, Nat.reduceSub, Int.reducePow, Bool.true_and, decide_eq_true_eq, ge_iff_le]
    split <;> omega
theorem unzig_code (x : Nat) (hx : x < 18446744073709551616) : bits .xor .i64 (IntKind.i64.wrap ((x : Int).fdiv (2 ^ (min (1 : Int).toNat IntKind.u64.bits)))) (IntKind.i64.wrap (0 - IntKind.i64.wrap (bits .and .u64 (x : Int) 1))) = unzig x := by
  have e1 : (x : Int).fdiv (2 ^ (min (1 : Int).toNat IntKind.u64.bits)) = ((x / 2 : Nat) : Int) := by
    rw [Int.fdiv_eq_ediv_of_nonneg _ (by decide)]; rfl
  have e2 : bits .and .u64 (x : Int) 1 = ((x % 2 : Nat) : Int) := by
    rw [show (1 : Int) = ((1 : Nat) : Int) from rfl, bits_and_u64_nat _ _ hx (by omega), nat_mask1]
  rw [e1, e2, wr_i64 (a := ((x / 2 : Nat) : Int)) (by omega) (by omega), wr_i64 (a := ((x % 2 : Nat) : Int)) (by omega) (by omega), wr_i64 (by omega) (by omega)]
  rw [xor_i64 (by omega) _ (by omega)]
  unfold unzig
  split <;> split <;> omega

/-- The text that is read, and what is left. -/
def txt (ok : Bool) (rem : List UInt8) (most : Int) : Option (Nat × Nat) := match found ok rem with
  | some (x, m) => if 0 ≤ most ∧ (x : Int) ≤ most ∧ x + m ≤ rem.length then some (x, m) else none
  | none => none
def txtV (o : Option (Nat × Nat)) (rem : List UInt8) : List UInt8 := match o with | some (x, m) => (rem.drop m).take x | none => []
def txtRem (o : Option (Nat × Nat)) (rem : List UInt8) : List UInt8 := match o with | some (x, m) => (rem.drop m).drop x | none => rem

theorem R_Text (h : Base) (s : Option RS) (ok : Bool) (rem : List UInt8) (most : Int) (hr : Rd h s ok rem) (hl : rem.length ≤ big) (hm1 : -9223372036854775808 ≤ most) (hm2 : most ≤ 9223372036854775807) :
    Tr Try.prog 70 [rv s, .int .i64 most] h [rA s] (RPost h s (txt ok rem most).isSome (txtRem (txt ok rem most) rem) (· = .string ⟨(txtV (txt ok rem most) rem).toArray⟩)) := by
  have hl0 := hl
  unfold big at hl
  cases ho : found ok rem with
  | none =>
    have e : txt ok rem most = none := by simp [txt, ho]
    rw [e]
    refine K.enter Try.func70 rfl (Nat.le_of_ble_eq_true rfl) (fun F => ?_)
    (repeat' (first | refine X.rq ?_ | (refine X.rc ?_ ?_ <;> intro hc <;> first | (exfalso; omega) | skip)))
    refine K.l_call (Fx.cal rfl) rfl (R_look h s ok rem hr hl0) (K.pp [0] rfl) rfl ?_
    rintro v h' H' - ⟨rfl, rfl, hv⟩
    rw [ho] at hv
    obtain ⟨x, m, rfl⟩ := hv
    (repeat' (first | refine X.rq ?_ | (refine X.rc ?_ ?_ <;> intro hc <;> first | (exfalso; omega) | skip)))
    refine K.l_call (Fx.cal rfl) rfl (R_fault h s ok rem hr) (K.pp [0] rfl) rfl ?_
    rintro v h' H' - ⟨rfl, -, s', hs, hr', rfl⟩
    (repeat' (first | refine X.rq ?_ | (refine X.rc ?_ ?_ <;> intro hc <;> first | (exfalso; omega) | skip)))
    refine K.done (by first | exact Or.inl rfl | exact Or.inr rfl) rfl (by first | exact K.Base.le.refl _ | assumption) (H' := [rA s']) rfl ⟨rfl, rfl, s', hs, hr', rfl⟩
  | some xm =>
    obtain ⟨x, m⟩ := xm
    obtain ⟨rfl, h1, h2, h3, h4⟩ := found_le ho
    match s, hr with
    | none, hr => exact absurd hr.1 (by simp)
    | some ⟨p, made, sv, bad⟩, hr =>
      have hb := hr.2
      simp only at hb
      obtain ⟨ao, c, rfl⟩ := hb.len
      refine K.enter Try.func70 rfl (Nat.le_of_ble_eq_true rfl) (fun F => ?_)
      (repeat' (first | refine X.rq ?_ | (refine X.rc ?_ ?_ <;> intro hc <;> first | (exfalso; omega) | skip)))
      refine K.l_call (Fx.cal rfl) rfl (R_look h (some ⟨p, made, _, bad⟩) true rem hr hl0) (K.pp [0] rfl) rfl ?_
      rintro v h' H' - ⟨rfl, rfl, hv⟩
      rw [ho] at hv
      dsimp only [lookV] at hv
      subst hv
      have hw : most < 0 ∨ IntKind.u64.wrap most = most := by
        rcases Int.lt_or_le most 0 with h' | h'
        · exact .inl h'
        · exact .inr (K.wr_u64 (by omega) (by omega))
      by_cases hneg : most < 0
      · have e : txt true rem most = none := by simp only [txt, ho]; rw [if_neg (by omega)]
        rw [e]
        simp only [rA, rv, List.cons_append, List.nil_append]
        (repeat' (first | refine X.rq ?_ | (refine X.rc ?_ ?_ <;> intro hc <;> first | (exfalso; omega) | skip)))
        refine K.l_call (Fx.cal rfl) rfl (R_fault h (some ⟨p, made, _, bad⟩) true rem hr) (K.pp [0] rfl) rfl ?_
        rintro v h' H' - ⟨rfl, -, s', hs, hr', rfl⟩
        (repeat' (first | refine X.rq ?_ | (refine X.rc ?_ ?_ <;> intro hc <;> first | (exfalso; omega) | skip)))
        refine K.done (by first | exact Or.inl rfl | exact Or.inr rfl) rfl (by first | exact K.Base.le.refl _ | assumption) (H' := [rA s']) rfl ⟨rfl, rfl, s', hs, hr', rfl⟩
      · simp only [rA, rv, List.cons_append, List.nil_append]
        (repeat' (first | refine X.rq ?_ | (refine X.rc ?_ ?_ <;> intro hc <;> first | (exfalso; omega) | skip)))
        · have e : txt true rem most = none := by simp only [txt, ho]; rw [if_neg (by omega)]
          rw [e]
          refine K.l_call (Fx.cal rfl) rfl (R_fault h (some ⟨p, made, _, bad⟩) true rem hr) (K.pp [0] rfl) rfl ?_
          rintro v h' H' - ⟨rfl, -, s', hs, hr', rfl⟩
          (repeat' (first | refine X.rq ?_ | (refine X.rc ?_ ?_ <;> intro hc <;> first | (exfalso; omega) | skip)))
          refine K.done (by first | exact Or.inl rfl | exact Or.inr rfl) rfl (by first | exact K.Base.le.refl _ | assumption) (H' := [rA s']) rfl ⟨rfl, rfl, s', hs, hr', rfl⟩
        · have e : txt true rem most = none := by simp only [txt, ho]; rw [if_neg (by omega)]
          rw [e]
          refine K.l_call (Fx.cal rfl) rfl (R_fault h (some ⟨p, made, _, bad⟩) true rem hr) (K.pp [0] rfl) rfl ?_
          rintro v h' H' - ⟨rfl, -, s', hs, hr', rfl⟩
          (repeat' (first | refine X.rq ?_ | (refine X.rc ?_ ?_ <;> intro hc <;> first | (exfalso; omega) | skip)))
          refine K.done (by first | exact Or.inl rfl | exact Or.inr rfl) rfl (by first | exact K.Base.le.refl _ | assumption) (H' := [rA s']) rfl ⟨rfl, rfl, s', hs, hr', rfl⟩
        · have e : txt true rem most = some (x, m) := by simp only [txt, ho]; rw [if_pos (by omega)]
          rw [e]
          refine K.l_call (Fx.cal rfl) rfl (R_take h (some ⟨p, made, _, bad⟩) rem m hr hl0 h2) (K.pp [0] rfl) rfl ?_
          rintro v h' H' - ⟨rfl, ⟨v1, rfl, -⟩, s1, hs1, hr1, rfl⟩
          (repeat' (first | refine X.rq ?_ | (refine X.rc ?_ ?_ <;> intro hc <;> first | (exfalso; omega) | skip)))
          have hsv : rv s1 = .pointer (some ⟨p, 0, none⟩) := same_val hs1
          refine K.l_call (vals := [rv s1, .int .i64 (x : Nat)]) (Fx.cal rfl) (by rw [hsv]; rfl) (R_take h s1 (rem.drop m) x hr1 (by unfold big; simp; omega) (by simp; omega)) (K.pp [0] rfl) rfl ?_
          rintro v h' H' - ⟨rfl, ⟨v2, rfl, hv2⟩, s2, hs2, hr2, rfl⟩
          (repeat' (first | refine X.rq ?_ | (refine X.rc ?_ ?_ <;> intro hc <;> first | (exfalso; omega) | skip)))
          refine K.s_pure (K.p_textB hv2 (Fx.und rfl) (Fx.und rfl) (Fx.und rfl) rfl) rfl ?_
          (repeat' (first | refine X.rq ?_ | (refine X.rc ?_ ?_ <;> intro hc <;> first | (exfalso; omega) | skip)))
          refine K.done (by first | exact Or.inl rfl | exact Or.inr rfl) rfl (by first | exact K.Base.le.refl _ | assumption) (H' := [rA s2]) rfl ⟨rfl, rfl, s2, same_trans hs1 hs2, hr2, rfl⟩
end Go.Proofs.Ytihambjhlhgaeaa.Cc
