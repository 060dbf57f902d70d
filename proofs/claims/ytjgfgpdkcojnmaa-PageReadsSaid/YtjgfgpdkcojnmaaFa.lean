/-
  Sums over bytes: the code's and the document's are one. Conditions: each theorem's own.
-/
import Derived.Test.YtjgfgpdkcojnmaaKA
import Derived.Test.YtjgfgpdkcojnmaaKY

namespace Go.Proofs.Ytjgfgpdkcojnmaa.Pg
open Go Go.K Go.Proofs Go.Proofs.Ytjgfgpdkcojnmaa
set_option linter.unusedVariables false
set_option linter.unusedSimpArgs false
set_option maxRecDepth 10000

theorem bits_and_u32 (a b : Nat) (ha : a < 4294967296) (hb : b < 4294967296) : bits .and .u32 (a : Int) (b : Int) = ((a &&& b : Nat) : Int) := by
  have hx : a &&& b < 2 ^ 32 := Nat.and_lt_two_pow _ (by omega)
  have h1 : (BitVec.ofInt 32 (a : Int)).toNat = a := by
    rw [BitVec.ofInt_natCast, BitVec.toNat_ofNat]; exact Nat.mod_eq_of_lt (by omega)
  have h2 : (BitVec.ofInt 32 (b : Int)).toNat = b := by
    rw [BitVec.ofInt_natCast, BitVec.toNat_ofNat]; exact Nat.mod_eq_of_lt (by omega)
  show IntKind.u32.wrap ((BitVec.ofInt 32 (a : Int) &&& BitVec.ofInt 32 (b : Int)).toNat : Int) = _
  rw [BitVec.toNat_and, h1, h2, K.wu32]
  omega
theorem bits_xor_u32 (a b : Nat) (ha : a < 4294967296) (hb : b < 4294967296) : bits .xor .u32 (a : Int) (b : Int) = ((a ^^^ b : Nat) : Int) := by
  have hx : a ^^^ b < 2 ^ 32 := Nat.xor_lt_two_pow (by omega) (by omega)
  have h1 : (BitVec.ofInt 32 (a : Int)).toNat = a := by
    rw [BitVec.ofInt_natCast, BitVec.toNat_ofNat]; exact Nat.mod_eq_of_lt (by omega)
  have h2 : (BitVec.ofInt 32 (b : Int)).toNat = b := by
    rw [BitVec.ofInt_natCast, BitVec.toNat_ofNat]; exact Nat.mod_eq_of_lt (by omega)
  show IntKind.u32.wrap ((BitVec.ofInt 32 (a : Int) ^^^ BitVec.ofInt 32 (b : Int)).toNat : Int) = _
  rw [BitVec.toNat_xor, h1, h2, K.wu32]
  omega
/-- One bit of a sum; a byte; bytes. -/
def stepQ (s : Nat) : Nat := if s % 2 = 1 then (s / 2) ^^^ 2197175160 else s / 2
def stepsQ : Nat → Nat → Nat
  | 0, s => s
  | k + 1, s => stepQ (stepsQ k s)
def byteQ (s : Nat) (c : UInt8) : Nat := stepsQ 8 (s ^^^ c.toNat)
def sumQ (s : Nat) (l : List UInt8) : Nat := (l.foldl byteQ (s ^^^ 4294967295)) ^^^ 4294967295
theorem xor_lt {a b : Nat} (ha : a < 4294967296) (hb : b < 4294967296) : a ^^^ b < 4294967296 := Nat.xor_lt_two_pow (n := 32) ha hb
theorem stepQ_lt {s : Nat} (h : s < 4294967296) : stepQ s < 4294967296 := by
  unfold stepQ
  split
  · exact xor_lt (by omega) (by decide)
  · omega
theorem stepsQ_lt {s : Nat} (h : s < 4294967296) : ∀ k, stepsQ k s < 4294967296
  | 0 => h
  | k + 1 => stepQ_lt (stepsQ_lt h k)
theorem byteQ_lt {s : Nat} (h : s < 4294967296) (c : UInt8) : byteQ s c < 4294967296 := stepsQ_lt (xor_lt h (by have := c.toNat_lt; omega)) 8
theorem foldQ_lt : ∀ (l : List UInt8) {s : Nat}, s < 4294967296 → l.foldl byteQ s < 4294967296
  | [], _, h => h
  | c :: l, _, h => foldQ_lt l (byteQ_lt h c)
theorem sumQ_lt {s : Nat} (h : s < 4294967296) (l : List UInt8) : sumQ s l < 4294967296 := xor_lt (foldQ_lt l (xor_lt h (by decide))) (by decide)
theorem fold_at {l : List UInt8} {j : Nat} {c : UInt8} (h : l[j]? = some c) (s : Nat) : (l.take (j + 1)).foldl byteQ s = byteQ ((l.take j).foldl byteQ s) c := by
  rw [List.take_add_one, h, List.foldl_append]; rfl
theorem and_one (s : Nat) : s &&& 1 = s % 2 := Nat.and_one_is_mod s
/-- The code's bit. -/
theorem step_code (s : Nat) (h : s < 4294967296) : bits .xor .u32 ((s : Int).fdiv (2 ^ (min (1 : Int).toNat IntKind.u32.bits))) (bits .and .u32 2197175160 (IntKind.u32.wrap (0 - bits .and .u32 (s : Int) 1))) = ((stepQ s : Nat) : Int) := by
  have e1 : (s : Int).fdiv (2 ^ (min (1 : Int).toNat IntKind.u32.bits)) = ((s / 2 : Nat) : Int) := by
    show (s : Int).fdiv 2 = _
    rw [Int.fdiv_eq_ediv_of_nonneg _ (by decide)]; omega
  have e2 : bits .and .u32 (s : Int) 1 = ((s % 2 : Nat) : Int) := by
    rw [show (1 : Int) = ((1 : Nat) : Int) from rfl, bits_and_u32 s 1 h (by decide), and_one]
  rw [e1, e2, K.wu32, show (2197175160 : Int) = ((2197175160 : Nat) : Int) from rfl]
  unfold stepQ
  by_cases hs : s % 2 = 1
  · rw [if_pos hs, hs, show (0 - ((1 : Nat) : Int)) % 4294967296 = ((4294967295 : Nat) : Int) by decide, bits_and_u32 _ _ (by decide) (by decide), show 2197175160 &&& 4294967295 = 2197175160 by decide, bits_xor_u32 _ _ (by omega) (by decide)]
  · have h0 : s % 2 = 0 := by omega
    rw [if_neg hs, h0, show (0 - ((0 : Nat) : Int)) % 4294967296 = ((0 : Nat) : Int) by decide, bits_and_u32 _ _ (by decide) (by decide), show 2197175160 &&& 0 = 0 by decide, bits_xor_u32 _ _ (by omega) (by decide), Nat.xor_zero]
theorem More (h : Base) (v : Value) (l : List UInt8) (s : Nat) (hv : BV h v l) (hs : s < 4294967296) (hl : l.length ≤ 9223372036854775807) : TrV Try.prog 81 [.int .u32 s, v] h [] (.int .u32 (sumQ s l)) [] := by
  obtain ⟨ao, ca, rfl⟩ := hv.len
  refine K.enter Try.func81 rfl (Nat.le_of_ble_eq_true rfl) (fun F => ?_)
  simp only [List.nil_append]
  (repeat' (first | (apply K.s_pure; (first | (apply Y.mv; exact X.mv) | (apply Y.sg; exact X.sg) | (apply Y.cv; exact X.cv) | (apply Y.ld; exact X.ld) | (apply Y.ia; exact X.ia) | (apply Y.len; exact X.len) | (apply Y.ng; exact X.ng) | (apply Y.badd; exact X.badd) | (apply Y.blss; exact X.blss) | (apply Y.band; exact X.band) | (apply Y.bxor; exact X.bxor) | (apply Y.bshr; exact X.bshr)); exact rfl) | refine X.l ?_ | refine X.w ?_ | refine X.a ?_ | (refine K.c_condD rfl (fun hc => ?_) (fun hc => ?_) <;> first | (exfalso; omega) | skip) | refine K.c_cond rfl (fun hc => ?_) (fun hc => ?_)))
  refine K.s_pure (K.p_compl rfl rfl) rfl ?_
  rw [show bits .xor .u32 (if IntKind.u32.signed then -1 else IntKind.u32.max) (s : Int) = ((s ^^^ 4294967295 : Nat) : Int) by
    rw [Nat.xor_comm]; exact bits_xor_u32 4294967295 s (by decide) hs]
  have hs0 := xor_lt hs (show 4294967295 < 4294967296 by decide)
  unfold sumQ
  generalize s ^^^ 4294967295 = s0 at hs0 ⊢
  (repeat' (first | (apply K.s_pure; (first | (apply Y.mv; exact X.mv) | (apply Y.sg; exact X.sg) | (apply Y.cv; exact X.cv) | (apply Y.ld; exact X.ld) | (apply Y.ia; exact X.ia) | (apply Y.len; exact X.len) | (apply Y.ng; exact X.ng) | (apply Y.badd; exact X.badd) | (apply Y.blss; exact X.blss) | (apply Y.band; exact X.band) | (apply Y.bxor; exact X.bxor) | (apply Y.bshr; exact X.bshr)); exact rfl) | refine X.l ?_ | refine X.w ?_ | refine X.a ?_ | (refine K.c_condD rfl (fun hc => ?_) (fun hc => ?_) <;> first | (exfalso; omega) | skip) | refine K.c_cond rfl (fun hc => ?_) (fun hc => ?_)))
  refine K.c_loop (σ := Nat) (fun j => [(0, .int .u32 (((l.take j).foldl byteQ s0 : Nat) : Int)), (9, .slice ao l.length ca), (10, .int .i64 l.length), (11, .int .i64 j)]) (fun _ => h) (fun _ => F) (fun j => j ≤ l.length) (fun j => l.length - j) 0 (Nat.zero_le _) (by repeat (first | exact K.Sub.nil _ | refine K.Sub.cons rfl ?_)) rfl rfl ?_
  rintro j hj KL hKL
  have hlt := foldQ_lt (l.take j) hs0
  by_cases hjl : j < l.length
  · have hc1 : l[j]? = some l[j] := List.getElem?_eq_getElem hjl
    have hc0 : l[((j : Nat) : Int).toNat]? = some l[j] := by rw [Int.toNat_natCast]; exact hc1
    generalize l[j] = c at hc0 hc1
    have hcl := c.toNat_lt
    have hat := fold_at hc1 s0
    generalize hsj : (l.take j).foldl byteQ s0 = sj at hlt hat ⊢
    (repeat' (first | (apply K.s_pure; (first | (apply Y.mv; exact X.mv) | (apply Y.sg; exact X.sg) | (apply Y.cv; exact X.cv) | (apply Y.ld; exact X.ld) | (apply Y.ia; exact X.ia) | (apply Y.len; exact X.len) | (apply Y.ng; exact X.ng) | (apply Y.badd; exact X.badd) | (apply Y.blss; exact X.blss) | (apply Y.band; exact X.band) | (apply Y.bxor; exact X.bxor) | (apply Y.bshr; exact X.bshr)); exact rfl) | refine X.l ?_ | refine X.w ?_ | refine X.a ?_ | (refine K.c_condD rfl (fun hc => ?_) (fun hc => ?_) <;> first | (exfalso; omega) | skip) | refine K.c_cond rfl (fun hc => ?_) (fun hc => ?_)))
    refine K.s_pureE (K.p_indexB hv (Fx.und rfl) (Fx.sz rfl) rfl rfl (by omega) hc0) rfl ?_
    rintro v2 ⟨b, o, rfl, hcel⟩
    refine K.s_pure (K.p_load (Fx.agg rfl) rfl (K.Cel.up hcel)) rfl ?_
    (repeat' (first | (apply K.s_pure; (first | (apply Y.mv; exact X.mv) | (apply Y.sg; exact X.sg) | (apply Y.cv; exact X.cv) | (apply Y.ld; exact X.ld) | (apply Y.ia; exact X.ia) | (apply Y.len; exact X.len) | (apply Y.ng; exact X.ng) | (apply Y.badd; exact X.badd) | (apply Y.blss; exact X.blss) | (apply Y.band; exact X.band) | (apply Y.bxor; exact X.bxor) | (apply Y.bshr; exact X.bshr)); exact rfl) | refine X.l ?_ | refine X.w ?_ | refine X.a ?_ | (refine K.c_condD rfl (fun hc => ?_) (fun hc => ?_) <;> first | (exfalso; omega) | skip) | refine K.c_cond rfl (fun hc => ?_) (fun hc => ?_)))
    rw [bits_xor_u32 sj c.toNat hlt (by omega)]
    have hb0 := xor_lt hlt (show c.toNat < 4294967296 by omega)
    refine K.c_loop (σ := Nat) (fun k => [(0, .int .u32 ((stepsQ k (sj ^^^ c.toNat) : Nat) : Int)), (9, .slice ao l.length ca), (10, .int .i64 l.length), (11, .int .i64 j), (19, .int .i64 k)]) (fun _ => h) (fun _ => F) (fun k => k ≤ 8) (fun k => 8 - k) 0 (by decide) (by repeat (first | exact K.Sub.nil _ | refine K.Sub.cons rfl ?_)) rfl rfl ?_
    rintro k hk KM hKM
    have hk0 := stepsQ_lt hb0 k
    by_cases hk8 : k < 8
    · (repeat' (first | (apply K.s_pure; (first | (apply Y.mv; exact X.mv) | (apply Y.sg; exact X.sg) | (apply Y.cv; exact X.cv) | (apply Y.ld; exact X.ld) | (apply Y.ia; exact X.ia) | (apply Y.len; exact X.len) | (apply Y.ng; exact X.ng) | (apply Y.badd; exact X.badd) | (apply Y.blss; exact X.blss) | (apply Y.band; exact X.band) | (apply Y.bxor; exact X.bxor) | (apply Y.bshr; exact X.bshr)); exact rfl) | refine X.l ?_ | refine X.w ?_ | refine X.a ?_ | (refine K.c_condD rfl (fun hc => ?_) (fun hc => ?_) <;> first | (exfalso; omega) | skip) | refine K.c_cond rfl (fun hc => ?_) (fun hc => ?_)))
      rw [step_code _ hk0]
      refine K.a_round hKM (k + 1) (by omega) (by repeat (first | exact K.Sub.nil _ | refine K.Sub.cons rfl ?_)) rfl rfl (by omega)
    · obtain rfl : k = 8 := by omega
      (repeat' (first | (apply K.s_pure; (first | (apply Y.mv; exact X.mv) | (apply Y.sg; exact X.sg) | (apply Y.cv; exact X.cv) | (apply Y.ld; exact X.ld) | (apply Y.ia; exact X.ia) | (apply Y.len; exact X.len) | (apply Y.ng; exact X.ng) | (apply Y.badd; exact X.badd) | (apply Y.blss; exact X.blss) | (apply Y.band; exact X.band) | (apply Y.bxor; exact X.bxor) | (apply Y.bshr; exact X.bshr)); exact rfl) | refine X.l ?_ | refine X.w ?_ | refine X.a ?_ | (refine K.c_condD rfl (fun hc => ?_) (fun hc => ?_) <;> first | (exfalso; omega) | skip) | refine K.c_cond rfl (fun hc => ?_) (fun hc => ?_)))
      refine K.a_round hKL (j + 1) (by omega) ?_ rfl rfl (by omega)
      rw [hat]
      exact (by repeat (first | exact K.Sub.nil _ | refine K.Sub.cons rfl ?_))
  · obtain rfl : j = l.length := by omega
    rw [List.take_length] at hlt ⊢
    (repeat' (first | (apply K.s_pure; (first | (apply Y.mv; exact X.mv) | (apply Y.sg; exact X.sg) | (apply Y.cv; exact X.cv) | (apply Y.ld; exact X.ld) | (apply Y.ia; exact X.ia) | (apply Y.len; exact X.len) | (apply Y.ng; exact X.ng) | (apply Y.badd; exact X.badd) | (apply Y.blss; exact X.blss) | (apply Y.band; exact X.band) | (apply Y.bxor; exact X.bxor) | (apply Y.bshr; exact X.bshr)); exact rfl) | refine X.l ?_ | refine X.w ?_ | refine X.a ?_ | (refine K.c_condD rfl (fun hc => ?_) (fun hc => ?_) <;> first | (exfalso; omega) | skip) | refine K.c_cond rfl (fun hc => ?_) (fun hc => ?_)))
    refine K.s_pure (K.p_compl rfl rfl) rfl ?_
    rw [show bits .xor .u32 (if IntKind.u32.signed then -1 else IntKind.u32.max) ((l.foldl byteQ s0 : Nat) : Int) = ((l.foldl byteQ s0 ^^^ 4294967295 : Nat) : Int) by
      rw [Nat.xor_comm]; exact bits_xor_u32 4294967295 _ (by decide) hlt]
    (repeat' (first | (apply K.s_pure; (first | (apply Y.mv; exact X.mv) | (apply Y.sg; exact X.sg) | (apply Y.cv; exact X.cv) | (apply Y.ld; exact X.ld) | (apply Y.ia; exact X.ia) | (apply Y.len; exact X.len) | (apply Y.ng; exact X.ng) | (apply Y.badd; exact X.badd) | (apply Y.blss; exact X.blss) | (apply Y.band; exact X.band) | (apply Y.bxor; exact X.bxor) | (apply Y.bshr; exact X.bshr)); exact rfl) | refine X.l ?_ | refine X.w ?_ | refine X.a ?_ | (refine K.c_condD rfl (fun hc => ?_) (fun hc => ?_) <;> first | (exfalso; omega) | skip) | refine K.c_cond rfl (fun hc => ?_) (fun hc => ?_)))
    refine K.done (by first | exact Or.inl rfl | exact Or.inr rfl) rfl (by first | exact K.Base.le.refl _ | assumption) (H' := []) rfl ⟨rfl, rfl, rfl⟩
theorem RMore (h : Base) (v : Value) (l : List UInt8) (s : Nat) (hv : BV h v l) (hs : s < 4294967296) (hl : l.length ≤ 9223372036854775807) : TrV Try.prog 82 [.int .u32 s, v] h [] (.int .u32 (sumQ s l)) [] := by
  obtain ⟨ao, ca, rfl⟩ := hv.len
  refine K.enter Try.func82 rfl (Nat.le_of_ble_eq_true rfl) (fun F => ?_)
  simp only [List.nil_append]
  have e0 : bits .xor .u32 (s : Int) 4294967295 = ((s ^^^ 4294967295 : Nat) : Int) := bits_xor_u32 s 4294967295 hs (by decide)
  have hs0 := xor_lt hs (show 4294967295 < 4294967296 by decide)
  unfold sumQ
  (repeat' (first | (apply K.s_pure; (first | (apply Y.mv; exact X.mv) | (apply Y.sg; exact X.sg) | (apply Y.cv; exact X.cv) | (apply Y.ld; exact X.ld) | (apply Y.ia; exact X.ia) | (apply Y.len; exact X.len) | (apply Y.badd; exact X.badd) | (apply Y.beql; exact X.beql) | (apply Y.blss; exact X.blss) | (apply Y.bxor; exact X.bxor) | (apply Y.bquo; exact X.bquo) | (apply Y.brem; exact X.brem)); exact rfl) | refine X.l ?_ | refine X.w ?_ | refine X.a ?_ | (refine K.c_condD rfl (fun hc => ?_) (fun hc => ?_) <;> first | (exfalso; omega) | skip) | refine K.c_cond rfl (fun hc => ?_) (fun hc => ?_)))
  rw [e0]
  generalize s ^^^ 4294967295 = s0 at hs0 ⊢
  refine K.c_loop (σ := Nat) (fun j => [(1, .slice ao l.length ca), (5, .int .u32 (((l.take j).foldl byteQ s0 : Nat) : Int)), (6, .int .i64 j)]) (fun _ => h) (fun _ => F) (fun j => j ≤ l.length) (fun j => l.length - j) 0 (Nat.zero_le _) (by repeat (first | exact K.Sub.nil _ | refine K.Sub.cons rfl ?_)) rfl rfl ?_
  rintro j hj KL hKL
  have hlt := foldQ_lt (l.take j) hs0
  by_cases hjl : j < l.length
  · have hc1 : l[j]? = some l[j] := List.getElem?_eq_getElem hjl
    have hc0 : l[((j : Nat) : Int).toNat]? = some l[j] := by rw [Int.toNat_natCast]; exact hc1
    generalize l[j] = c at hc0 hc1
    have hcl := c.toNat_lt
    have hat := fold_at hc1 s0
    generalize hsj : (l.take j).foldl byteQ s0 = sj at hlt hat ⊢
    (repeat' (first | (apply K.s_pure; (first | (apply Y.mv; exact X.mv) | (apply Y.sg; exact X.sg) | (apply Y.cv; exact X.cv) | (apply Y.ld; exact X.ld) | (apply Y.ia; exact X.ia) | (apply Y.len; exact X.len) | (apply Y.badd; exact X.badd) | (apply Y.beql; exact X.beql) | (apply Y.blss; exact X.blss) | (apply Y.bxor; exact X.bxor) | (apply Y.bquo; exact X.bquo) | (apply Y.brem; exact X.brem)); exact rfl) | refine X.l ?_ | refine X.w ?_ | refine X.a ?_ | (refine K.c_condD rfl (fun hc => ?_) (fun hc => ?_) <;> first | (exfalso; omega) | skip) | refine K.c_cond rfl (fun hc => ?_) (fun hc => ?_)))
    refine K.s_pureE (K.p_indexB hv (Fx.und rfl) (Fx.sz rfl) rfl rfl (by omega) hc0) rfl ?_
    rintro v2 ⟨b, o, rfl, hcel⟩
    refine K.s_pure (K.p_load (Fx.agg rfl) rfl (K.Cel.up hcel)) rfl ?_
    (repeat' (first | (apply K.s_pure; (first | (apply Y.mv; exact X.mv) | (apply Y.sg; exact X.sg) | (apply Y.cv; exact X.cv) | (apply Y.ld; exact X.ld) | (apply Y.ia; exact X.ia) | (apply Y.len; exact X.len) | (apply Y.badd; exact X.badd) | (apply Y.beql; exact X.beql) | (apply Y.blss; exact X.blss) | (apply Y.bxor; exact X.bxor) | (apply Y.bquo; exact X.bquo) | (apply Y.brem; exact X.brem)); exact rfl) | refine X.l ?_ | refine X.w ?_ | refine X.a ?_ | (refine K.c_condD rfl (fun hc => ?_) (fun hc => ?_) <;> first | (exfalso; omega) | skip) | refine K.c_cond rfl (fun hc => ?_) (fun hc => ?_)))
    rw [bits_xor_u32 sj c.toNat hlt (by omega)]
    have hb0 := xor_lt hlt (show c.toNat < 4294967296 by omega)
    refine K.c_loop (σ := Nat) (fun k => [(1, .slice ao l.length ca), (5, .int .u32 ((stepsQ k (sj ^^^ c.toNat) : Nat) : Int)), (6, .int .i64 j), (7, .int .i64 k)]) (fun _ => h) (fun _ => F) (fun k => k ≤ 8) (fun k => 8 - k) 0 (by decide) (by repeat (first | exact K.Sub.nil _ | refine K.Sub.cons rfl ?_)) rfl rfl ?_
    rintro k hk KM hKM
    have hk0 := stepsQ_lt hb0 k
    have hst : stepsQ (k + 1) (sj ^^^ c.toNat) = stepQ (stepsQ k (sj ^^^ c.toNat)) := rfl
    by_cases hk8 : k < 8
    · generalize hsk : stepsQ k (sj ^^^ c.toNat) = sk at hk0 hst ⊢
      have hq : IntKind.u32.wrap ((sk : Int).tdiv 2) = ((sk / 2 : Nat) : Int) := by
        rw [Int.tdiv_eq_ediv_of_nonneg (by omega), K.wu32]; omega
      have hx : bits .xor .u32 ((sk / 2 : Nat) : Int) 2197175160 = (((sk / 2) ^^^ 2197175160 : Nat) : Int) := bits_xor_u32 (sk / 2) 2197175160 (by omega) (by decide)
      (repeat' (first | (apply K.s_pure; (first | (apply Y.mv; exact X.mv) | (apply Y.sg; exact X.sg) | (apply Y.cv; exact X.cv) | (apply Y.ld; exact X.ld) | (apply Y.ia; exact X.ia) | (apply Y.len; exact X.len) | (apply Y.badd; exact X.badd) | (apply Y.beql; exact X.beql) | (apply Y.blss; exact X.blss) | (apply Y.bxor; exact X.bxor) | (apply Y.bquo; exact X.bquo) | (apply Y.brem; exact X.brem)); exact rfl) | refine X.l ?_ | refine X.w ?_ | refine X.a ?_ | (refine K.c_condD rfl (fun hc => ?_) (fun hc => ?_) <;> first | (exfalso; omega) | skip) | refine K.c_cond rfl (fun hc => ?_) (fun hc => ?_)))
      · rw [hq, hx]
        refine K.a_round hKM (k + 1) (by omega) ?_ rfl rfl (by omega)
        rw [hst, stepQ, if_pos (by omega)]
        exact (by repeat (first | exact K.Sub.nil _ | refine K.Sub.cons rfl ?_))
      · rw [hq]
        refine K.a_round hKM (k + 1) (by omega) ?_ rfl rfl (by omega)
        rw [hst, stepQ, if_neg (by omega)]
        exact (by repeat (first | exact K.Sub.nil _ | refine K.Sub.cons rfl ?_))
    · obtain rfl : k = 8 := by omega
      (repeat' (first | (apply K.s_pure; (first | (apply Y.mv; exact X.mv) | (apply Y.sg; exact X.sg) | (apply Y.cv; exact X.cv) | (apply Y.ld; exact X.ld) | (apply Y.ia; exact X.ia) | (apply Y.len; exact X.len) | (apply Y.badd; exact X.badd) | (apply Y.beql; exact X.beql) | (apply Y.blss; exact X.blss) | (apply Y.bxor; exact X.bxor) | (apply Y.bquo; exact X.bquo) | (apply Y.brem; exact X.brem)); exact rfl) | refine X.l ?_ | refine X.w ?_ | refine X.a ?_ | (refine K.c_condD rfl (fun hc => ?_) (fun hc => ?_) <;> first | (exfalso; omega) | skip) | refine K.c_cond rfl (fun hc => ?_) (fun hc => ?_)))
      refine K.a_round hKL (j + 1) (by omega) ?_ rfl rfl (by omega)
      rw [hat]
      exact (by repeat (first | exact K.Sub.nil _ | refine K.Sub.cons rfl ?_))
  · obtain rfl : j = l.length := by omega
    rw [List.take_length] at hlt ⊢
    have e1 : bits .xor .u32 ((l.foldl byteQ s0 : Nat) : Int) 4294967295 = ((l.foldl byteQ s0 ^^^ 4294967295 : Nat) : Int) := bits_xor_u32 _ 4294967295 hlt (by decide)
    (repeat' (first | (apply K.s_pure; (first | (apply Y.mv; exact X.mv) | (apply Y.sg; exact X.sg) | (apply Y.cv; exact X.cv) | (apply Y.ld; exact X.ld) | (apply Y.ia; exact X.ia) | (apply Y.len; exact X.len) | (apply Y.badd; exact X.badd) | (apply Y.beql; exact X.beql) | (apply Y.blss; exact X.blss) | (apply Y.bxor; exact X.bxor) | (apply Y.bquo; exact X.bquo) | (apply Y.brem; exact X.brem)); exact rfl) | refine X.l ?_ | refine X.w ?_ | refine X.a ?_ | (refine K.c_condD rfl (fun hc => ?_) (fun hc => ?_) <;> first | (exfalso; omega) | skip) | refine K.c_cond rfl (fun hc => ?_) (fun hc => ?_)))
    rw [e1]
    refine K.done (by first | exact Or.inl rfl | exact Or.inr rfl) rfl (by first | exact K.Base.le.refl _ | assumption) (H' := []) rfl ⟨rfl, rfl, rfl⟩
theorem SumOf (h : Base) (v : Value) (l : List UInt8) (hv : BV h v l) (hl : l.length ≤ 9223372036854775807) : TrV Try.prog 51 [v] h [] (.int .u32 (sumQ 0 l)) [] := by
  refine K.enter Try.func51 rfl (Nat.le_of_ble_eq_true rfl) (fun F => ?_)
  simp only [List.nil_append]
  (repeat' (first | (apply K.s_pure; (first | (apply Y.mv; exact X.mv) | (apply Y.sg; exact X.sg)); exact rfl) | refine X.l ?_ | refine X.w ?_ | refine X.a ?_ | (refine K.c_condD rfl (fun hc => ?_) (fun hc => ?_) <;> first | (exfalso; omega) | skip) | refine K.c_cond rfl (fun hc => ?_) (fun hc => ?_)))
  refine K.l_callV (Fx.cal rfl) rfl (More h v l 0 hv (by decide) hl) (K.pp [] rfl) rfl rfl ?_
  simp only [List.nil_append]
  (repeat' (first | (apply K.s_pure; (first | (apply Y.mv; exact X.mv) | (apply Y.sg; exact X.sg)); exact rfl) | refine X.l ?_ | refine X.w ?_ | refine X.a ?_ | (refine K.c_condD rfl (fun hc => ?_) (fun hc => ?_) <;> first | (exfalso; omega) | skip) | refine K.c_cond rfl (fun hc => ?_) (fun hc => ?_)))
  refine K.done (by first | exact Or.inl rfl | exact Or.inr rfl) rfl (by first | exact K.Base.le.refl _ | assumption) (H' := []) rfl ⟨rfl, rfl, rfl⟩
theorem RSumOf (h : Base) (v : Value) (l : List UInt8) (hv : BV h v l) (hl : l.length ≤ 9223372036854775807) : TrV Try.prog 54 [v] h [] (.int .u32 (sumQ 0 l)) [] := by
  refine K.enter Try.func54 rfl (Nat.le_of_ble_eq_true rfl) (fun F => ?_)
  simp only [List.nil_append]
  (repeat' (first | (apply K.s_pure; (first | (apply Y.mv; exact X.mv) | (apply Y.sg; exact X.sg)); exact rfl) | refine X.l ?_ | refine X.w ?_ | refine X.a ?_ | (refine K.c_condD rfl (fun hc => ?_) (fun hc => ?_) <;> first | (exfalso; omega) | skip) | refine K.c_cond rfl (fun hc => ?_) (fun hc => ?_)))
  refine K.l_callV (Fx.cal rfl) rfl (RMore h v l 0 hv (by decide) hl) (K.pp [] rfl) rfl rfl ?_
  simp only [List.nil_append]
  (repeat' (first | (apply K.s_pure; (first | (apply Y.mv; exact X.mv) | (apply Y.sg; exact X.sg)); exact rfl) | refine X.l ?_ | refine X.w ?_ | refine X.a ?_ | (refine K.c_condD rfl (fun hc => ?_) (fun hc => ?_) <;> first | (exfalso; omega) | skip) | refine K.c_cond rfl (fun hc => ?_) (fun hc => ?_)))
  refine K.done (by first | exact Or.inl rfl | exact Or.inr rfl) rfl (by first | exact K.Base.le.refl _ | assumption) (H' := []) rfl ⟨rfl, rfl, rfl⟩
end Go.Proofs.Ytjgfgpdkcojnmaa.Pg
