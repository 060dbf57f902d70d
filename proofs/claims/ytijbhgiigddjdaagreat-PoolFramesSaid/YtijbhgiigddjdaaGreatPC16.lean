/-
 The walks of package code, the reader: numbers, texts, bytes. Conditions: each theorem's own.
-/
import Derived.Test.YtijbhgiigddjdaaGreatPC15
set_option linter.unusedVariables false
set_option linter.unusedSimpArgs false
set_option maxRecDepth 10000
set_option maxHeartbeats 16000000
namespace Go.Proofs.YtijbhgiigddjdaaGreat.Cc
open Go.K

def getN (ok : Bool) (m : Nat) (rem : List UInt8) : Nat := if ok = true ∧ m ≤ rem.length then leNum (rem.take m) else 0
def getOk (ok : Bool) (m : Nat) (rem : List UInt8) : Bool := ok && decide (m ≤ rem.length)
def getRem (ok : Bool) (m : Nat) (rem : List UInt8) : List UInt8 := if ok = true ∧ m ≤ rem.length then rem.drop m else rem

theorem get_u8 (h : Base) (s : Option RS) (ok : Bool) (rem : List UInt8) (hr : Rd h s ok rem) (hl : rem.length ≤ big) :
  Tr Tryz.prog 106 [rv s, .int .i64 1] h [rA s] (RPost h s (getOk ok 1 rem) (getRem ok 1 rem) (· = .int .u8 (getN ok 1 rem : Nat))) := by
 by_cases hok : ok = true ∧ 1 ≤ rem.length
 ·obtain ⟨rfl, hm⟩ := hok
  refine K.en Tryz.func106 fun F => ?_
  (repeat' first | refine X.rq ?_ | refine X.rc ?_ ?_ <;> intro hc <;> try omega)
  refine K.l_call (Fx.cal rfl) rfl (R_take h s rem 1 hr hl hm) (K.pp [0] rfl) rfl ?_
  rintro v h' H' - ⟨rfl, ⟨v1, rfl, hv1⟩, s', hs, hr', rfl⟩
  have hlen : (rem.take 1).length = 1 := by simp; omega
  have hlt := leNum_lt (rem.take 1)
  rw [hlen] at hlt
  have hlt : leNum (rem.take 1) < 256 := hlt
  simp only [getOk, getRem, getN, hm, true_and, decide_true, Bool.and_true, if_true, and_self]
  generalize rem.take 1 = l at hv1 hlen hlt ⊢
  (repeat' first | refine X.rq ?_ | refine X.rc ?_ ?_ <;> intro hc <;> try omega)
  refine K.s_pure (K.p_lenB hv1 (Fx.und rfl) rfl) rfl ?_
  (repeat' first | refine X.rq ?_ | refine X.rc ?_ ?_ <;> intro hc <;> try omega)
  refine K.c_loop (σ := Nat) (fun j => [(7, .int .u64 (leNum (l.take j) : Nat)), (16, v1), (17, .int .i64 l.length), (18, .int .i64 j)]) (fun _ => h) (fun _ => rA s' :: F)
   (fun j => j ≤ l.length) (fun j => l.length - j) 0 (Nat.zero_le _) (by repeat (first | exact K.Sub.nil _ | refine K.Sub.cons rfl ?_)) rfl rfl ?_
  intro j hj KL hKL
  have hb : leNum (l.take j) < 256 := by
   have h1 := leNum_lt (l.take j)
   rw [List.length_take, Nat.min_eq_left hj] at h1
   exact Nat.lt_of_lt_of_le h1 (Nat.pow_le_pow_right (n := 256) (j := 1) (by omega) (by omega))
  (repeat' first | refine X.rq ?_ | refine X.rc ?_ ?_ <;> intro hc <;> try omega)
  ·have hjl : j < l.length := by omega
   have hc0 : l[((j : Nat) : Int).toNat]? = some l[j] := by simp [hjl]
   refine K.s_pureE (K.p_indexB hv1 (Fx.und rfl) (Fx.sz rfl) rfl rfl (by omega) hc0) rfl ?_
   rintro v2 ⟨b, o, rfl, hcel⟩
   have hcel' := hcel.up (K := rA s' :: F)
   unfold K.u8 at hcel'
   have hcl : (l[j]).toNat < 256 := (l[j]).toNat_lt
   (repeat' first | refine X.rq ?_ | refine X.rc ?_ ?_ <;> intro hc <;> try omega)
   have htk : leNum (l.take j) < 2 ^ (8 * j) := by
    have h1 := leNum_lt (l.take j)
    rw [List.length_take, Nat.min_eq_left hj] at h1
    rwa [Nat.pow_mul]
   have hos := K.or_shift (leNum (l.take j)) (l[j]).toNat (8 * j) 8 htk hcl (by omega)
   rw [show (((8 * j : Nat)) : Int) = 8 * (j : Int) from by omega] at hos
   rw [hos, Nat.pow_mul]
   refine K.a_round hKL (j + 1) (by omega) ?_ rfl rfl (by omega)
   have hsn : leNum (l.take (j + 1)) = leNum (l.take j) + (l[j]).toNat * 256 ^ j := by
    rw [List.take_succ_eq_append_getElem hjl, leNum_snoc, List.length_take, Nat.min_eq_left hj]
   rw [hsn]
   exact (by repeat (first | exact K.Sub.nil _ | refine K.Sub.cons rfl ?_))
  ·obtain rfl : j = l.length := by omega
   rw [List.take_length]
   refine K.dl rfl (H' := [rA s']) rfl ⟨rfl, rfl, s', hs, hr', rfl⟩
 ·refine K.en Tryz.func106 fun F => ?_
  (repeat' first | refine X.rq ?_ | refine X.rc ?_ ?_ <;> intro hc <;> try omega)
  refine K.l_call (Fx.cal rfl) rfl (R_take_no h s ok rem 1 hr hl (by omega) (by omega) (by
   cases ok with
   | false => exact .inl rfl
   | true =>
    have : ¬ 1 ≤ rem.length := fun e => hok ⟨rfl, e⟩
    right; right; omega)) (K.pp [0] rfl) rfl ?_
  rintro v h' H' - ⟨rfl, rfl, s', hs, hr', rfl⟩
  have e1 : getOk ok 1 rem = false := by
   unfold getOk
   cases ok with
   | false => rfl
   | true => rw [Bool.true_and]; exact decide_eq_false fun e => hok ⟨rfl, e⟩
  rw [e1, getRem, getN, if_neg hok, if_neg hok]
  (repeat' first | refine X.rq ?_ | refine X.rc ?_ ?_ <;> intro hc <;> try omega)
  refine K.c_loop (σ := Unit) (fun _ => [(7, .int .u64 0), (17, .int .i64 0), (18, .int .i64 0)]) (fun _ => h) (fun _ => rA s' :: F)
   (fun _ => True) (fun _ => 0) () trivial (by repeat (first | exact K.Sub.nil _ | refine K.Sub.cons rfl ?_)) rfl rfl ?_
  intro _ _ KL hKL
  (repeat' first | refine X.rq ?_ | refine X.rc ?_ ?_ <;> intro hc <;> try omega)
  refine K.dl rfl (H' := [rA s']) rfl ⟨rfl, rfl, s', hs, hr', rfl⟩
theorem get_u16 (h : Base) (s : Option RS) (ok : Bool) (rem : List UInt8) (hr : Rd h s ok rem) (hl : rem.length ≤ big) :
  Tr Tryz.prog 108 [rv s, .int .i64 2] h [rA s] (RPost h s (getOk ok 2 rem) (getRem ok 2 rem) (· = .int .u16 (getN ok 2 rem : Nat))) := by
 by_cases hok : ok = true ∧ 2 ≤ rem.length
 ·obtain ⟨rfl, hm⟩ := hok
  refine K.en Tryz.func108 fun F => ?_
  (repeat' first | refine X.rq ?_ | refine X.rc ?_ ?_ <;> intro hc <;> try omega)
  refine K.l_call (Fx.cal rfl) rfl (R_take h s rem 2 hr hl hm) (K.pp [0] rfl) rfl ?_
  rintro v h' H' - ⟨rfl, ⟨v1, rfl, hv1⟩, s', hs, hr', rfl⟩
  have hlen : (rem.take 2).length = 2 := by simp; omega
  have hlt := leNum_lt (rem.take 2)
  rw [hlen] at hlt
  have hlt : leNum (rem.take 2) < 65536 := hlt
  simp only [getOk, getRem, getN, hm, true_and, decide_true, Bool.and_true, if_true, and_self]
  generalize rem.take 2 = l at hv1 hlen hlt ⊢
  (repeat' first | refine X.rq ?_ | refine X.rc ?_ ?_ <;> intro hc <;> try omega)
  refine K.s_pure (K.p_lenB hv1 (Fx.und rfl) rfl) rfl ?_
  (repeat' first | refine X.rq ?_ | refine X.rc ?_ ?_ <;> intro hc <;> try omega)
  refine K.c_loop (σ := Nat) (fun j => [(7, .int .u64 (leNum (l.take j) : Nat)), (16, v1), (17, .int .i64 l.length), (18, .int .i64 j)]) (fun _ => h) (fun _ => rA s' :: F)
   (fun j => j ≤ l.length) (fun j => l.length - j) 0 (Nat.zero_le _) (by repeat (first | exact K.Sub.nil _ | refine K.Sub.cons rfl ?_)) rfl rfl ?_
  intro j hj KL hKL
  have hb : leNum (l.take j) < 65536 := by
   have h1 := leNum_lt (l.take j)
   rw [List.length_take, Nat.min_eq_left hj] at h1
   exact Nat.lt_of_lt_of_le h1 (Nat.pow_le_pow_right (n := 256) (j := 2) (by omega) (by omega))
  (repeat' first | refine X.rq ?_ | refine X.rc ?_ ?_ <;> intro hc <;> try omega)
  ·have hjl : j < l.length := by omega
   have hc0 : l[((j : Nat) : Int).toNat]? = some l[j] := by simp [hjl]
   refine K.s_pureE (K.p_indexB hv1 (Fx.und rfl) (Fx.sz rfl) rfl rfl (by omega) hc0) rfl ?_
   rintro v2 ⟨b, o, rfl, hcel⟩
   have hcel' := hcel.up (K := rA s' :: F)
   unfold K.u8 at hcel'
   have hcl : (l[j]).toNat < 256 := (l[j]).toNat_lt
   (repeat' first | refine X.rq ?_ | refine X.rc ?_ ?_ <;> intro hc <;> try omega)
   have htk : leNum (l.take j) < 2 ^ (8 * j) := by
    have h1 := leNum_lt (l.take j)
    rw [List.length_take, Nat.min_eq_left hj] at h1
    rwa [Nat.pow_mul]
   have hos := K.or_shift (leNum (l.take j)) (l[j]).toNat (8 * j) 8 htk hcl (by omega)
   rw [show (((8 * j : Nat)) : Int) = 8 * (j : Int) from by omega] at hos
   rw [hos, Nat.pow_mul]
   refine K.a_round hKL (j + 1) (by omega) ?_ rfl rfl (by omega)
   have hsn : leNum (l.take (j + 1)) = leNum (l.take j) + (l[j]).toNat * 256 ^ j := by
    rw [List.take_succ_eq_append_getElem hjl, leNum_snoc, List.length_take, Nat.min_eq_left hj]
   rw [hsn]
   exact (by repeat (first | exact K.Sub.nil _ | refine K.Sub.cons rfl ?_))
  ·obtain rfl : j = l.length := by omega
   rw [List.take_length]
   refine K.dl rfl (H' := [rA s']) rfl ⟨rfl, rfl, s', hs, hr', rfl⟩
 ·refine K.en Tryz.func108 fun F => ?_
  (repeat' first | refine X.rq ?_ | refine X.rc ?_ ?_ <;> intro hc <;> try omega)
  refine K.l_call (Fx.cal rfl) rfl (R_take_no h s ok rem 2 hr hl (by omega) (by omega) (by
   cases ok with
   | false => exact .inl rfl
   | true =>
    have : ¬ 2 ≤ rem.length := fun e => hok ⟨rfl, e⟩
    right; right; omega)) (K.pp [0] rfl) rfl ?_
  rintro v h' H' - ⟨rfl, rfl, s', hs, hr', rfl⟩
  have e1 : getOk ok 2 rem = false := by
   unfold getOk
   cases ok with
   | false => rfl
   | true => rw [Bool.true_and]; exact decide_eq_false fun e => hok ⟨rfl, e⟩
  rw [e1, getRem, getN, if_neg hok, if_neg hok]
  (repeat' first | refine X.rq ?_ | refine X.rc ?_ ?_ <;> intro hc <;> try omega)
  refine K.c_loop (σ := Unit) (fun _ => [(7, .int .u64 0), (17, .int .i64 0), (18, .int .i64 0)]) (fun _ => h) (fun _ => rA s' :: F)
   (fun _ => True) (fun _ => 0) () trivial (by repeat (first | exact K.Sub.nil _ | refine K.Sub.cons rfl ?_)) rfl rfl ?_
  intro _ _ KL hKL
  (repeat' first | refine X.rq ?_ | refine X.rc ?_ ?_ <;> intro hc <;> try omega)
  refine K.dl rfl (H' := [rA s']) rfl ⟨rfl, rfl, s', hs, hr', rfl⟩
theorem get_u32 (h : Base) (s : Option RS) (ok : Bool) (rem : List UInt8) (hr : Rd h s ok rem) (hl : rem.length ≤ big) :
  Tr Tryz.prog 105 [rv s, .int .i64 4] h [rA s] (RPost h s (getOk ok 4 rem) (getRem ok 4 rem) (· = .int .u32 (getN ok 4 rem : Nat))) := by
 by_cases hok : ok = true ∧ 4 ≤ rem.length
 ·obtain ⟨rfl, hm⟩ := hok
  refine K.en Tryz.func105 fun F => ?_
  (repeat' first | refine X.rq ?_ | refine X.rc ?_ ?_ <;> intro hc <;> try omega)
  refine K.l_call (Fx.cal rfl) rfl (R_take h s rem 4 hr hl hm) (K.pp [0] rfl) rfl ?_
  rintro v h' H' - ⟨rfl, ⟨v1, rfl, hv1⟩, s', hs, hr', rfl⟩
  have hlen : (rem.take 4).length = 4 := by simp; omega
  have hlt := leNum_lt (rem.take 4)
  rw [hlen] at hlt
  have hlt : leNum (rem.take 4) < 4294967296 := hlt
  simp only [getOk, getRem, getN, hm, true_and, decide_true, Bool.and_true, if_true, and_self]
  generalize rem.take 4 = l at hv1 hlen hlt ⊢
  (repeat' first | refine X.rq ?_ | refine X.rc ?_ ?_ <;> intro hc <;> try omega)
  refine K.s_pure (K.p_lenB hv1 (Fx.und rfl) rfl) rfl ?_
  (repeat' first | refine X.rq ?_ | refine X.rc ?_ ?_ <;> intro hc <;> try omega)
  refine K.c_loop (σ := Nat) (fun j => [(7, .int .u64 (leNum (l.take j) : Nat)), (16, v1), (17, .int .i64 l.length), (18, .int .i64 j)]) (fun _ => h) (fun _ => rA s' :: F)
   (fun j => j ≤ l.length) (fun j => l.length - j) 0 (Nat.zero_le _) (by repeat (first | exact K.Sub.nil _ | refine K.Sub.cons rfl ?_)) rfl rfl ?_
  intro j hj KL hKL
  have hb : leNum (l.take j) < 4294967296 := by
   have h1 := leNum_lt (l.take j)
   rw [List.length_take, Nat.min_eq_left hj] at h1
   exact Nat.lt_of_lt_of_le h1 (Nat.pow_le_pow_right (n := 256) (j := 4) (by omega) (by omega))
  (repeat' first | refine X.rq ?_ | refine X.rc ?_ ?_ <;> intro hc <;> try omega)
  ·have hjl : j < l.length := by omega
   have hc0 : l[((j : Nat) : Int).toNat]? = some l[j] := by simp [hjl]
   refine K.s_pureE (K.p_indexB hv1 (Fx.und rfl) (Fx.sz rfl) rfl rfl (by omega) hc0) rfl ?_
   rintro v2 ⟨b, o, rfl, hcel⟩
   have hcel' := hcel.up (K := rA s' :: F)
   unfold K.u8 at hcel'
   have hcl : (l[j]).toNat < 256 := (l[j]).toNat_lt
   (repeat' first | refine X.rq ?_ | refine X.rc ?_ ?_ <;> intro hc <;> try omega)
   have htk : leNum (l.take j) < 2 ^ (8 * j) := by
    have h1 := leNum_lt (l.take j)
    rw [List.length_take, Nat.min_eq_left hj] at h1
    rwa [Nat.pow_mul]
   have hos := K.or_shift (leNum (l.take j)) (l[j]).toNat (8 * j) 8 htk hcl (by omega)
   rw [show (((8 * j : Nat)) : Int) = 8 * (j : Int) from by omega] at hos
   rw [hos, Nat.pow_mul]
   refine K.a_round hKL (j + 1) (by omega) ?_ rfl rfl (by omega)
   have hsn : leNum (l.take (j + 1)) = leNum (l.take j) + (l[j]).toNat * 256 ^ j := by
    rw [List.take_succ_eq_append_getElem hjl, leNum_snoc, List.length_take, Nat.min_eq_left hj]
   rw [hsn]
   exact (by repeat (first | exact K.Sub.nil _ | refine K.Sub.cons rfl ?_))
  ·obtain rfl : j = l.length := by omega
   rw [List.take_length]
   refine K.dl rfl (H' := [rA s']) rfl ⟨rfl, rfl, s', hs, hr', rfl⟩
 ·refine K.en Tryz.func105 fun F => ?_
  (repeat' first | refine X.rq ?_ | refine X.rc ?_ ?_ <;> intro hc <;> try omega)
  refine K.l_call (Fx.cal rfl) rfl (R_take_no h s ok rem 4 hr hl (by omega) (by omega) (by
   cases ok with
   | false => exact .inl rfl
   | true =>
    have : ¬ 4 ≤ rem.length := fun e => hok ⟨rfl, e⟩
    right; right; omega)) (K.pp [0] rfl) rfl ?_
  rintro v h' H' - ⟨rfl, rfl, s', hs, hr', rfl⟩
  have e1 : getOk ok 4 rem = false := by
   unfold getOk
   cases ok with
   | false => rfl
   | true => rw [Bool.true_and]; exact decide_eq_false fun e => hok ⟨rfl, e⟩
  rw [e1, getRem, getN, if_neg hok, if_neg hok]
  (repeat' first | refine X.rq ?_ | refine X.rc ?_ ?_ <;> intro hc <;> try omega)
  refine K.c_loop (σ := Unit) (fun _ => [(7, .int .u64 0), (17, .int .i64 0), (18, .int .i64 0)]) (fun _ => h) (fun _ => rA s' :: F)
   (fun _ => True) (fun _ => 0) () trivial (by repeat (first | exact K.Sub.nil _ | refine K.Sub.cons rfl ?_)) rfl rfl ?_
  intro _ _ KL hKL
  (repeat' first | refine X.rq ?_ | refine X.rc ?_ ?_ <;> intro hc <;> try omega)
  refine K.dl rfl (H' := [rA s']) rfl ⟨rfl, rfl, s', hs, hr', rfl⟩
theorem get_u64 (h : Base) (s : Option RS) (ok : Bool) (rem : List UInt8) (hr : Rd h s ok rem) (hl : rem.length ≤ big) :
  Tr Tryz.prog 107 [rv s, .int .i64 8] h [rA s] (RPost h s (getOk ok 8 rem) (getRem ok 8 rem) (· = .int .u64 (getN ok 8 rem : Nat))) := by
 by_cases hok : ok = true ∧ 8 ≤ rem.length
 ·obtain ⟨rfl, hm⟩ := hok
  refine K.en Tryz.func107 fun F => ?_
  (repeat' first | refine X.rq ?_ | refine X.rc ?_ ?_ <;> intro hc <;> try omega)
  refine K.l_call (Fx.cal rfl) rfl (R_take h s rem 8 hr hl hm) (K.pp [0] rfl) rfl ?_
  rintro v h' H' - ⟨rfl, ⟨v1, rfl, hv1⟩, s', hs, hr', rfl⟩
  have hlen : (rem.take 8).length = 8 := by simp; omega
  have hlt := leNum_lt (rem.take 8)
  rw [hlen] at hlt
  have hlt : leNum (rem.take 8) < 18446744073709551616 := hlt
  simp only [getOk, getRem, getN, hm, true_and, decide_true, Bool.and_true, if_true, and_self]
  generalize rem.take 8 = l at hv1 hlen hlt ⊢
  (repeat' first | refine X.rq ?_ | refine X.rc ?_ ?_ <;> intro hc <;> try omega)
  refine K.s_pure (K.p_lenB hv1 (Fx.und rfl) rfl) rfl ?_
  (repeat' first | refine X.rq ?_ | refine X.rc ?_ ?_ <;> intro hc <;> try omega)
  refine K.c_loop (σ := Nat) (fun j => [(7, .int .u64 (leNum (l.take j) : Nat)), (16, v1), (17, .int .i64 l.length), (18, .int .i64 j)]) (fun _ => h) (fun _ => rA s' :: F)
   (fun j => j ≤ l.length) (fun j => l.length - j) 0 (Nat.zero_le _) (by repeat (first | exact K.Sub.nil _ | refine K.Sub.cons rfl ?_)) rfl rfl ?_
  intro j hj KL hKL
  have hb : leNum (l.take j) < 18446744073709551616 := by
   have h1 := leNum_lt (l.take j)
   rw [List.length_take, Nat.min_eq_left hj] at h1
   exact Nat.lt_of_lt_of_le h1 (Nat.pow_le_pow_right (n := 256) (j := 8) (by omega) (by omega))
  (repeat' first | refine X.rq ?_ | refine X.rc ?_ ?_ <;> intro hc <;> try omega)
  ·have hjl : j < l.length := by omega
   have hc0 : l[((j : Nat) : Int).toNat]? = some l[j] := by simp [hjl]
   refine K.s_pureE (K.p_indexB hv1 (Fx.und rfl) (Fx.sz rfl) rfl rfl (by omega) hc0) rfl ?_
   rintro v2 ⟨b, o, rfl, hcel⟩
   have hcel' := hcel.up (K := rA s' :: F)
   unfold K.u8 at hcel'
   have hcl : (l[j]).toNat < 256 := (l[j]).toNat_lt
   (repeat' first | refine X.rq ?_ | refine X.rc ?_ ?_ <;> intro hc <;> try omega)
   have htk : leNum (l.take j) < 2 ^ (8 * j) := by
    have h1 := leNum_lt (l.take j)
    rw [List.length_take, Nat.min_eq_left hj] at h1
    rwa [Nat.pow_mul]
   have hos := K.or_shift (leNum (l.take j)) (l[j]).toNat (8 * j) 8 htk hcl (by omega)
   rw [show (((8 * j : Nat)) : Int) = 8 * (j : Int) from by omega] at hos
   rw [hos, Nat.pow_mul]
   refine K.a_round hKL (j + 1) (by omega) ?_ rfl rfl (by omega)
   have hsn : leNum (l.take (j + 1)) = leNum (l.take j) + (l[j]).toNat * 256 ^ j := by
    rw [List.take_succ_eq_append_getElem hjl, leNum_snoc, List.length_take, Nat.min_eq_left hj]
   rw [hsn]
   exact (by repeat (first | exact K.Sub.nil _ | refine K.Sub.cons rfl ?_))
  ·obtain rfl : j = l.length := by omega
   rw [List.take_length]
   refine K.dl rfl (H' := [rA s']) rfl ⟨rfl, rfl, s', hs, hr', rfl⟩
 ·refine K.en Tryz.func107 fun F => ?_
  (repeat' first | refine X.rq ?_ | refine X.rc ?_ ?_ <;> intro hc <;> try omega)
  refine K.l_call (Fx.cal rfl) rfl (R_take_no h s ok rem 8 hr hl (by omega) (by omega) (by
   cases ok with
   | false => exact .inl rfl
   | true =>
    have : ¬ 8 ≤ rem.length := fun e => hok ⟨rfl, e⟩
    right; right; omega)) (K.pp [0] rfl) rfl ?_
  rintro v h' H' - ⟨rfl, rfl, s', hs, hr', rfl⟩
  have e1 : getOk ok 8 rem = false := by
   unfold getOk
   cases ok with
   | false => rfl
   | true => rw [Bool.true_and]; exact decide_eq_false fun e => hok ⟨rfl, e⟩
  rw [e1, getRem, getN, if_neg hok, if_neg hok]
  (repeat' first | refine X.rq ?_ | refine X.rc ?_ ?_ <;> intro hc <;> try omega)
  refine K.c_loop (σ := Unit) (fun _ => [(7, .int .u64 0), (17, .int .i64 0), (18, .int .i64 0)]) (fun _ => h) (fun _ => rA s' :: F)
   (fun _ => True) (fun _ => 0) () trivial (by repeat (first | exact K.Sub.nil _ | refine K.Sub.cons rfl ?_)) rfl rfl ?_
  intro _ _ KL hKL
  (repeat' first | refine X.rq ?_ | refine X.rc ?_ ?_ <;> intro hc <;> try omega)
  refine K.dl rfl (H' := [rA s']) rfl ⟨rfl, rfl, s', hs, hr', rfl⟩
end Go.Proofs.YtijbhgiigddjdaaGreat.Cc
