/-
  Texts joined: Ce Cf. Conditions: each theorem's own.
-/
import Derived.Test.YtijbhgiigddjdaaGreatPC16
import Derived.Test.YtijbhgiigddjdaaGreatPC0
set_option linter.unusedVariables false
set_option linter.unusedSimpArgs false
set_option maxRecDepth 10000
set_option maxHeartbeats 16000000
section
namespace Go.Proofs.YtijbhgiigddjdaaGreat.Cc
open Go.K

def found (ok : Bool) (rem : List UInt8) : Option (Nat × Nat) := if ok then front rem else none
def lookV (o : Option (Nat × Nat)) (v : Value) : Prop := match o with
 | some (x, m) => v = .tuple #[.int .u64 x, .int .i64 m, .bool true]
 | none => ∃ x m : Int, v = .tuple #[.int .u64 x, .int .i64 m, .bool false]

theorem R_look (h : Base) (s : Option RS) (ok : Bool) (rem : List UInt8) (hr : Rd h s ok rem) (hl : rem.length ≤ big) :
    Tr Tryz.prog 163 [rv s] h [rA s] (fun v h' H' => h = h' ∧ H' = [rA s] ∧ lookV (found ok rem) v) := by
  unfold big at hl
  cases ok with
  | false =>
    refine K.en Tryz.func163 fun F => ?_
    (repeat' first | refine X.rq ?_ | refine X.rc ?_ ?_ <;> intro hc <;> try omega)
    refine K.l_callV (Fx.cal rfl) rfl (R_Err h s false rem hr) (K.pp [0] rfl) rfl rfl ?_
    simp only [errV, Bool.false_eq_true, ↓reduceIte]
    (repeat' first | refine X.rq ?_ | refine X.rc ?_ ?_ <;> intro hc <;> try omega)
    refine K.dl rfl (H' := [rA s]) rfl ⟨rfl, rfl, 0, 0, rfl⟩
  | true =>
    match s, hr with
    | none, hr => exact absurd hr.1 (by simp)
    | some ⟨p, made, sv, bad⟩, hr =>
      have hb := hr.2
      simp only at hb
      refine K.en Tryz.func163 fun F => ?_
      (repeat' first | refine X.rq ?_ | refine X.rc ?_ ?_ <;> intro hc <;> try omega)
      refine K.l_callV (Fx.cal rfl) rfl (R_Err h (some ⟨p, made, sv, bad⟩) true rem hr) (K.pp [0] rfl) rfl rfl ?_
      simp only [errV, ↓reduceIte, rA, rv, List.cons_append, List.nil_append]
      (repeat' first | refine X.rq ?_ | refine X.rc ?_ ?_ <;> intro hc <;> try omega)
      refine K.s_pure (K.p_lenB hb (Fx.und rfl) rfl) rfl ?_
      (repeat' first | refine X.rq ?_ | refine X.rc ?_ ?_ <;> intro hc <;> try omega)
      refine K.c_loop (σ := Nat × Nat) (fun r => [(5, .int .u64 r.2), (15, sv), (16, .int .i64 rem.length), (17, .int .i64 r.1)]) (fun _ => h) (fun _ => rA (some ⟨p, made, sv, bad⟩) :: F)
        (fun r => r.1 ≤ rem.length ∧ frontF r.1 r.2 (rem.drop r.1) = front rem ∧ r.2 < 128 ^ r.1 ∧ r.1 ≤ 10) (fun r => rem.length - r.1) (0, 0) ⟨Nat.zero_le _, rfl, by simp, by omega⟩ (by repeat (first | exact K.Sub.nil _ | refine K.Sub.cons rfl ?_)) rfl rfl ?_
      rintro ⟨j, acc⟩ ⟨hj, hfr, hacc, hj10⟩ KL hKL
      dsimp only at hj hfr hacc hj10 ⊢
      by_cases hjl : j < rem.length
      · have hc0 : rem[((j : Nat) : Int).toNat]? = some rem[j] := by simp [hjl]
        rw [List.drop_eq_getElem_cons hjl] at hfr
        generalize rem[j] = c at hc0 hfr
        have hcl : c.toNat < 256 := c.toNat_lt
        rw [frontF] at hfr
        (repeat' first | refine X.rq ?_ | refine X.rc ?_ ?_ <;> intro hc <;> try omega)
        refine K.s_pureE (K.p_indexB hb (Fx.und rfl) (Fx.sz rfl) rfl rfl (by omega) hc0) rfl ?_
        rintro v2 ⟨b, o, rfl, hcel⟩
        have hcel' := hcel.up (K := rA (some ⟨p, made, sv, bad⟩) :: F)
        unfold K.u8 at hcel'
        (repeat' first | refine X.rq ?_ | refine X.rc ?_ ?_ <;> intro hc <;> try omega)
        all_goals first
          | (refine K.dl rfl (H' := [rA (some ⟨p, made, sv, bad⟩)]) rfl ⟨rfl, rfl, by
              rw [found, if_pos rfl, ← hfr, if_pos (by omega)]; exact ⟨0, 0, rfl⟩⟩)
          | (have hlt : ¬ (j = 10 ∨ j = 9 ∧ 1 < c.toNat) := by omega
             have e7 : j = 9 → c.toNat ≤ 1 := by omega
             rw [if_neg hlt] at hfr
             have h128 : c.toNat % 128 < 128 := Nat.mod_lt _ (by omega)
             have hos := K.or_shift acc (c.toNat % 128) (7 * j) (if j = 9 then 1 else 7) (by rw [Nat.pow_mul]; exact hacc) (by split; omega; omega) (by split; omega; omega)
             rw [show (((7 * j : Nat)) : Int) = 7 * (j : Int) from by omega, Nat.pow_mul] at hos
             rw [K.and127, K.wr_u64 (a := ((c.toNat % 128 : Nat) : Int)) (by omega) (by omega), hos]
             first
              | (rw [if_pos (by omega)] at hfr
                 by_cases h0 : 0 < c.toNat ∨ j = 0
                 · rw [if_pos h0] at hfr
                   refine K.dl rfl (H' := [rA (some ⟨p, made, sv, bad⟩)]) rfl ⟨rfl, rfl, by
                    rw [found, if_pos rfl, ← hfr]
                    first | rfl | (have h00 : j = 0 := by omega
                                   subst h00; rfl)⟩
                 · rw [if_neg h0] at hfr
                   refine K.dl rfl (H' := [rA (some ⟨p, made, sv, bad⟩)]) rfl ⟨rfl, rfl, by
                    rw [found, if_pos rfl, ← hfr]
                    first | (exfalso; omega) | (rw [decide_eq_false (by omega)]; exact ⟨_, _, rfl⟩)⟩)
              | (rw [if_neg (by omega)] at hfr
                 refine K.a_round hKL (j + 1, acc + c.toNat % 128 * 128 ^ j) ⟨by omega, hfr, ?_, by omega⟩ (by repeat (first | exact K.Sub.nil _ | refine K.Sub.cons rfl ?_)) rfl rfl (by dsimp only; omega)
                 rw [Nat.pow_succ]
                 have : c.toNat % 128 * 128 ^ j ≤ 127 * 128 ^ j := Nat.mul_le_mul_right _ (by omega)
                 dsimp only
                 omega))
      · have e : j = rem.length := by omega
        rw [e, List.drop_length] at hfr
        (repeat' first | refine X.rq ?_ | refine X.rc ?_ ?_ <;> intro hc <;> try omega)
        refine K.dl rfl (H' := [rA (some ⟨p, made, sv, bad⟩)]) rfl ⟨rfl, rfl, by rw [found, if_pos rfl, ← hfr]; exact ⟨0, 0, rfl⟩⟩

def uN (o : Option (Nat × Nat)) : Nat := match o with | some (x, _) => x | none => 0
def uRem (o : Option (Nat × Nat)) (rem : List UInt8) : List UInt8 := match o with | some (_, m) => rem.drop m | none => rem
theorem found_le {ok : Bool} {rem : List UInt8} {x m : Nat} (h : found ok rem = some (x, m)) : ok = true ∧ 1 ≤ m ∧ m ≤ rem.length ∧ m ≤ 10 ∧ x < 18446744073709551616 := by
 unfold found at h
 cases ok with
 | false => cases h
 | true =>
  rw [if_pos rfl] at h
  have := front_le h
  exact ⟨rfl, this.1, this.2.1, this.2.2, front_lt h⟩

theorem R_Uint (h : Base) (s : Option RS) (ok : Bool) (rem : List UInt8) (hr : Rd h s ok rem) (hl : rem.length ≤ big) :
  Tr Tryz.prog 149 [rv s] h [rA s] (RPost h s (found ok rem).isSome (uRem (found ok rem) rem) (· = .int .u64 (uN (found ok rem) : Nat))) := by
 refine K.en Tryz.func149 fun F => ?_
 (repeat' first | refine X.rq ?_ | refine X.rc ?_ ?_ <;> intro hc <;> try omega)
 refine K.l_call (Fx.cal rfl) rfl (R_look h s ok rem hr hl) (K.pp [0] rfl) rfl ?_
 rintro v h' H' - ⟨rfl, rfl, hv⟩
 cases ho : found ok rem with
 | none =>
  rw [ho] at hv
  obtain ⟨x, m, rfl⟩ := hv
  (repeat' first | refine X.rq ?_ | refine X.rc ?_ ?_ <;> intro hc <;> try omega)
  refine K.l_call (Fx.cal rfl) rfl (R_fault h s ok rem hr) (K.pp [0] rfl) rfl ?_
  rintro v h' H' - ⟨rfl, -, s', hs, hr', rfl⟩
  (repeat' first | refine X.rq ?_ | refine X.rc ?_ ?_ <;> intro hc <;> try omega)
  refine K.dl rfl (H' := [rA s']) rfl ⟨rfl, rfl, s', hs, hr', rfl⟩
 | some xm =>
  obtain ⟨x, m⟩ := xm
  obtain ⟨rfl, h1, h2, h3, h4⟩ := found_le ho
  rw [ho] at hv
  dsimp only [lookV] at hv
  subst hv
  (repeat' first | refine X.rq ?_ | refine X.rc ?_ ?_ <;> intro hc <;> try omega)
  refine K.l_call (Fx.cal rfl) rfl (R_take h s rem m hr hl h2) (K.pp [0] rfl) rfl ?_
  rintro v h' H' - ⟨rfl, ⟨v1, rfl, -⟩, s', hs, hr', rfl⟩
  (repeat' first | refine X.rq ?_ | refine X.rc ?_ ?_ <;> intro hc <;> try omega)
  refine K.dl rfl (H' := [rA s']) rfl ⟨rfl, rfl, s', hs, hr', rfl⟩

theorem R_Raw (h : Base) (s : Option RS) (ok : Bool) (rem : List UInt8) (m : Int) (hr : Rd h s ok rem) (hl : rem.length ≤ big) (hm1 : -9223372036854775808 ≤ m) (hm2 : m ≤ 9223372036854775807) :
  Tr Tryz.prog 77 [rv s, .int .i64 m] h [rA s] (fun v h' H' => h = h' ∧ ∃ a cap s', v = bufV a (if ok = true ∧ 0 ≤ m ∧ m ≤ rem.length then rem.take m.toNat else []).length cap ∧ same s s' ∧
   Rd h s' (ok && decide (0 ≤ m ∧ m ≤ rem.length)) (if ok = true ∧ 0 ≤ m ∧ m ≤ rem.length then rem.drop m.toNat else rem) ∧
   H' = [bufA 5 1 a (if ok = true ∧ 0 ≤ m ∧ m ≤ rem.length then rem.take m.toNat else []).length cap ((if ok = true ∧ 0 ≤ m ∧ m ≤ rem.length then rem.take m.toNat else []).map u8), rA s']) := by
 have hl0 := hl
 unfold big at hl
 by_cases hc : ok = true ∧ 0 ≤ m ∧ m ≤ rem.length
 ·simp only [if_pos hc, decide_eq_true hc.2, Bool.and_true]
  obtain ⟨rfl, h1, h2⟩ := hc
  obtain ⟨k, rfl⟩ := Int.eq_ofNat_of_zero_le h1
  rw [Int.toNat_natCast]
  refine K.en Tryz.func77 fun F => ?_
  (repeat' first | refine X.rq ?_ | refine X.rc ?_ ?_ <;> intro hc <;> try omega)
  refine K.l_call (Fx.cal rfl) rfl (R_take h s rem k hr hl0 (by omega)) (K.pp [0] rfl) rfl ?_
  rintro v h' H' - ⟨rfl, ⟨v1, rfl, hv1⟩, s', hs, hr', rfl⟩
  (repeat' first | refine X.rq ?_ | refine X.rc ?_ ?_ <;> intro hc <;> try omega)
  refine K.WL.nilBuf 5 1 ?_
  have hlen : (rem.take k).length ≤ 140737488355328 := by simp; omega
  refine K.l_append_at 0 rfl (Fx.und rfl) (Fx.und rfl) rfl (Fx.sz rfl) (Fx.zr rfl) rfl (Fx.byt rfl) rfl rfl hv1.src (by omega) (by omega) rfl (fun a' cap' => ?_)
  simp only [Go.K.nmz]
  (repeat' first | refine X.rq ?_ | refine X.rc ?_ ?_ <;> intro hc <;> try omega)
  rw [Nat.zero_add]
  refine K.dl rfl (H' := [bufA 5 1 a' (rem.take k).length cap' ((rem.take k).map u8), rA s']) rfl ⟨rfl, a', cap', s', rfl, hs, hr', rfl⟩
 ·have e1 : (ok && decide (0 ≤ m ∧ m ≤ (rem.length : Int))) = false := by
   cases ok with
   | false => rfl
   | true => rw [Bool.true_and]; exact decide_eq_false fun e => hc ⟨rfl, e⟩
  simp only [if_neg hc, e1]
  refine K.en Tryz.func77 fun F => ?_
  (repeat' first | refine X.rq ?_ | refine X.rc ?_ ?_ <;> intro hc <;> try omega)
  refine K.l_call (Fx.cal rfl) rfl (R_take_no h s ok rem m hr hl0 hm1 hm2 (by
   cases ok with
   | false => exact .inl rfl
   | true =>
    have : ¬ (0 ≤ m ∧ m ≤ (rem.length : Int)) := fun e => hc ⟨rfl, e⟩
    right; omega)) (K.pp [0] rfl) rfl ?_
  rintro v h' H' - ⟨rfl, rfl, s', hs, hr', rfl⟩
  (repeat' first | refine X.rq ?_ | refine X.rc ?_ ?_ <;> intro hc <;> try omega)
  refine K.WL.nilBuf 5 1 ?_
  refine K.l_append_at 0 rfl (Fx.und rfl) (Fx.und rfl) rfl (Fx.sz rfl) (Fx.zr rfl) rfl (Fx.byt rfl) rfl rfl K.src_nil (by omega) (by omega) rfl (fun a' cap' => ?_)
  simp only [Go.K.nmz]
  (repeat' first | refine X.rq ?_ | refine X.rc ?_ ?_ <;> intro hc <;> try omega)
  refine K.dl rfl (H' := [bufA 5 1 a' 0 cap' [], rA s']) rfl ⟨rfl, a', cap', s', rfl, hs, hr', rfl⟩
end Go.Proofs.YtijbhgiigddjdaaGreat.Cc
end

section
namespace Go.Proofs.YtijbhgiigddjdaaGreat.Cc
open Go.K

theorem R_U8 (h : Base) (s : Option RS) (ok : Bool) (rem : List UInt8) (hr : Rd h s ok rem) (hl : rem.length ≤ big) :
  Tr Tryz.prog 73 [rv s] h [rA s] (RPost h s (getOk ok 1 rem) (getRem ok 1 rem) (· = .int .u8 (getN ok 1 rem : Nat))) := by
 refine K.en Tryz.func73 fun F => ?_
 (repeat' first | refine X.rq ?_ | refine X.rc ?_ ?_ <;> intro hc <;> try omega)
 refine K.l_call (Fx.cal rfl) rfl (get_u8 h s ok rem hr hl) (K.pp [0] rfl) rfl ?_
 rintro v h' H' - ⟨rfl, rfl, s', hs, hr', rfl⟩
 (repeat' first | refine X.rq ?_ | refine X.rc ?_ ?_ <;> intro hc <;> try omega)
 refine K.dl rfl (H' := [rA s']) rfl ⟨rfl, rfl, s', hs, hr', rfl⟩
theorem R_U16 (h : Base) (s : Option RS) (ok : Bool) (rem : List UInt8) (hr : Rd h s ok rem) (hl : rem.length ≤ big) :
  Tr Tryz.prog 76 [rv s] h [rA s] (RPost h s (getOk ok 2 rem) (getRem ok 2 rem) (· = .int .u16 (getN ok 2 rem : Nat))) := by
 refine K.en Tryz.func76 fun F => ?_
 (repeat' first | refine X.rq ?_ | refine X.rc ?_ ?_ <;> intro hc <;> try omega)
 refine K.l_call (Fx.cal rfl) rfl (get_u16 h s ok rem hr hl) (K.pp [0] rfl) rfl ?_
 rintro v h' H' - ⟨rfl, rfl, s', hs, hr', rfl⟩
 (repeat' first | refine X.rq ?_ | refine X.rc ?_ ?_ <;> intro hc <;> try omega)
 refine K.dl rfl (H' := [rA s']) rfl ⟨rfl, rfl, s', hs, hr', rfl⟩
theorem R_U32 (h : Base) (s : Option RS) (ok : Bool) (rem : List UInt8) (hr : Rd h s ok rem) (hl : rem.length ≤ big) :
  Tr Tryz.prog 72 [rv s] h [rA s] (RPost h s (getOk ok 4 rem) (getRem ok 4 rem) (· = .int .u32 (getN ok 4 rem : Nat))) := by
 refine K.en Tryz.func72 fun F => ?_
 (repeat' first | refine X.rq ?_ | refine X.rc ?_ ?_ <;> intro hc <;> try omega)
 refine K.l_call (Fx.cal rfl) rfl (get_u32 h s ok rem hr hl) (K.pp [0] rfl) rfl ?_
 rintro v h' H' - ⟨rfl, rfl, s', hs, hr', rfl⟩
 (repeat' first | refine X.rq ?_ | refine X.rc ?_ ?_ <;> intro hc <;> try omega)
 refine K.dl rfl (H' := [rA s']) rfl ⟨rfl, rfl, s', hs, hr', rfl⟩
theorem R_U64 (h : Base) (s : Option RS) (ok : Bool) (rem : List UInt8) (hr : Rd h s ok rem) (hl : rem.length ≤ big) :
  Tr Tryz.prog 74 [rv s] h [rA s] (RPost h s (getOk ok 8 rem) (getRem ok 8 rem) (· = .int .u64 (getN ok 8 rem : Nat))) := by
 refine K.en Tryz.func74 fun F => ?_
 (repeat' first | refine X.rq ?_ | refine X.rc ?_ ?_ <;> intro hc <;> try omega)
 refine K.l_call (Fx.cal rfl) rfl (get_u64 h s ok rem hr hl) (K.pp [0] rfl) rfl ?_
 rintro v h' H' - ⟨rfl, rfl, s', hs, hr', rfl⟩
 (repeat' first | refine X.rq ?_ | refine X.rc ?_ ?_ <;> intro hc <;> try omega)
 refine K.dl rfl (H' := [rA s']) rfl ⟨rfl, rfl, s', hs, hr', rfl⟩

def txt (ok : Bool) (rem : List UInt8) (most : Int) : Option (Nat × Nat) := match found ok rem with
 | some (x, m) => if 0 ≤ most ∧ (x : Int) ≤ most ∧ x + m ≤ rem.length then some (x, m) else none
 | none => none
def txtV (o : Option (Nat × Nat)) (rem : List UInt8) : List UInt8 := match o with | some (x, m) => (rem.drop m).take x | none => []
def txtRem (o : Option (Nat × Nat)) (rem : List UInt8) : List UInt8 := match o with | some (x, m) => (rem.drop m).drop x | none => rem

theorem R_Text (h : Base) (s : Option RS) (ok : Bool) (rem : List UInt8) (most : Int) (hr : Rd h s ok rem) (hl : rem.length ≤ big) (hm1 : -9223372036854775808 ≤ most) (hm2 : most ≤ 9223372036854775807) :
  Tr Tryz.prog 150 [rv s, .int .i64 most] h [rA s] (RPost h s (txt ok rem most).isSome (txtRem (txt ok rem most) rem) (· = .string ⟨(txtV (txt ok rem most) rem).toArray⟩)) := by
 have hl0 := hl
 unfold big at hl
 cases ho : found ok rem with
 | none =>
  have e : txt ok rem most = none := by simp [txt, ho]
  rw [e]
  refine K.en Tryz.func150 fun F => ?_
  (repeat' first | refine X.rq ?_ | refine X.rc ?_ ?_ <;> intro hc <;> try omega)
  refine K.l_call (Fx.cal rfl) rfl (R_look h s ok rem hr hl0) (K.pp [0] rfl) rfl ?_
  rintro v h' H' - ⟨rfl, rfl, hv⟩
  rw [ho] at hv
  obtain ⟨x, m, rfl⟩ := hv
  (repeat' first | refine X.rq ?_ | refine X.rc ?_ ?_ <;> intro hc <;> try omega)
  refine K.l_call (Fx.cal rfl) rfl (R_fault h s ok rem hr) (K.pp [0] rfl) rfl ?_
  rintro v h' H' - ⟨rfl, -, s', hs, hr', rfl⟩
  (repeat' first | refine X.rq ?_ | refine X.rc ?_ ?_ <;> intro hc <;> try omega)
  refine K.dl rfl (H' := [rA s']) rfl ⟨rfl, rfl, s', hs, hr', rfl⟩
 | some xm =>
  obtain ⟨x, m⟩ := xm
  obtain ⟨rfl, h1, h2, h3, h4⟩ := found_le ho
  match s, hr with
  | none, hr => exact absurd hr.1 (by simp)
  | some ⟨p, made, sv, bad⟩, hr =>
   have hb := hr.2
   simp only at hb
   obtain ⟨ao, c, rfl⟩ := hb.len
   refine K.en Tryz.func150 fun F => ?_
   (repeat' first | refine X.rq ?_ | refine X.rc ?_ ?_ <;> intro hc <;> try omega)
   refine K.l_call (Fx.cal rfl) rfl (R_look h (some ⟨p, made, _, bad⟩) true rem hr hl0) (K.pp [0] rfl) rfl ?_
   rintro v h' H' - ⟨rfl, rfl, hv⟩
   rw [ho] at hv
   dsimp only [lookV] at hv
   subst hv
   have hw : most < 0 ∨ IntKind.u64.wrap most = most := by
    rcases Int.lt_or_le most 0 with h' | h'
    ·exact .inl h'
    ·exact .inr (K.wr_u64 (by omega) (by omega))
   by_cases hneg : most < 0
   ·have e : txt true rem most = none := by simp only [txt, ho]; rw [if_neg (by omega)]
    rw [e]
    simp only [rA, rv, List.cons_append, List.nil_append]
    (repeat' first | refine X.rq ?_ | refine X.rc ?_ ?_ <;> intro hc <;> try omega)
    refine K.l_call (Fx.cal rfl) rfl (R_fault h (some ⟨p, made, _, bad⟩) true rem hr) (K.pp [0] rfl) rfl ?_
    rintro v h' H' - ⟨rfl, -, s', hs, hr', rfl⟩
    (repeat' first | refine X.rq ?_ | refine X.rc ?_ ?_ <;> intro hc <;> try omega)
    refine K.dl rfl (H' := [rA s']) rfl ⟨rfl, rfl, s', hs, hr', rfl⟩
   ·simp only [rA, rv, List.cons_append, List.nil_append]
    (repeat' first | refine X.rq ?_ | refine X.rc ?_ ?_ <;> intro hc <;> try omega)
    ·have e : txt true rem most = none := by simp only [txt, ho]; rw [if_neg (by omega)]
     rw [e]
     refine K.l_call (Fx.cal rfl) rfl (R_fault h (some ⟨p, made, _, bad⟩) true rem hr) (K.pp [0] rfl) rfl ?_
     rintro v h' H' - ⟨rfl, -, s', hs, hr', rfl⟩
     (repeat' first | refine X.rq ?_ | refine X.rc ?_ ?_ <;> intro hc <;> try omega)
     refine K.dl rfl (H' := [rA s']) rfl ⟨rfl, rfl, s', hs, hr', rfl⟩
    ·have e : txt true rem most = none := by simp only [txt, ho]; rw [if_neg (by omega)]
     rw [e]
     refine K.l_call (Fx.cal rfl) rfl (R_fault h (some ⟨p, made, _, bad⟩) true rem hr) (K.pp [0] rfl) rfl ?_
     rintro v h' H' - ⟨rfl, -, s', hs, hr', rfl⟩
     (repeat' first | refine X.rq ?_ | refine X.rc ?_ ?_ <;> intro hc <;> try omega)
     refine K.dl rfl (H' := [rA s']) rfl ⟨rfl, rfl, s', hs, hr', rfl⟩
    ·have e : txt true rem most = some (x, m) := by simp only [txt, ho]; rw [if_pos (by omega)]
     rw [e]
     refine K.l_call (Fx.cal rfl) rfl (R_take h (some ⟨p, made, _, bad⟩) rem m hr hl0 h2) (K.pp [0] rfl) rfl ?_
     rintro v h' H' - ⟨rfl, ⟨v1, rfl, -⟩, s1, hs1, hr1, rfl⟩
     (repeat' first | refine X.rq ?_ | refine X.rc ?_ ?_ <;> intro hc <;> try omega)
     have hsv : rv s1 = .pointer (some ⟨p, 0, none⟩) := same_val hs1
     refine K.l_call (vals := [rv s1, .int .i64 (x : Nat)]) (Fx.cal rfl) (by rw [hsv]; rfl) (R_take h s1 (rem.drop m) x hr1 (by unfold big; simp; omega) (by simp; omega)) (K.pp [0] rfl) rfl ?_
     rintro v h' H' - ⟨rfl, ⟨v2, rfl, hv2⟩, s2, hs2, hr2, rfl⟩
     (repeat' first | refine X.rq ?_ | refine X.rc ?_ ?_ <;> intro hc <;> try omega)
     refine K.s_pure (K.p_textB hv2 (Fx.und rfl) (Fx.und rfl) (Fx.und rfl) rfl) rfl ?_
     (repeat' first | refine X.rq ?_ | refine X.rc ?_ ?_ <;> intro hc <;> try omega)
     refine K.dl rfl (H' := [rA s2]) rfl ⟨rfl, rfl, s2, same_trans hs1 hs2, hr2, rfl⟩
end Go.Proofs.YtijbhgiigddjdaaGreat.Cc
end
