/-
  Texts joined: MX Cc. Conditions: each theorem's own.
-/
import Derived.Test.YtijbhgiigddjdaaGreatPC0
import Derived.Test.YtijbhgiigddjdaaGreatPC3
set_option linter.unusedVariables false
set_option linter.unusedSimpArgs false
set_option maxRecDepth 10000
set_option maxHeartbeats 16000000
section
/-! M1: plain laws of numbers in bytes, no program in sight. Conditions: each theorem's own. -/
namespace Go.K

def leNum : List UInt8 → Nat
 | [] => 0
 | c :: r => c.toNat + 256 * leNum r
theorem leNum_lt : ∀ l : List UInt8, leNum l < 256 ^ l.length
 | [] => by simp [leNum]
 | c :: r => by
  have := leNum_lt r
  have hc := c.toNat_lt
  rw [leNum, List.length_cons, Nat.pow_succ]
  omega
theorem leNum_snoc : ∀ (l : List UInt8) (c : UInt8), leNum (l ++ [c]) = leNum l + c.toNat * 256 ^ l.length
 | [], c => by simp [leNum]
 | x :: r, c => by
  rw [List.cons_append, leNum, leNum_snoc r c, leNum, List.length_cons, Nat.pow_succ, Nat.mul_add]
  have : 256 * (c.toNat * 256 ^ r.length) = c.toNat * (256 ^ r.length * 256) := by
   rw [Nat.mul_left_comm, Nat.mul_comm 256]
  omega
theorem leNum_lebs : ∀ (m x : Nat), x < 256 ^ m → leNum (lebs x m) = x
 | 0, x, h => by simp at h; simp [lebs, leNum, h]
 | m + 1, x, h => by
  rw [lebs, leNum, leNum_lebs m (x / 256) (by rw [Nat.pow_succ] at h; exact Nat.div_lt_of_lt_mul (by rw [Nat.mul_comm]; exact h))]
  simp
  omega
theorem lebs_leNum : ∀ l : List UInt8, lebs (leNum l) l.length = l
 | [] => rfl
 | c :: r => by
  have hc := c.toNat_lt
  rw [leNum, List.length_cons, lebs]
  rw [show (c.toNat + 256 * leNum r) / 256 = leNum r from by omega, lebs_leNum r]
  congr 1
  rw [show (c.toNat + 256 * leNum r) % 256 = c.toNat from by omega]
  simp

theorem or_shift (x c i : Nat) (w : Nat) (hx : x < 2 ^ i) (hw : c < 2 ^ w) (h64 : i + w ≤ 64) :
  bits .or .u64 (x : Int) (IntKind.u64.wrap ((c : Int) * 2 ^ (min ((i : Int)).toNat IntKind.u64.bits))) = ((x + c * 2 ^ i : Nat) : Int) := by
 have hm : min ((i : Int)).toNat IntKind.u64.bits = i := by simp [IntKind.bits]; omega
 have hpow : (2 : Nat) ^ i * 2 ^ w ≤ 2 ^ 64 := by rw [← Nat.pow_add]; exact Nat.pow_le_pow_right (by omega) h64
 have hc : c * 2 ^ i < 2 ^ 64 := by
  have : c * 2 ^ i < 2 ^ w * 2 ^ i := Nat.mul_lt_mul_of_pos_right hw (Nat.two_pow_pos i)
  rw [Nat.mul_comm (2 ^ w)] at this
  omega
 have e1 : IntKind.u64.wrap ((c : Int) * 2 ^ i) = ((c * 2 ^ i : Nat) : Int) := by
  rw [wu64]
  have : ((c : Int) * 2 ^ i) = ((c * 2 ^ i : Nat) : Int) := by simp
  rw [this]
  have h2 : (2 : Nat) ^ 64 = 18446744073709551616 := by decide
  omega
 rw [hm, e1, u64_or_nat _ _ (by
  have h2 : (2 : Nat) ^ 64 = 18446744073709551616 := by decide
  have : (2 : Nat) ^ i ≤ 2 ^ 64 := Nat.pow_le_pow_right (by omega) (by omega)
  omega) (by
  have h2 : (2 : Nat) ^ 64 = 18446744073709551616 := by decide
  omega)]
 congr 1
 have := nat_join i (c * 2 ^ i) x (Nat.mul_mod_left _ _) hx
 rw [Nat.or_comm, this, Nat.add_comm]
theorem and127 (c : UInt8) : bits .and .u8 (c.toNat : Int) 127 = ((c.toNat % 128 : Nat) : Int) := by
 rw [show (127 : Int) = ((127 : Nat) : Int) from rfl, u8_and_nat _ _ c.toNat_lt (by omega), nat_mask7]

def frontF : Nat → Nat → List UInt8 → Option (Nat × Nat)
 | _, _, [] => none
 | i, acc, c :: r =>
  if i = 10 ∨ (i = 9 ∧ 1 < c.toNat) then none
  else if c.toNat < 128 then (if 0 < c.toNat ∨ i = 0 then some (acc + c.toNat % 128 * 128 ^ i, i + 1) else none)
  else frontF (i + 1) (acc + c.toNat % 128 * 128 ^ i) r
def front (l : List UInt8) : Option (Nat × Nat) := frontF 0 0 l
theorem frontF_le : ∀ (l : List UInt8) (i acc x m : Nat), i ≤ 10 → frontF i acc l = some (x, m) → i < m ∧ m ≤ i + l.length ∧ m ≤ 10
 | [], i, acc, x, m, _, h => by simp [frontF] at h
 | c :: r, i, acc, x, m, hi, h => by
  rw [frontF] at h
  split at h
  ·cases h
  ·rename_i h1
   split at h
   ·split at h
    ·cases h
     simp; omega
    ·cases h
   ·have := frontF_le r (i + 1) _ x m (by omega) h
    simp; omega
theorem front_le {l : List UInt8} {x m : Nat} (h : front l = some (x, m)) : 1 ≤ m ∧ m ≤ l.length ∧ m ≤ 10 := by
 have := frontF_le l 0 0 x m (by omega) h
 omega
theorem frontF_lt : ∀ (l : List UInt8) (i acc x m : Nat), i ≤ 10 → acc < 128 ^ i → (i = 10 → acc < 18446744073709551616) → frontF i acc l = some (x, m) → x < 18446744073709551616
 | [], i, acc, x, m, _, _, _, h => by simp [frontF] at h
 | c :: r, i, acc, x, m, hi, ha, ha2, h => by
  rw [frontF] at h
  split at h
  ·cases h
  ·rename_i h1
   have hc : c.toNat % 128 < 128 := Nat.mod_lt _ (by omega)
   have hstep : acc + c.toNat % 128 * 128 ^ i < 128 ^ (i + 1) := by
    rw [Nat.pow_succ]
    have : c.toNat % 128 * 128 ^ i ≤ 127 * 128 ^ i := Nat.mul_le_mul_right _ (by omega)
    omega
   have h9 : i = 9 → acc + c.toNat % 128 * 128 ^ i < 18446744073709551616 := fun e => by
    subst e
    have hc1 : c.toNat ≤ 1 := by omega
    have : c.toNat % 128 ≤ 1 := by omega
    have : c.toNat % 128 * 128 ^ 9 ≤ 1 * 128 ^ 9 := Nat.mul_le_mul_right _ this
    have e9 : (128 : Nat) ^ 9 = 9223372036854775808 := by decide
    omega
   have hle : i ≤ 8 → acc + c.toNat % 128 * 128 ^ i < 18446744073709551616 := fun e => by
    have : (128 : Nat) ^ (i + 1) ≤ 128 ^ 9 := Nat.pow_le_pow_right (by omega) (by omega)
    have e9 : (128 : Nat) ^ 9 = 9223372036854775808 := by decide
    omega
   split at h
   ·split at h
    ·cases h
     rcases Nat.lt_or_ge i 9 with h' | h'
     ·exact hle (by omega)
     ·exact h9 (by omega)
    ·cases h
   ·refine frontF_lt r (i + 1) _ x m (by omega) hstep (fun e => h9 (by omega)) h
theorem front_lt {l : List UInt8} {x m : Nat} (h : front l = some (x, m)) : x < 18446744073709551616 := frontF_lt l 0 0 x m (by omega) (by simp) (by omega) h
theorem frontF_cu : ∀ (f i acc x : Nat) (r : List UInt8), f + i ≤ 9 → x < 128 ^ (f + 1) → (i + f = 9 → x / 128 ^ f ≤ 1) → (i = 0 ∨ 0 < x) → frontF i acc (cuF f x ++ r) = some (acc + x * 128 ^ i, i + (cuF f x).length)
 | 0, i, acc, x, r, hi, hx, h9, h0 => by
  simp at hx
  rw [cuF, List.singleton_append, frontF]
  have hc : (UInt8.ofNat x).toNat = x := by simp; omega
  rw [hc, if_neg (by intro h; rcases h with h | h; omega; have := h9 (by omega); simp at this; omega), if_pos hx, if_pos (by omega), Nat.mod_eq_of_lt hx]
  simp
 | f + 1, i, acc, x, r, hi, hx, h9, h0 => by
  rw [cuF]
  by_cases hlt : x < 128
  ·rw [if_pos hlt, List.singleton_append, frontF]
   have hc : (UInt8.ofNat x).toNat = x := by simp; omega
   rw [hc, if_neg (by omega), if_pos hlt, if_pos (by omega), Nat.mod_eq_of_lt hlt]
   simp
  ·rw [if_neg hlt, List.cons_append, frontF]
   have hc : (UInt8.ofNat (x % 128 + 128)).toNat = x % 128 + 128 := by simp; omega
   rw [hc, if_neg (by omega), if_neg (by omega)]
   rw [frontF_cu f (i + 1) _ (x / 128) r (by omega) (by rw [Nat.pow_succ] at hx; exact Nat.div_lt_of_lt_mul (by rw [Nat.mul_comm]; exact hx)) (fun e => by
    have := h9 (by omega)
    rwa [Nat.div_div_eq_div_mul, Nat.mul_comm, ← Nat.pow_succ]) (.inr (by omega))]
   congr 1
   rw [Prod.mk.injEq]
   constructor
   ·rw [Nat.add_mod_right, Nat.mod_mod, Nat.pow_succ, Nat.add_assoc, ← Nat.mul_assoc]
    congr 1
    rw [Nat.mul_right_comm, ← Nat.add_mul]
    congr 1
    omega
   ·simp; omega
theorem front_cu (x : Nat) (hx : x < 18446744073709551616) (r : List UInt8) : front (cu x ++ r) = some (x, (cu x).length) := by
 have := frontF_cu 9 0 0 x r (by omega) (Nat.lt_of_lt_of_le hx (by decide)) (fun _ => by
  have e9 : (128 : Nat) ^ 9 = 9223372036854775808 := by decide
  rw [e9]; omega) (.inl rfl)
 simpa [front, cu] using this
end Go.K

/-! M2: a counted number has one form. Plain law, no program. Conditions: none. -/
namespace Go.K

end Go.K

/-! M3: the reference's way to a counted number: how many bytes go on, then the number from its end. Plain law, no program. Conditions: none. -/
namespace Go.K

end Go.K
end

section
namespace Go.Proofs.YtijbhgiigddjdaaGreat.Cc
open Go.K

abbrev unit : Value := .tuple #[]
def big : Nat := 140737488355328
structure RS where
 p : Nat
 made : Bool
 sv : Value
 bad : Bool
def rv : Option RS → Value
 | none => .pointer none
 | some r => .pointer (some ⟨r.p, 0, none⟩)
def rA : Option RS → Asrt
 | none => all []
 | some r => blk r.p 178 [.bool r.made, r.sv, .bool r.bad]
def Rd (h : Base) (s : Option RS) (ok : Bool) (rem : List UInt8) : Prop := match s with
 | none => ok = false ∧ rem = []
 | some r => ok = (r.made && !r.bad) ∧ BV h r.sv rem
def same : Option RS → Option RS → Prop
 | none, none => True
 | some r, some r' => r'.p = r.p
 | _, _ => False
theorem same_refl : ∀ s, same s s
 | none => trivial
 | some _ => rfl
theorem same_trans : ∀ {a b c : Option RS}, same a b → same b c → same a c
 | none, none, none, _, _ => trivial
 | some _, some _, some _, h1, h2 => Eq.trans h2 h1
 | none, some _, _, h1, _ => h1.elim
 | some _, none, _, h1, _ => h1.elim
 | none, none, some _, _, h2 => h2.elim
 | some _, some _, none, _, h2 => h2.elim
theorem same_val : ∀ {a b : Option RS}, same a b → rv b = rv a
 | none, none, _ => rfl
 | some r, some r', e => by show Value.pointer _ = Value.pointer _; rw [show r'.p = r.p from e]
 | none, some _, h1 => h1.elim
 | some _, none, h1 => h1.elim
theorem Rd.le {h h' : Base} {s : Option RS} {ok : Bool} {rem : List UInt8} (hr : Rd h s ok rem) (hle : h.le h') : Rd h' s ok rem := by
 cases s with
 | none => exact hr
 | some r => exact ⟨hr.1, hr.2.le hle⟩
def RPost (h : Base) (s : Option RS) (ok : Bool) (rem : List UInt8) (V : Value → Prop) (v : Value) (h' : Base) (H' : List Asrt) : Prop := h = h' ∧ V v ∧ ∃ s', same s s' ∧ Rd h s' ok rem ∧ H' = [rA s']

theorem NewReader (h : Base) (v : Value) (l : List UInt8) (Pre : List Asrt) (hs : Src Tryz.prog h Pre 1 v l.length (l.map u8)) (hl : l.length ≤ big) :
  Tr Tryz.prog 71 [v] h Pre (fun v' h' H' => ∃ p sv, v' = rv (some ⟨p, true, sv, false⟩) ∧ Rd h' (some ⟨p, true, sv, false⟩) true l ∧ H' = rA (some ⟨p, true, sv, false⟩) :: Pre) := by
 unfold big at hl
 refine K.en Tryz.func71 fun F => ?_
 (repeat' first | refine X.rq ?_ | refine X.rc ?_ ?_ <;> intro hc <;> try omega)
 refine K.WL.nilBuf 5 1 ?_
 refine K.l_append_at 0 rfl (Fx.und rfl) (Fx.und rfl) rfl (Fx.sz rfl) (Fx.zr rfl) rfl (Fx.byt rfl) rfl rfl (hs.sub (fun A hA => by simp [hA])) (by omega) (by omega) rfl (fun a' cap' => ?_)
 simp only [Go.K.nmz]
 (repeat' first | refine X.rq ?_ | refine X.rc ?_ ?_ <;> intro hc <;> try omega)
 refine K.l_box rfl rfl rfl (fun B => ?_)
 (repeat' first | refine X.rq ?_ | refine X.rc ?_ ?_ <;> intro hc <;> try omega)
 rw [Nat.zero_add]
 refine K.AT.perm (List.Perm.swap ..) (K.AT.freezeBuf (fun h1 hle hb => ?_))
 refine K.dl rfl (H' := rA (some ⟨B, true, bufV a' l.length cap', false⟩) :: Pre) rfl ⟨B, _, rfl, ⟨rfl, hb⟩, rfl⟩

theorem R_fault (h : Base) (s : Option RS) (ok : Bool) (rem : List UInt8) (hr : Rd h s ok rem) : Tr Tryz.prog 110 [rv s] h [rA s] (RPost h s false rem (· = unit)) := by
 match s, hr with
 | none, ⟨_, hb⟩ =>
  refine K.en Tryz.func110 fun F => ?_
  simp only [rv]
  (repeat' first | refine X.rq ?_ | refine X.rc ?_ ?_ <;> intro hc <;> try omega)
  refine K.dl rfl (H' := [rA none]) rfl ⟨rfl, rfl, none, trivial, ⟨rfl, hb⟩, rfl⟩
 | some ⟨p, made, sv, bad⟩, ⟨_, hb⟩ =>
  refine K.en Tryz.func110 fun F => ?_
  simp only [rv, rA, List.cons_append, List.nil_append]
  (repeat' first | refine X.rq ?_ | refine X.rc ?_ ?_ <;> intro hc <;> try omega)
  refine X.sto ?_
  (repeat' first | refine X.rq ?_ | refine X.rc ?_ ?_ <;> intro hc <;> try omega)
  refine K.dl rfl (H' := [rA (some ⟨p, made, sv, true⟩)]) rfl ⟨rfl, rfl, some ⟨p, made, sv, true⟩, rfl, ⟨by simp, hb⟩, rfl⟩

def errV (ok : Bool) : Value := .int .i64 (if ok then 0 else 5)
theorem R_Err (h : Base) (s : Option RS) (ok : Bool) (rem : List UInt8) (hr : Rd h s ok rem) : TrV Tryz.prog 75 [rv s] h [rA s] (errV ok) [rA s] := by
 match s, hr with
 | none, ⟨hb, _⟩ =>
  subst hb
  refine K.en Tryz.func75 fun F => ?_
  simp only [rv]
  (repeat' first | refine X.rq ?_ | refine X.rc ?_ ?_ <;> intro hc <;> try omega)
  refine K.dl rfl (H' := [rA none]) rfl ⟨rfl, rfl, rfl⟩
 | some ⟨p, made, sv, bad⟩, ⟨hb, _⟩ =>
  subst hb
  refine K.en Tryz.func75 fun F => ?_
  simp only [rv, rA, List.cons_append, List.nil_append]
  cases made <;> cases bad
  all_goals
   (repeat' first | refine X.rq ?_ | refine X.rc ?_ ?_ <;> intro hc <;> try omega)
   refine K.dl rfl (H' := [rA (some ⟨p, _, sv, _⟩)]) rfl ⟨rfl, rfl, rfl⟩

theorem R_Left (h : Base) (s : Option RS) (ok : Bool) (rem : List UInt8) (hr : Rd h s ok rem) : TrV Tryz.prog 78 [rv s] h [rA s] (.int .i64 rem.length) [rA s] := by
 match s, hr with
 | none, ⟨_, hb⟩ =>
  subst hb
  refine K.en Tryz.func78 fun F => ?_
  simp only [rv]
  (repeat' first | refine X.rq ?_ | refine X.rc ?_ ?_ <;> intro hc <;> try omega)
  refine K.dl rfl (H' := [rA none]) rfl ⟨rfl, rfl, rfl⟩
 | some ⟨p, made, sv, bad⟩, ⟨_, hb⟩ =>
  obtain ⟨ao, c, rfl⟩ := hb.len
  refine K.en Tryz.func78 fun F => ?_
  simp only [rv, rA, List.cons_append, List.nil_append]
  (repeat' first | refine X.rq ?_ | refine X.rc ?_ ?_ <;> intro hc <;> try omega)
  refine K.dl rfl (H' := [rA (some ⟨p, made, _, bad⟩)]) rfl ⟨rfl, rfl, rfl⟩

theorem R_End (h : Base) (s : Option RS) (ok : Bool) (rem : List UInt8) (hr : Rd h s ok rem) (hl : rem.length ≤ big) :
  Tr Tryz.prog 79 [rv s] h [rA s] (RPost h s (ok && decide (rem = [])) rem (· = errV (ok && decide (rem = [])))) := by
 unfold big at hl
 refine K.en Tryz.func79 fun F => ?_
 (repeat' first | refine X.rq ?_ | refine X.rc ?_ ?_ <;> intro hc <;> try omega)
 refine K.l_callV (Fx.cal rfl) rfl (R_Left h s ok rem hr) (K.pp [0] rfl) rfl rfl ?_
 (repeat' first | refine X.rq ?_ | refine X.rc ?_ ?_ <;> intro hc <;> try omega)
 ·have hne : rem ≠ [] := by intro e; subst e; simp at hc
  refine K.l_call (Fx.cal rfl) rfl (R_fault h s ok rem hr) (K.pp [0] rfl) rfl ?_
  rintro v h' H' - ⟨rfl, -, s', hs, hr', rfl⟩
  (repeat' first | refine X.rq ?_ | refine X.rc ?_ ?_ <;> intro hc <;> try omega)
  refine K.l_callV (vals := [rv s']) (Fx.cal rfl) (by rw [same_val hs]; rfl) (R_Err h s' false rem hr') (K.pp [0] rfl) rfl rfl ?_
  (repeat' first | refine X.rq ?_ | refine X.rc ?_ ?_ <;> intro hc <;> try omega)
  simp only [hne, decide_false, Bool.and_false]
  refine K.dl rfl (H' := [rA s']) rfl ⟨rfl, rfl, s', hs, hr', rfl⟩
 ·have hne : rem = [] := by
   cases rem with
   | nil => rfl
   | cons a b => simp at hc
  refine K.l_callV (Fx.cal rfl) rfl (R_Err h s ok rem hr) (K.pp [0] rfl) rfl rfl ?_
  (repeat' first | refine X.rq ?_ | refine X.rc ?_ ?_ <;> intro hc <;> try omega)
  simp only [hne, decide_true, Bool.and_true]
  rw [hne] at hr
  refine K.dl rfl (H' := [rA s]) rfl ⟨rfl, rfl, s, same_refl s, hr, rfl⟩

theorem R_take_no (h : Base) (s : Option RS) (ok : Bool) (rem : List UInt8) (m : Int) (hr : Rd h s ok rem) (hl : rem.length ≤ big) (hm1 : -9223372036854775808 ≤ m) (hm2 : m ≤ 9223372036854775807) (hno : ok = false ∨ m < 0 ∨ (rem.length : Int) < m) :
  Tr Tryz.prog 109 [rv s, .int .i64 m] h [rA s] (RPost h s false rem (· = .tuple #[.slice none 0 0, .bool false])) := by
 unfold big at hl
 cases ok with
 | false =>
  refine K.en Tryz.func109 fun F => ?_
  (repeat' first | refine X.rq ?_ | refine X.rc ?_ ?_ <;> intro hc <;> try omega)
  refine K.l_callV (Fx.cal rfl) rfl (R_Err h s false rem hr) (K.pp [0] rfl) rfl rfl ?_
  simp only [errV, Bool.false_eq_true, ↓reduceIte]
  (repeat' first | refine X.rq ?_ | refine X.rc ?_ ?_ <;> intro hc <;> try omega)
  refine K.l_call (Fx.cal rfl) rfl (R_fault h s false rem hr) (K.pp [0] rfl) rfl ?_
  rintro v h' H' - ⟨rfl, -, s', hs, hr', rfl⟩
  (repeat' first | refine X.rq ?_ | refine X.rc ?_ ?_ <;> intro hc <;> try omega)
  refine K.dl rfl (H' := [rA s']) rfl ⟨rfl, rfl, s', hs, hr', rfl⟩
 | true =>
  have hno' : m < 0 ∨ (rem.length : Int) < m := by simpa using hno
  clear hno
  match s, hr with
  | none, hr => exact absurd hr.1 (by simp)
  | some ⟨p, made, sv, bad⟩, hr =>
   obtain ⟨ao, c, hsv⟩ := hr.2.len
   simp only at hsv
   subst hsv
   refine K.en Tryz.func109 fun F => ?_
   (repeat' first | refine X.rq ?_ | refine X.rc ?_ ?_ <;> intro hc <;> try omega)
   refine K.l_callV (Fx.cal rfl) rfl (R_Err h (some ⟨p, made, .slice ao rem.length c, bad⟩) true rem hr) (K.pp [0] rfl) rfl rfl ?_
   simp only [errV, ↓reduceIte, rA, rv, List.cons_append, List.nil_append]
   (repeat' first | refine X.rq ?_ | refine X.rc ?_ ?_ <;> intro hc <;> try omega)
   all_goals
    refine K.l_call (Fx.cal rfl) rfl (R_fault h (some ⟨p, made, .slice ao rem.length c, bad⟩) true rem hr) (K.pp [0] rfl) rfl ?_
    rintro v h' H' - ⟨rfl, -, s', hs, hr', rfl⟩
    (repeat' first | refine X.rq ?_ | refine X.rc ?_ ?_ <;> intro hc <;> try omega)
    refine K.dl rfl (H' := [rA s']) rfl ⟨rfl, rfl, s', hs, hr', rfl⟩

theorem R_take (h : Base) (s : Option RS) (rem : List UInt8) (m : Nat) (hr : Rd h s true rem) (hl : rem.length ≤ big) (hm : m ≤ rem.length) :
  Tr Tryz.prog 109 [rv s, .int .i64 m] h [rA s] (RPost h s true (rem.drop m) (fun v => ∃ v1, v = .tuple #[v1, .bool true] ∧ BV h v1 (rem.take m))) := by
 unfold big at hl
 match s, hr with
 | none, hr => exact absurd hr.1 (by simp)
 | some ⟨p, made, sv, bad⟩, hr =>
  have hb := hr.2
  simp only at hb
  obtain ⟨ao, c, hsv⟩ := hb.len
  refine K.en Tryz.func109 fun F => ?_
  (repeat' first | refine X.rq ?_ | refine X.rc ?_ ?_ <;> intro hc <;> try omega)
  refine K.l_callV (Fx.cal rfl) rfl (R_Err h (some ⟨p, made, sv, bad⟩) true rem hr) (K.pp [0] rfl) rfl rfl ?_
  simp only [errV, ↓reduceIte, rA, rv, List.cons_append, List.nil_append]
  (repeat' first | refine X.rq ?_ | refine X.rc ?_ ?_ <;> intro hc <;> try omega)
  all_goals
   refine K.s_pure (K.p_lenB hb (Fx.und rfl) rfl) rfl ?_
   (repeat' first | refine X.rq ?_ | refine X.rc ?_ ?_ <;> intro hc <;> try omega)
   refine K.s_pureE (K.p_sliceB (k1 := .i64) (k2 := .i64) (p := 0) (q := m) hb (Fx.und rfl) (Fx.sz rfl) rfl rfl ⟨_, rfl, rfl⟩ (Nat.zero_le _) hm) rfl (fun v1 hv1 => ?_)
   (repeat' first | refine X.rq ?_ | refine X.rc ?_ ?_ <;> intro hc <;> try omega)
   refine K.s_pureE (K.p_sliceB (k1 := .i64) (k2 := .i64) (p := m) (q := rem.length) hb (Fx.und rfl) (Fx.sz rfl) rfl ⟨_, rfl, rfl⟩ rfl hm (Nat.le_refl _)) rfl (fun v2 hv2 => ?_)
   rw [List.take_of_length_le (Nat.le_refl _)] at hv2
   obtain ⟨ao2, c2, rfl⟩ := hv2.len
   (repeat' first | refine X.rq ?_ | refine X.rc ?_ ?_ <;> intro hc <;> try omega)
   refine X.sto ?_
   (repeat' first | refine X.rq ?_ | refine X.rc ?_ ?_ <;> intro hc <;> try omega)
   refine K.dl rfl (H' := [rA (some ⟨p, made, .slice ao2 (rem.drop m).length c2, bad⟩)]) rfl ⟨rfl, ⟨v1, rfl, hv1⟩, some ⟨p, made, .slice ao2 (rem.drop m).length c2, bad⟩, rfl, ⟨hr.1, hv2⟩, rfl⟩
end Go.Proofs.YtijbhgiigddjdaaGreat.Cc
end
