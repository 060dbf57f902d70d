/-
  Texts joined: MX Ra Fr Hj Hf. Conditions: each theorem's own.
-/
import Derived.Test.YtmcdaegaopfihaaGreatY0
import Derived.Test.YtmcdaegaopfihaaGreatY3
import Derived.Test.YtmcdaegaopfihaaGreatY12
import Derived.Test.YtmcdaegaopfihaaGreatY10
section
/-! M1: plain laws of numbers in bytes, no program in sight. Conditions: each theorem's own. -/
namespace Go.K
set_option linter.unusedVariables false
set_option linter.unusedSimpArgs false

def leNum : List UInt8 → Nat
 | [] => 0
 | c :: r => c.toNat + 256 * leNum r
theorem leNum_lt : ∀ l : List UInt8, leNum l < 256 ^ l.length
 | [] => by simp [leNum]
 | c :: r => by
  have := leNum_lt r
  have hc := c.toNat_lt
  rw [leNum, List.length_cons, Nat.pow_succ]
  omega
theorem leNum_snoc : ∀ (l : List UInt8) (c : UInt8), leNum (l ++ [c]) = leNum l + c.toNat * 256 ^ l.length
 | [], c => by simp [leNum]
 | x :: r, c => by
  rw [List.cons_append, leNum, leNum_snoc r c, leNum, List.length_cons, Nat.pow_succ, Nat.mul_add]
  have : 256 * (c.toNat * 256 ^ r.length) = c.toNat * (256 ^ r.length * 256) := by
   rw [Nat.mul_left_comm, Nat.mul_comm 256]
  omega
theorem leNum_lebs : ∀ (m x : Nat), x < 256 ^ m → leNum (lebs x m) = x
 | 0, x, h => by simp at h; simp [lebs, leNum, h]
 | m + 1, x, h => by
  rw [lebs, leNum, leNum_lebs m (x / 256) (by rw [Nat.pow_succ] at h; exact Nat.div_lt_of_lt_mul (by rw [Nat.mul_comm]; exact h))]
  simp
  omega
theorem or_shift (x c i : Nat) (w : Nat) (hx : x < 2 ^ i) (hw : c < 2 ^ w) (h64 : i + w ≤ 64) :
  bits .or .u64 (x : Int) (IntKind.u64.wrap ((c : Int) * 2 ^ (min ((i : Int)).toNat IntKind.u64.bits))) = ((x + c * 2 ^ i : Nat) : Int) := by
 have hm : min ((i : Int)).toNat IntKind.u64.bits = i := by simp [IntKind.bits]; omega
 have hpow : (2 : Nat) ^ i * 2 ^ w ≤ 2 ^ 64 := by rw [← Nat.pow_add]; exact Nat.pow_le_pow_right (by omega) h64
 have hc : c * 2 ^ i < 2 ^ 64 := by
  have : c * 2 ^ i < 2 ^ w * 2 ^ i := Nat.mul_lt_mul_of_pos_right hw (Nat.two_pow_pos i)
  rw [Nat.mul_comm (2 ^ w)] at this
  omega
 have e1 : IntKind.u64.wrap ((c : Int) * 2 ^ i) = ((c * 2 ^ i : Nat) : Int) := by
  rw [wu64]
  have : ((c : Int) * 2 ^ i) = ((c * 2 ^ i : Nat) : Int) := by simp
  rw [this]
  have h2 : (2 : Nat) ^ 64 = 18446744073709551616 := by decide
  omega
 rw [hm, e1, u64_or_nat _ _ (by
  have h2 : (2 : Nat) ^ 64 = 18446744073709551616 := by decide
  have : (2 : Nat) ^ i ≤ 2 ^ 64 := Nat.pow_le_pow_right (by omega) (by omega)
  omega) (by
  have h2 : (2 : Nat) ^ 64 = 18446744073709551616 := by decide
  omega)]
 congr 1
 have := nat_join i (c * 2 ^ i) x (Nat.mul_mod_left _ _) hx
 rw [Nat.or_comm, this, Nat.add_comm]
theorem and127 (c : UInt8) : bits .and .u8 (c.toNat : Int) 127 = ((c.toNat % 128 : Nat) : Int) := by
 rw [show (127 : Int) = ((127 : Nat) : Int) from rfl, u8_and_nat _ _ c.toNat_lt (by omega), nat_mask7]

def frontF : Nat → Nat → List UInt8 → Option (Nat × Nat)
 | _, _, [] => none
 | i, acc, c :: r =>
  if i = 10 ∨ (i = 9 ∧ 1 < c.toNat) then none
  else if c.toNat < 128 then (if 0 < c.toNat ∨ i = 0 then some (acc + c.toNat % 128 * 128 ^ i, i + 1) else none)
  else frontF (i + 1) (acc + c.toNat % 128 * 128 ^ i) r
def front (l : List UInt8) : Option (Nat × Nat) := frontF 0 0 l
theorem frontF_le : ∀ (l : List UInt8) (i acc x m : Nat), i ≤ 10 → frontF i acc l = some (x, m) → i < m ∧ m ≤ i + l.length ∧ m ≤ 10
 | [], i, acc, x, m, _, h => by simp [frontF] at h
 | c :: r, i, acc, x, m, hi, h => by
  rw [frontF] at h
  split at h
  ·cases h
  ·rename_i h1
   split at h
   ·split at h
    ·cases h
     simp; omega
    ·cases h
   ·have := frontF_le r (i + 1) _ x m (by omega) h
    simp; omega
theorem front_le {l : List UInt8} {x m : Nat} (h : front l = some (x, m)) : 1 ≤ m ∧ m ≤ l.length ∧ m ≤ 10 := by
 have := frontF_le l 0 0 x m (by omega) h
 omega
theorem frontF_lt : ∀ (l : List UInt8) (i acc x m : Nat), i ≤ 10 → acc < 128 ^ i → (i = 10 → acc < 18446744073709551616) → frontF i acc l = some (x, m) → x < 18446744073709551616
 | [], i, acc, x, m, _, _, _, h => by simp [frontF] at h
 | c :: r, i, acc, x, m, hi, ha, ha2, h => by
  rw [frontF] at h
  split at h
  ·cases h
  ·rename_i h1
   have hc : c.toNat % 128 < 128 := Nat.mod_lt _ (by omega)
   have hstep : acc + c.toNat % 128 * 128 ^ i < 128 ^ (i + 1) := by
    rw [Nat.pow_succ]
    have : c.toNat % 128 * 128 ^ i ≤ 127 * 128 ^ i := Nat.mul_le_mul_right _ (by omega)
    omega
   have h9 : i = 9 → acc + c.toNat % 128 * 128 ^ i < 18446744073709551616 := fun e => by
    subst e
    have hc1 : c.toNat ≤ 1 := by omega
    have : c.toNat % 128 ≤ 1 := by omega
    have : c.toNat % 128 * 128 ^ 9 ≤ 1 * 128 ^ 9 := Nat.mul_le_mul_right _ this
    have e9 : (128 : Nat) ^ 9 = 9223372036854775808 := by decide
    omega
   have hle : i ≤ 8 → acc + c.toNat % 128 * 128 ^ i < 18446744073709551616 := fun e => by
    have : (128 : Nat) ^ (i + 1) ≤ 128 ^ 9 := Nat.pow_le_pow_right (by omega) (by omega)
    have e9 : (128 : Nat) ^ 9 = 9223372036854775808 := by decide
    omega
   split at h
   ·split at h
    ·cases h
     rcases Nat.lt_or_ge i 9 with h' | h'
     ·exact hle (by omega)
     ·exact h9 (by omega)
    ·cases h
   ·refine frontF_lt r (i + 1) _ x m (by omega) hstep (fun e => h9 (by omega)) h
theorem front_lt {l : List UInt8} {x m : Nat} (h : front l = some (x, m)) : x < 18446744073709551616 := frontF_lt l 0 0 x m (by omega) (by simp) (by omega) h
theorem frontF_cu : ∀ (f i acc x : Nat) (r : List UInt8), f + i ≤ 9 → x < 128 ^ (f + 1) → (i + f = 9 → x / 128 ^ f ≤ 1) → (i = 0 ∨ 0 < x) → frontF i acc (cuF f x ++ r) = some (acc + x * 128 ^ i, i + (cuF f x).length)
 | 0, i, acc, x, r, hi, hx, h9, h0 => by
  simp at hx
  rw [cuF, List.singleton_append, frontF]
  have hc : (UInt8.ofNat x).toNat = x := by simp; omega
  rw [hc, if_neg (by intro h; rcases h with h | h; omega; have := h9 (by omega); simp at this; omega), if_pos hx, if_pos (by omega), Nat.mod_eq_of_lt hx]
  simp
 | f + 1, i, acc, x, r, hi, hx, h9, h0 => by
  rw [cuF]
  by_cases hlt : x < 128
  ·rw [if_pos hlt, List.singleton_append, frontF]
   have hc : (UInt8.ofNat x).toNat = x := by simp; omega
   rw [hc, if_neg (by omega), if_pos hlt, if_pos (by omega), Nat.mod_eq_of_lt hlt]
   simp
  ·rw [if_neg hlt, List.cons_append, frontF]
   have hc : (UInt8.ofNat (x % 128 + 128)).toNat = x % 128 + 128 := by simp; omega
   rw [hc, if_neg (by omega), if_neg (by omega)]
   rw [frontF_cu f (i + 1) _ (x / 128) r (by omega) (by rw [Nat.pow_succ] at hx; exact Nat.div_lt_of_lt_mul (by rw [Nat.mul_comm]; exact hx)) (fun e => by
    have := h9 (by omega)
    rwa [Nat.div_div_eq_div_mul, Nat.mul_comm, ← Nat.pow_succ]) (.inr (by omega))]
   congr 1
   rw [Prod.mk.injEq]
   constructor
   ·rw [Nat.add_mod_right, Nat.mod_mod, Nat.pow_succ, Nat.add_assoc, ← Nat.mul_assoc]
    congr 1
    rw [Nat.mul_right_comm, ← Nat.add_mul]
    congr 1
    omega
   ·simp; omega
theorem front_cu (x : Nat) (hx : x < 18446744073709551616) (r : List UInt8) : front (cu x ++ r) = some (x, (cu x).length) := by
 have := frontF_cu 9 0 0 x r (by omega) (Nat.lt_of_lt_of_le hx (by decide)) (fun _ => by
  have e9 : (128 : Nat) ^ 9 = 9223372036854775808 := by decide
  rw [e9]; omega) (.inl rfl)
 simpa [front, cu] using this
def unzig (x : Nat) : Int := if x % 2 = 0 then ((x / 2 : Nat) : Int) else -((x / 2 : Nat) : Int) - 1
end Go.K

/-! M2: a counted number has one form. Plain law, no program. Conditions: none. -/
namespace Go.K
set_option linter.unusedVariables false
set_option linter.unusedSimpArgs false

end Go.K

/-! M3: the reference's way to a counted number: how many bytes go on, then the number from its end. Plain law, no program. Conditions: none. -/
namespace Go.K
set_option linter.unusedVariables false
set_option linter.unusedSimpArgs false

def num7 : List UInt8 → Nat
 | [] => 0
 | c :: r => c.toNat % 128 + 128 * num7 r
def badEnd (i : Nat) (l : List UInt8) (n : Nat) : Prop := match l[n]? with
 | none => True
 | some c => 9 < i + n ∨ (i + n = 9 ∧ 1 < c.toNat) ∨ (0 < i + n ∧ c.toNat = 0)
end Go.K
end

section
namespace Go.Proofs.YtmcdaegaopfihaaGreat.Ra
open Go Go.K Go.Proofs Go.Proofs.YtmcdaegaopfihaaGreat
set_option linter.unusedVariables false
set_option linter.unusedSimpArgs false
set_option maxRecDepth 10000

def Gave (h : Base) (l : List UInt8) (v : Value) (h' : Base) (H' : List Asrt) : Prop := h = h' ∧ ∃ a cap, v = bufV a l.length cap ∧ H' = [bufA 5 1 a l.length cap (l.map u8)]

end Go.Proofs.YtmcdaegaopfihaaGreat.Ra
end

section
namespace Go.Proofs.YtmcdaegaopfihaaGreat.Pg
open Go Go.K Go.Proofs Go.Proofs.YtmcdaegaopfihaaGreat Go.Proofs.YtmcdaegaopfihaaGreat.Ra
set_option linter.unusedVariables false
set_option linter.unusedSimpArgs false
set_option maxRecDepth 10000

section
variable {n : Nat} {Q : Exit → Act → World → Prop} {E : Env} {h : Base} {H R : List Asrt} {ops : Array Oper} {rest : List Oper} {t t2 ty : TypeId} {ps : String} {af : Array Edge} {d : Nat} {x y : Operand}
end
end Go.Proofs.YtmcdaegaopfihaaGreat.Pg
end

section
namespace Go.Proofs.YtmcdaegaopfihaaGreat.Rc
open Go Go.K Go.Proofs Go.Proofs.YtmcdaegaopfihaaGreat Go.Proofs.YtmcdaegaopfihaaGreat.Pg Go.Proofs.YtmcdaegaopfihaaGreat.Ca Go.Proofs.YtmcdaegaopfihaaGreat.Ra
set_option linter.unusedVariables false
set_option linter.unusedSimpArgs false
set_option maxRecDepth 10000

end Go.Proofs.YtmcdaegaopfihaaGreat.Rc
end

section
namespace Go.Proofs.YtmcdaegaopfihaaGreat.Rc
open Go Go.K Go.Proofs Go.Proofs.YtmcdaegaopfihaaGreat Go.Proofs.YtmcdaegaopfihaaGreat.Pg Go.Proofs.YtmcdaegaopfihaaGreat.Ca
set_option linter.unusedVariables false
set_option linter.unusedSimpArgs false
set_option maxRecDepth 10000

theorem flat_len {α : Type} (f : α → List UInt8) (b : Nat) : ∀ (l : List α), (∀ x ∈ l, (f x).length ≤ b) → (l.flatMap f).length ≤ l.length * b
 | [], _ => by simp
 | x :: l, h => by
  have h1 := flat_len f b l fun y hy => h y (List.mem_cons_of_mem _ hy)
  have h2 := h x (List.mem_cons_self ..)
  rw [List.flatMap_cons, List.length_append, List.length_cons, Nat.add_mul, Nat.one_mul]
  omega
theorem cellN_len {x : PCell} (ho : okCell x) : (cellN x).length ≤ 200 := by
 have h1 := cu_len x.data.length
 have h2 := cu_len x.killer
 unfold cellN
 rw [List.length_append]
 split
 ·have := ho.1 (by assumption)
  rw [List.length_append]; omega
 ·rw [List.length_nil]; omega
theorem pagN_len {p : Pag} (hm : mayQ p = true) : (pagN p).length ≤ 12030 := by
 have h1 := cu_len p.next
 have h2 := cu_len p.cells.length
 have h3 := flat_len cellN 200 p.cells fun x hx => cellN_len (may_ok hm x hx)
 have h4 := ((mayQ_iff p).1 hm).2.1
 have h5 : p.cells.length * 200 ≤ 60 * 200 := Nat.mul_le_mul_right _ h4
 unfold pagN cellsN
 simp only [List.length_append, lebs_length]
 omega
set_option maxHeartbeats 2000000 in
theorem PImage (h : Base) (P : Nat) (a : Option Nat) (c : Nat) (l : List UInt8) (cs : List Value) (p : Pag) (hx : PagC h cs p) (hm : mayQ p = true) (hl : l.length ≤ 800000000) :
  Tr Tryz.prog 90 [wp P, .agg cs.toArray] h [wA (some (P, some (a, c, l)))] (fun u h' H' => Wr P (l ++ pagN p) u h h' H') := by
 obtain ⟨hw, cv, rfl, es, hv, hel, hr⟩ := hx
 obtain ⟨ao, ca, rfl⟩ := hv.len
 rw [hel] at hv ⊢
 obtain ⟨⟨hk1, hk3⟩, h60, _, _⟩ := (mayQ_iff p).1 hm
 have hok := may_ok hm
 obtain ⟨k, hk⟩ : ∃ k : Nat, p.kind = k := ⟨p.kind.toNat, by omega⟩
 have hkn : p.kind.toNat = k := by omega
 have hwn := hw.next
 have hpn : pagN p = lebs k 1 ++ (cu p.next ++ cu p.cells.length) ++ cellsN p.cells := by
  unfold pagN; rw [hkn]; simp only [List.append_assoc]
 rw [hpn]
 refine K.enter Tryz.func90 rfl (Nat.le_of_ble_eq_true rfl) (fun F => ?_)
 simp only [List.cons_append, List.nil_append]
 (repeat' first | refine X.rq ?_ | refine X.rc ?_ ?_ <;> intro hc <;> try omega)
 refine K.l_box rfl rfl rfl (fun B3 => ?_)
 (repeat' first | refine X.rq ?_ | refine X.rc ?_ ?_ <;> intro hc <;> try omega)
 rw [hk]
 refine K.l_call (Fx.cal rfl) rfl (V_U8 h P a c l k (by omega) (by omega)) (K.pp [1] rfl) rfl ?_
 rintro u h' H' - ⟨e, rfl, a1, c1, rfl⟩
 obtain rfl := e.symm
 simp only [Go.K.nmz]
 (repeat' first | refine X.rq ?_ | refine X.rc ?_ ?_ <;> intro hc <;> try omega)
 refine K.l_buildSlice (Fx.und rfl) (Fx.sz rfl) rfl (Fx.zr rfl) rfl rfl rfl (cs := [.int .u64 p.next, .int .u64 p.cells.length]) rfl rfl (fun B => ?_)
 refine K.l_call (Fx.cal rfl) rfl (NumsB h P a1 c1 (l ++ lebs k 1) B 27 [p.next, p.cells.length] (by simp; omega) (Nat.le_of_ble_eq_true rfl) (by simp [lebs_length]; omega)) (K.pp [0, 0] rfl) rfl ?_
 rintro u h' H' - ⟨e, rfl, a2, c2, rfl⟩
 obtain rfl := e.symm
 simp only [Go.K.nmz]
 (repeat' first | refine X.rq ?_ | refine X.rc ?_ ?_ <;> intro hc <;> try omega)
 have hl2 : (l ++ lebs k 1 ++ [p.next, p.cells.length].flatMap cu).length ≤ 800000021 := by
  have h1 := cu_len p.next
  have h2 := cu_len p.cells.length
  simp [lebs_length]; omega
 rw [show l ++ (lebs k 1 ++ (cu p.next ++ cu p.cells.length) ++ cellsN p.cells) = (l ++ lebs k 1 ++ [p.next, p.cells.length].flatMap cu) ++ cellsN p.cells by simp [List.append_assoc]]
 generalize l ++ lebs k 1 ++ [p.next, p.cells.length].flatMap cu = l2 at hl2 ⊢
 refine K.c_loop (σ := Nat × Option Nat × Nat) (fun s => [(0, wp P), (3, .pointer (some ⟨B3, 0, none⟩)), (22, .slice ao p.cells.length ca), (23, .int .i64 p.cells.length), (24, .int .i64 s.1)]) (fun _ => h)
  (fun s => wA (some (P, some (s.2.1, s.2.2, l2 ++ cellsN (p.cells.take s.1)))) :: blk B3 86 (cP p (.slice ao p.cells.length ca)) :: F) (fun s => s.1 ≤ p.cells.length) (fun s => p.cells.length - s.1) (0, a2, c2) (Nat.zero_le _) (by repeat (first | exact K.Sub.nil _ | refine K.Sub.cons rfl ?_)) rfl (by simp [cellsN]) ?_
 rintro ⟨j, a3, c3⟩ hj KL hKL
 dsimp only at hj ⊢
 by_cases hjl : j < p.cells.length
 ·have hc1 : es[j]? = some (es[j]'(by omega)) := List.getElem?_eq_getElem (by omega)
  have hc0 : es[((j : Nat) : Int).toNat]? = some (es[j]'(by omega)) := by rw [Int.toNat_natCast]; exact hc1
  have he1 : p.cells[j]? = some p.cells[j] := List.getElem?_eq_getElem hjl
  have hox := hok _ (List.getElem_mem hjl)
  have hl3 : (cellsN (p.cells.take j)).length ≤ 12000 := by
   have h1 := flat_len cellN 200 (p.cells.take j) fun x hx => cellN_len (hok x (List.mem_of_mem_take hx))
   have h2 : (p.cells.take j).length * 200 ≤ 60 * 200 := Nat.mul_le_mul_right _ (by rw [List.length_take]; omega)
   unfold cellsN; omega
  have hat : cellsN (p.cells.take (j + 1)) = cellsN (p.cells.take j) ++ cellN p.cells[j] := flat_at cellN he1
  generalize es[j]'(by omega) = cc at hc0 hc1
  generalize p.cells[j] = x at he1 hox hat
  obtain ⟨hkl, hdl, ao3, ca3, rfl, hbv⟩ := hr j cc x hc1 he1
  have hxd : x.data.length ≤ 180 := by
   cases hu : x.used with
   | true => have := hox.1 hu; omega
   | false => have := hox.2 hu; omega
  have hl4 : (l2 ++ cellsN (p.cells.take j)).length ≤ 800012021 := by rw [List.length_append]; omega
  generalize hq : l2 ++ cellsN (p.cells.take j) = l4 at hl4 ⊢
  have hcn : cellN x = cu x.data.length ++ if x.used = true then cu x.killer ++ x.data else [] := rfl
  have h1 := cu_len x.data.length
  have h2 := cu_len x.killer
  (repeat' first | refine X.rq ?_ | refine X.rc ?_ ?_ <;> intro hc <;> try omega)
  refine K.s_pureE (K.p_indexL hv (Fx.und rfl) (Fx.sz rfl) rfl rfl (by omega) hc0) rfl ?_
  rintro v2 ⟨b, o, rfl, hcel⟩
  refine K.s_pure (K.p_loadM (Fx.agg rfl) rfl (Cels.up hcel) (Fx.sz rfl) rfl) rfl ?_
  refine K.l_alloc (Fx.zr rfl) rfl rfl (fun B5 => ?_)
  refine X.stw ?_
  simp only [Go.K.nmz]
  (repeat' first | refine X.rq ?_ | refine X.rc ?_ ?_ <;> intro hc <;> try omega)
  refine K.l_call (Fx.cal rfl) rfl (V_Uint h P a3 c3 l4 x.data.length (by omega) (by omega)) (K.pp [1] rfl) rfl ?_
  rintro u h' H' - ⟨e, rfl, a4, c4, rfl⟩
  obtain rfl := e.symm
  simp only [Go.K.nmz]
  cases hu : x.used with
  | true =>
   (repeat' first | refine X.rq ?_ | refine X.rc ?_ ?_ <;> intro hc <;> try omega)
   refine K.l_call (Fx.cal rfl) rfl (V_Uint h P a4 c4 (l4 ++ cu x.data.length) x.killer (by omega) (by rw [List.length_append]; omega)) (K.pp [0] rfl) rfl ?_
   rintro u h' H' - ⟨e, rfl, a5, c5, rfl⟩
   obtain rfl := e.symm
   simp only [Go.K.nmz]
   (repeat' first | refine X.rq ?_ | refine X.rc ?_ ?_ <;> intro hc <;> try omega)
   refine K.l_call (Fx.cal rfl) rfl (V_Raw h P a5 c5 (l4 ++ cu x.data.length ++ cu x.killer) _ x.data hbv (by simp only [List.length_append]; omega) (by omega)) (K.pp [0] rfl) rfl ?_
   rintro u h' H' - ⟨e, rfl, a6, c6, rfl⟩
   obtain rfl := e.symm
   simp only [Go.K.nmz]
   (repeat' first | refine X.rq ?_ | refine X.rc ?_ ?_ <;> intro hc <;> try omega)
   refine K.AT.perm (K.pp [1] rfl) ?_
   simp only [Go.K.nmz]
   refine K.AT.drop ?_
   refine K.a_round hKL (j + 1, a6, c6) (by dsimp only; omega) (by repeat (first | exact K.Sub.nil _ | refine K.Sub.cons rfl ?_)) rfl ?_ (by dsimp only; omega)
   dsimp only
   rw [hat, hcn, if_pos hu, ← hq]
   simp only [List.append_assoc]
  | false =>
   (repeat' first | refine X.rq ?_ | refine X.rc ?_ ?_ <;> intro hc <;> try omega)
   refine K.AT.perm (K.pp [1] rfl) ?_
   simp only [Go.K.nmz]
   refine K.AT.drop ?_
   refine K.a_round hKL (j + 1, a4, c4) (by dsimp only; omega) (by repeat (first | exact K.Sub.nil _ | refine K.Sub.cons rfl ?_)) rfl ?_ (by dsimp only; omega)
   dsimp only
   rw [hat, hcn, if_neg (by rw [hu]; decide), ← hq, List.append_nil, List.append_assoc]
 ·obtain rfl : j = p.cells.length := by omega
  rw [List.take_length]
  (repeat' first | refine X.rq ?_ | refine X.rc ?_ ?_ <;> intro hc <;> try omega)
  refine K.AT.perm (K.pp [1] rfl) ?_
  simp only [Go.K.nmz]
  refine K.AT.drop ?_
  refine K.done (by first | exact Or.inl rfl | exact Or.inr rfl) rfl (by first | exact K.Base.le.refl _ | assumption) (H' := [wA (some (P, some (a3, c3, l2 ++ cellsN p.cells)))]) rfl ⟨rfl, rfl, a3, c3, rfl⟩
end Go.Proofs.YtmcdaegaopfihaaGreat.Rc
end
