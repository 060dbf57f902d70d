/-
  Texts joined: Ra Rba Gd. Conditions: each theorem's own.
-/
import Derived.Test.YtijbhgiigddjdaaGreatPB0
import Derived.Test.YtijbhgiigddjdaaGreatPB15
import Derived.Test.YtijbhgiigddjdaaGreatPB3
import Derived.Test.YtijbhgiigddjdaaGreatPB17
import Derived.Test.YtijbhgiigddjdaaGreatPB9
set_option linter.unusedVariables false
set_option linter.unusedSimpArgs false
section
namespace Go.Proofs.YtijbhgiigddjdaaGreat.Ra
open Go Go.K Go.Proofs Go.Proofs.YtijbhgiigddjdaaGreat
set_option maxRecDepth 10000

def Gave (h : Base) (l : List UInt8) (v : Value) (h' : Base) (H' : List Asrt) : Prop := h = h' ∧ ∃ a cap, v = bufV a l.length cap ∧ H' = [bufA 5 1 a l.length cap (l.map u8)]

theorem Fixed (h : Base) (x m : Nat) (hx : x < 18446744073709551616) (hm : m ≤ 8) : Tr Tryz.prog 83 [.int .u64 x, .int .i64 m] h [] (Gave h (lebs x m)) := by
 refine K.enter Tryz.func83 rfl (Nat.le_of_ble_eq_true rfl) (fun F => ?_)
 refine K.WC.nilBuf 5 1 ?_
 (repeat' first | refine X.rq ?_ | refine X.rc ?_ ?_ <;> intro hc <;> try omega)
 refine K.c_loop (σ := Nat × Nat × Option Nat × Nat × List UInt8) (fun s => [(0, .int .u64 s.2.1), (1, .int .i64 m), (5, bufV s.2.2.1 s.1 s.2.2.2.1), (6, .int .i64 s.1)]) (fun _ => h)
  (fun s => bufA 5 1 s.2.2.1 s.1 s.2.2.2.1 (s.2.2.2.2.map u8) :: F) (fun s => s.1 ≤ m ∧ s.2.1 < 18446744073709551616 ∧ s.2.2.2.2 ++ lebs s.2.1 (m - s.1) = lebs x m) (fun s => m - s.1) (0, x, none, 0, []) ⟨Nat.zero_le _, hx, rfl⟩ (by repeat (first | exact K.Sub.nil _ | refine K.Sub.cons rfl ?_)) rfl rfl ?_
 rintro ⟨j, y, a, cap, pre⟩ ⟨hj, hy, hpre⟩ KL hKL
 dsimp only at hj hy hpre ⊢
 (repeat' first | refine X.rq ?_ | refine X.rc ?_ ?_ <;> intro hc <;> try omega)
 ·refine X.bs (fun B => ?_)
  refine K.l_append_at 1 rfl (Fx.und rfl) (Fx.und rfl) rfl (Fx.sz rfl) (Fx.zr rfl) rfl (Fx.byt rfl) rfl rfl (K.src_one (K.cel_own 0 rfl rfl) rfl) (by omega) (by omega) rfl (fun a' cap' => ?_)
  simp only [Go.K.nmz]
  (repeat' first | refine X.rq ?_ | refine X.rc ?_ ?_ <;> intro hc <;> try omega)
  refine K.AT.drop (K.a_round hKL (j + 1, y / 256, a', cap', pre ++ [UInt8.ofNat (y % 256)]) ⟨by omega, by dsimp only; omega, ?_⟩ (by repeat (first | exact K.Sub.nil _ | refine K.Sub.cons rfl ?_)) rfl ?_ (by dsimp only; omega))
  ·dsimp only
   rw [← hpre, show m - j = (m - (j + 1)) + 1 from by omega, lebs, List.append_assoc]; rfl
  ·dsimp only
   rw [List.map_append, List.map_singleton, u8_ofNat]; rfl
 ·obtain rfl : j = m := by omega
  rw [Nat.sub_self, lebs, List.append_nil] at hpre
  have hlen : pre.length = j := by rw [hpre, lebs_length]
  refine K.dl rfl (H' := [bufA 5 1 a j cap (pre.map u8)]) rfl ⟨rfl, a, cap, ?_, ?_⟩
  ·rw [← hpre, hlen]; rfl
  ·rw [← hpre, hlen]

end Go.Proofs.YtijbhgiigddjdaaGreat.Ra
end

section
namespace Go.Proofs.YtijbhgiigddjdaaGreat.Rb
open Go Go.K Go.Proofs Go.Proofs.YtijbhgiigddjdaaGreat Go.Proofs.YtijbhgiigddjdaaGreat.Cc
set_option maxRecDepth 10000

def qv (p : Nat) : Value := .pointer (some ⟨p, 0, none⟩)
def qA (p : Nat) (sv : Value) (bad : Bool) : Asrt := blk p 117 [sv, .bool bad]
def QPost (h : Base) (p : Nat) (ok : Bool) (rem : List UInt8) (V : Value → Prop) (v : Value) (h' : Base) (H' : List Asrt) : Prop := h = h' ∧ V v ∧ ∃ sv', BV h sv' rem ∧ H' = [qA p sv' (!ok)]

theorem Q_take_no (h : Base) (p : Nat) (sv : Value) (ok : Bool) (rem : List UInt8) (m : Int) (hb : BV h sv rem) (hl : rem.length ≤ big) (hm1 : -9223372036854775808 ≤ m) (hm2 : m ≤ 9223372036854775807) (hno : ok = false ∨ m < 0 ∨ (rem.length : Int) < m) :
  Tr Tryz.prog 43 [qv p, .int .i64 m] h [qA p sv (!ok)] (QPost h p false rem (· = .slice none 0 0)) := by
 unfold big at hl
 obtain ⟨ao, c, rfl⟩ := hb.len
 refine K.enter Tryz.func43 rfl (Nat.le_of_ble_eq_true rfl) (fun F => ?_)
 simp only [qv, qA, List.cons_append, List.nil_append]
 cases ok with
 | false =>
  simp only [Bool.not_false]
  (repeat' first | refine X.rq ?_ | refine X.rc ?_ ?_ <;> intro hc <;> try omega)
  refine X.sto ?_
  (repeat' first | refine X.rq ?_ | refine X.rc ?_ ?_ <;> intro hc <;> try omega)
  refine K.dl rfl (H' := [qA p _ true]) rfl ⟨rfl, rfl, _, hb, rfl⟩
 | true =>
  have hno' : m < 0 ∨ (rem.length : Int) < m := by simpa using hno
  clear hno
  simp only [Bool.not_true]
  by_cases hneg : m < 0
  ·(repeat' first | refine X.rq ?_ | refine X.rc ?_ ?_ <;> intro hc <;> try omega)
   ·refine X.sto ?_
    (repeat' first | refine X.rq ?_ | refine X.rc ?_ ?_ <;> intro hc <;> try omega)
    refine K.dl rfl (H' := [qA p _ true]) rfl ⟨rfl, rfl, _, hb, rfl⟩
  ·(repeat' first | refine X.rq ?_ | refine X.rc ?_ ?_ <;> intro hc <;> try omega)
   ·refine X.sto ?_
    (repeat' first | refine X.rq ?_ | refine X.rc ?_ ?_ <;> intro hc <;> try omega)
    refine K.dl rfl (H' := [qA p _ true]) rfl ⟨rfl, rfl, _, hb, rfl⟩

theorem Q_take (h : Base) (p : Nat) (sv : Value) (rem : List UInt8) (m : Nat) (hb : BV h sv rem) (hl : rem.length ≤ big) (hm : m ≤ rem.length) :
  Tr Tryz.prog 43 [qv p, .int .i64 m] h [qA p sv false] (fun v h' H' => h = h' ∧ ∃ a cap sv', v = bufV a m cap ∧ BV h sv' (rem.drop m) ∧ H' = [bufA 5 1 a m cap ((rem.take m).map u8), qA p sv' false]) := by
 unfold big at hl
 obtain ⟨ao, c, rfl⟩ := hb.len
 refine K.enter Tryz.func43 rfl (Nat.le_of_ble_eq_true rfl) (fun F => ?_)
 simp only [qv, qA, List.cons_append, List.nil_append]
 (repeat' first | refine X.rq ?_ | refine X.rc ?_ ?_ <;> intro hc <;> try omega)
 refine K.WC.nilBuf 5 1 ?_
 refine K.c_loop (σ := Nat × Option Nat × Nat) (fun r => [(0, qv p), (1, .int .i64 m), (5, bufV r.2.1 r.1 r.2.2), (6, .int .i64 r.1)]) (fun _ => h)
  (fun r => bufA 5 1 r.2.1 r.1 r.2.2 ((rem.take r.1).map u8) :: qA p (.slice ao rem.length c) false :: F) (fun r => r.1 ≤ m) (fun r => m - r.1) (0, none, 0) (Nat.zero_le _) (by repeat (first | exact K.Sub.nil _ | refine K.Sub.cons rfl ?_)) rfl rfl ?_
 rintro ⟨j, a, cap⟩ hj KL hKL
 dsimp only at hj ⊢
 simp only [qv, qA]
 by_cases hjm : j < m
 ·have hjl : j < rem.length := by omega
  have hc0 : rem[((j : Nat) : Int).toNat]? = some rem[j] := by simp [hjl]
  (repeat' first | refine X.rq ?_ | refine X.rc ?_ ?_ <;> intro hc <;> try omega)
  refine K.s_pureE (K.p_indexB hb (Fx.und rfl) (Fx.sz rfl) rfl rfl (by omega) hc0) rfl ?_
  rintro v2 ⟨b, o, rfl, hcel⟩
  have hcel' := hcel.up (K := bufA 5 1 a j cap ((rem.take j).map u8) :: blk p 117 [.slice ao rem.length c, .bool false] :: F)
  (repeat' first | refine X.rq ?_ | refine X.rc ?_ ?_ <;> intro hc <;> try omega)
  refine X.bs (fun B => ?_)
  refine K.l_append_at 1 rfl (Fx.und rfl) (Fx.und rfl) rfl (Fx.sz rfl) (Fx.zr rfl) rfl (Fx.byt rfl) rfl rfl (K.src_one (K.cel_own 0 rfl rfl) rfl) (by omega) (by omega) rfl (fun a' cap' => ?_)
  simp only [Go.K.nmz]
  (repeat' first | refine X.rq ?_ | refine X.rc ?_ ?_ <;> intro hc <;> try omega)
  refine K.AT.drop (K.a_round hKL (j + 1, a', cap') (by dsimp only; omega) (by repeat (first | exact K.Sub.nil _ | refine K.Sub.cons rfl ?_)) rfl ?_ (by dsimp only; omega))
  dsimp only
  rw [List.take_add_one, List.getElem?_eq_getElem hjl, Option.toList_some, List.map_append]
  rfl
 ·obtain rfl : j = m := by omega
  (repeat' first | refine X.rq ?_ | refine X.rc ?_ ?_ <;> intro hc <;> try omega)
  refine K.s_pureE (K.p_sliceB (k1 := .i64) (k2 := .i64) (p := j) (q := rem.length) hb (Fx.und rfl) (Fx.sz rfl) rfl ⟨_, rfl, rfl⟩ rfl hm (Nat.le_refl _)) rfl ?_
  rintro sv' hb'
  rw [List.take_length] at hb'
  obtain ⟨ao', c', rfl⟩ := hb'.len
  (repeat' first | refine X.rq ?_ | refine X.rc ?_ ?_ <;> intro hc <;> try omega)
  refine X.sto ?_
  (repeat' first | refine X.rq ?_ | refine X.rc ?_ ?_ <;> intro hc <;> try omega)
  refine K.dl rfl (H' := [bufA 5 1 a j cap ((rem.take j).map u8), qA p _ false]) rfl ⟨rfl, a, cap, _, rfl, hb', rfl⟩

theorem Q_Fixed (h : Base) (p : Nat) (sv : Value) (ok : Bool) (rem : List UInt8) (m : Nat) (hb : BV h sv rem) (hl : rem.length ≤ big) (hm : m ≤ 8) :
  Tr Tryz.prog 42 [qv p, .int .i64 m] h [qA p sv (!ok)] (QPost h p (getOk ok m rem) (getRem ok m rem) (· = .int .u64 (getN ok m rem : Nat))) := by
 refine K.enter Tryz.func42 rfl (Nat.le_of_ble_eq_true rfl) (fun F => ?_)
 by_cases hno : ok = false ∨ (m : Int) < 0 ∨ (rem.length : Int) < m
 ·have hneg : ¬ (ok = true ∧ m ≤ rem.length) := by rintro ⟨rfl, h2⟩; simp at hno; omega
  have e1 : getN ok m rem = 0 := by rw [getN, if_neg hneg]
  have e2 : getRem ok m rem = rem := by rw [getRem, if_neg hneg]
  have e3 : getOk ok m rem = false := by
   unfold getOk
   cases ok
   ·rfl
   ·simpa using hneg
  rw [e1, e2, e3]
  (repeat' first | refine X.rq ?_ | refine X.rc ?_ ?_ <;> intro hc <;> try omega)
  refine K.l_call (Fx.cal rfl) rfl (Q_take_no h p sv ok rem m hb hl (by omega) (by omega) hno) (K.pp [0] rfl) rfl ?_
  rintro v h' H' - ⟨rfl, rfl, sv', hb', rfl⟩
  (repeat' first | refine X.rq ?_ | refine X.rc ?_ ?_ <;> intro hc <;> try omega)
  refine K.c_loop (σ := Unit) (fun _ => [(6, .int .u64 0), (7, .int .i64 (-1))]) (fun _ => h) (fun _ => qA p sv' true :: F) (fun _ => True) (fun _ => 0) () trivial (by repeat (first | exact K.Sub.nil _ | refine K.Sub.cons rfl ?_)) rfl rfl ?_
  rintro _ - KL hKL
  (repeat' first | refine X.rq ?_ | refine X.rc ?_ ?_ <;> intro hc <;> try omega)
  refine K.dl rfl (H' := [qA p sv' true]) rfl ⟨rfl, rfl, sv', hb', rfl⟩
 ·obtain ⟨rfl, hm0⟩ : ok = true ∧ m ≤ rem.length := by
   cases ok
   ·simp at hno
   ·simp at hno; exact ⟨rfl, by omega⟩
  have hpos : true = true ∧ m ≤ rem.length := ⟨rfl, hm0⟩
  have e1 : getN true m rem = leNum (rem.take m) := by rw [getN, if_pos hpos]
  have e2 : getRem true m rem = rem.drop m := by rw [getRem, if_pos hpos]
  have e3 : getOk true m rem = true := by simp [getOk, hm0]
  rw [e1, e2, e3]
  (repeat' first | refine X.rq ?_ | refine X.rc ?_ ?_ <;> intro hc <;> try omega)
  refine K.l_call (Fx.cal rfl) rfl (Q_take h p sv rem m hb hl hm0) (K.pp [0] rfl) rfl ?_
  rintro v h' H' - ⟨rfl, a, cap, sv', rfl, hb', rfl⟩
  have hlt : (rem.take m).length = m := by simp; omega
  generalize rem.take m = l at hlt
  (repeat' first | refine X.rq ?_ | refine X.rc ?_ ?_ <;> intro hc <;> try omega)
  refine K.c_loop (σ := Nat) (fun j => [(5, bufV a m cap), (6, .int .u64 (leNum (l.drop j) : Nat)), (7, .int .i64 ((j : Int) - 1))]) (fun _ => h)
   (fun _ => bufA 5 1 a m cap (l.map u8) :: qA p sv' false :: F) (fun j => j ≤ m) (fun j => j) m (Nat.le_refl _) ?_ rfl rfl ?_
  ·have hd : leNum (l.drop m) = 0 := by rw [List.drop_of_length_le (by omega)]; rfl
   rw [hd]
   exact (by repeat (first | exact K.Sub.nil _ | refine K.Sub.cons rfl ?_))
  rintro j hj KL hKL
  by_cases h0 : j = 0
  ·subst h0
   (repeat' first | refine X.rq ?_ | refine X.rc ?_ ?_ <;> intro hc <;> try omega)
   rw [List.drop_zero]
   refine K.AT.drop ?_
   refine K.dl rfl (H' := [qA p sv' false]) rfl ⟨rfl, rfl, sv', hb', rfl⟩
  ·obtain ⟨i, rfl⟩ : ∃ i, j = i + 1 := ⟨j - 1, by omega⟩
   have hil : i < l.length := by omega
   have hc0 : l[i]? = some l[i] := List.getElem?_eq_getElem hil
   have ei : (((i + 1 : Nat) : Int) - 1) = (i : Int) := by omega
   have hx : leNum (l.drop (i + 1)) < 72057594037927936 := by
    have h1 := leNum_lt (l.drop (i + 1))
    have h2 : (256 : Nat) ^ (l.drop (i + 1)).length ≤ 256 ^ 7 := Nat.pow_le_pow_right (by omega) (by simp; omega)
    have h3 : (256 : Nat) ^ 7 = 72057594037927936 := by decide
    omega
   have hdr := leNum_drop hc0
   generalize l[i] = c at hc0 hdr
   have hcl := c.toNat_lt
   rw [ei]
   refine K.oc_buf (fun _ e _ _ => by omega) ?_
   rintro bb sp fz rfl g2 g3 g4 g5 g6
   have hcel : Cel h (blkF bb 5 (l.map u8 ++ sp) fz :: qA p sv' false :: F) bb i (u8 c) := K.cel_own 0 rfl (by rw [List.getElem?_append_left (by simpa using hil), List.getElem?_map, hc0]; rfl)
   unfold K.u8 at hcel
   (repeat' first | refine X.rq ?_ | refine X.rc ?_ ?_ <;> intro hc <;> try omega)
   rw [show (256 * ((leNum (l.drop (i+1)) : Nat) : Int) + (c.toNat : Int)) = ((leNum (l.drop i) : Nat) : Int) from by rw [hdr]; omega]
   refine K.AT.shut (s := 1) (m := m) (cap := cap) g2 g3 g4 g5 g6 ?_
   refine K.a_round hKL i (by omega) (by repeat (first | exact K.Sub.nil _ | refine K.Sub.cons rfl ?_)) rfl rfl (by omega)
def frontV (o : Option (Nat × Nat)) : Value := match o with
 | some (x, m) => .tuple #[.int .u64 x, .int .i64 m]
 | none => .tuple #[.int .u64 0, .int .i64 0]

theorem Tr.mono {P : Program} {f : FuncId} {args : List Value} {h : Base} {Pre : List Asrt} {Post Post' : Value → Base → List Asrt → Prop} (ht : Tr P f args h Pre Post)
  (hk : ∀ v h' H', h.le h' → Post v h' H' → ∀ F w, Ok h' (H' ++ F) w → ∃ H'', Post' v h' H'' ∧ Ok h' (H'' ++ F) w) : Tr P f args h Pre Post' :=
 fun F w ok => Calls.mono (ht F w ok) fun e w' ⟨v, he, h', H', hle, hp, ok'⟩ => by
  obtain ⟨H'', hp', ok''⟩ := hk v h' H' hle hp F w' ok'
  exact ⟨v, he, h', H'', hle, hp', ok''⟩

def tk (ok : Bool) (rem : List UInt8) (m : Int) : List UInt8 := if ok = true ∧ 0 ≤ m ∧ m ≤ rem.length then rem.take m.toNat else []
def tkOk (ok : Bool) (rem : List UInt8) (m : Int) : Bool := ok && decide (0 ≤ m ∧ m ≤ rem.length)
def tkRem (ok : Bool) (rem : List UInt8) (m : Int) : List UInt8 := if ok = true ∧ 0 ≤ m ∧ m ≤ rem.length then rem.drop m.toNat else rem

theorem Q_Take (h : Base) (p : Nat) (sv : Value) (ok : Bool) (rem : List UInt8) (m : Int) (hb : BV h sv rem) (hl : rem.length ≤ big) (hm1 : -9223372036854775808 ≤ m) (hm2 : m ≤ 9223372036854775807) :
  Tr Tryz.prog 43 [qv p, .int .i64 m] h [qA p sv (!ok)] (fun v h' H' => h = h' ∧ ∃ a cap sv', v = bufV a (tk ok rem m).length cap ∧ BV h sv' (tkRem ok rem m) ∧ H' = [bufA 5 1 a (tk ok rem m).length cap ((tk ok rem m).map u8), qA p sv' (!(tkOk ok rem m))]) := by
 by_cases hc : ok = true ∧ 0 ≤ m ∧ m ≤ rem.length
 ·have e3 : tkOk ok rem m = true := by simp [tkOk, hc]
  rw [tk, tkRem, if_pos hc, if_pos hc, e3]
  obtain ⟨rfl, h1, h2⟩ := hc
  obtain ⟨k, rfl⟩ := Int.eq_ofNat_of_zero_le h1
  rw [Int.toNat_natCast, show (rem.take k).length = k from by simp; omega]
  refine Tr.mono (Q_take h p sv rem k hb hl (by omega)) ?_
  rintro v h' H' - ⟨rfl, a, cap, sv', rfl, hb', rfl⟩ F w ok
  exact ⟨_, ⟨rfl, a, cap, sv', rfl, hb', rfl⟩, ok⟩
 ·have e3 : tkOk ok rem m = false := by
   unfold tkOk
   cases ok with
   | false => rfl
   | true => rw [Bool.true_and]; exact decide_eq_false fun e => hc ⟨rfl, e⟩
  rw [tk, tkRem, if_neg hc, if_neg hc, e3]
  refine Tr.mono (Q_take_no h p sv ok rem m hb hl hm1 hm2 (by
   cases ok with
   | false => exact .inl rfl
   | true =>
    have : ¬ (0 ≤ m ∧ m ≤ (rem.length : Int)) := fun e => hc ⟨rfl, e⟩
    right; omega)) ?_
  rintro v h' H' - ⟨rfl, rfl, sv', hb', rfl⟩ F w ok
  exact ⟨_, ⟨rfl, none, 0, sv', rfl, hb', rfl⟩, ok.nilBuf⟩

theorem R_Raw' (h : Base) (s : Option RS) (ok : Bool) (rem : List UInt8) (m : Int) (hr : Rd h s ok rem) (hl : rem.length ≤ big) (hm1 : -9223372036854775808 ≤ m) (hm2 : m ≤ 9223372036854775807) :
  Tr Tryz.prog 77 [rv s, .int .i64 m] h [rA s] (fun v h' H' => h = h' ∧ ∃ a cap s', v = bufV a (tk ok rem m).length cap ∧ same s s' ∧ Rd h s' (tkOk ok rem m) (tkRem ok rem m) ∧
   H' = [bufA 5 1 a (tk ok rem m).length cap ((tk ok rem m).map u8), rA s']) := R_Raw h s ok rem m hr hl hm1 hm2
end Go.Proofs.YtijbhgiigddjdaaGreat.Rb
end

section
namespace Go.Proofs.YtijbhgiigddjdaaGreat.Pg
open Go Go.K Go.Proofs Go.Proofs.YtijbhgiigddjdaaGreat Go.Proofs.YtijbhgiigddjdaaGreat.Cc Go.Proofs.YtijbhgiigddjdaaGreat.Rb
set_option maxRecDepth 10000

def zPd : Pag := ⟨0, 0, 0, []⟩
theorem wf_zPd : wfP zPd := ⟨by decide, by decide, by decide, by decide⟩
abbrev Rt := Bool × List UInt8
def num (m : Nat) (r : Rt) : Nat := getN r.1 m r.2
def nxt (m : Nat) (r : Rt) : Rt := (getOk r.1 m r.2, getRem r.1 m r.2)
def cellQ (r : Rt) : PCell × Rt := if num 2 r = 0 then (⟨false, 0, []⟩, nxt 2 r) else
 (⟨true, num 4 (nxt 2 r), tk (nxt 4 (nxt 2 r)).1 (nxt 4 (nxt 2 r)).2 (num 2 r : Nat)⟩, (tkOk (nxt 4 (nxt 2 r)).1 (nxt 4 (nxt 2 r)).2 (num 2 r : Nat), tkRem (nxt 4 (nxt 2 r)).1 (nxt 4 (nxt 2 r)).2 (num 2 r : Nat)))
def cellsR : Nat → Rt → List PCell × Rt
 | 0, r => ([], r)
 | n + 1, r => if r.1 = true then ((cellQ r).1 :: (cellsR n (cellQ r).2).1, (cellsR n (cellQ r).2).2) else ([], r)
def readQ (r : Rt) : Pag × Rt :=
 (⟨(num 1 r : Nat), num 8 (nxt 1 (nxt 1 r)), num 4 (nxt 8 (nxt 1 (nxt 1 r))), (cellsR (num 1 (nxt 1 r)) (nxt 4 (nxt 8 (nxt 1 (nxt 1 r))))).1⟩, (cellsR (num 1 (nxt 1 r)) (nxt 4 (nxt 8 (nxt 1 (nxt 1 r))))).2)

theorem num_lt (m : Nat) (r : Rt) : num m r < 256 ^ m := by
 unfold num getN
 split
 ·rename_i h
  have := leNum_lt (r.2.take m)
  rwa [show (r.2.take m).length = m by simp; omega] at this
 ·exact Nat.pow_pos (by decide)
theorem nxt_ok {m : Nat} {r : Rt} (h : (nxt m r).1 = true) : r.1 = true ∧ r.2 = lebs (num m r) m ++ (nxt m r).2 := by
 obtain ⟨ok, rem⟩ := r
 simp only [nxt, getOk, Bool.and_eq_true, decide_eq_true_eq] at h
 obtain ⟨rfl, hm⟩ := h
 refine ⟨rfl, ?_⟩
 simp only [num, nxt, getN, getRem, true_and, if_pos hm]
 have := lebs_leNum (rem.take m)
 rw [show (rem.take m).length = m by simp; omega] at this
 rw [this, List.take_append_drop]
theorem nxt_app {m x : Nat} {rest : List UInt8} (h : x < 256 ^ m) : num m (true, lebs x m ++ rest) = x ∧ nxt m (true, lebs x m ++ rest) = (true, rest) := by
 have hl := lebs_length m x
 have h1 : (lebs x m ++ rest).take m = lebs x m := by rw [List.take_append_of_le_length (by omega), List.take_of_length_le (by omega)]
 have h2 : (lebs x m ++ rest).drop m = rest := by rw [List.drop_append_of_le_length (by omega), List.drop_of_length_le (by omega), List.nil_append]
 have h3 : m ≤ (lebs x m ++ rest).length := by rw [List.length_append]; omega
 refine ⟨?_, ?_⟩
 ·simp only [num, getN, true_and, if_pos h3, h1]
  exact leNum_lebs m x h
 ·simp only [nxt, getOk, getRem, true_and, if_pos h3, h2, Bool.true_and, decide_eq_true h3]
theorem cellQ_ok {r : Rt} (h : (cellQ r).2.1 = true) : r.1 = true ∧ r.2 = byC (cellQ r).1 ++ (cellQ r).2.2 := by
 unfold cellQ at h ⊢
 split at h
 ·rename_i h0
  obtain ⟨a, b⟩ := nxt_ok h
  rw [if_pos h0]
  refine ⟨a, ?_⟩
  rw [h0] at b
  simpa [byC] using b
 ·rename_i h0
  rw [if_neg h0]
  simp only [tkOk, Bool.and_eq_true, decide_eq_true_eq] at h
  obtain ⟨h1, h2, h3⟩ := h
  obtain ⟨a1, b1⟩ := nxt_ok h1
  obtain ⟨a2, b2⟩ := nxt_ok a1
  refine ⟨a2, ?_⟩
  have hc : (nxt 4 (nxt 2 r)).1 = true ∧ (0 : Int) ≤ (num 2 r : Nat) ∧ ((num 2 r : Nat) : Int) ≤ (nxt 4 (nxt 2 r)).2.length := ⟨h1, h2, h3⟩
  simp only [tk, tkRem, if_pos hc, Int.toNat_natCast, byC]
  have hl : ((nxt 4 (nxt 2 r)).2.take (num 2 r)).length = num 2 r := by simp; omega
  simp only [hl, if_true]
  rw [List.append_assoc, List.append_assoc, List.take_append_drop, ← b1, ← b2]
theorem cellsR_ok : ∀ (n : Nat) (r : Rt), (cellsR n r).2.1 = true → r.1 = true ∧ r.2 = cellsB (cellsR n r).1 ++ (cellsR n r).2.2 ∧ (cellsR n r).1.length = n
 | 0, r, h => ⟨h, rfl, rfl⟩
 | n + 1, r, h => by
  unfold cellsR at h ⊢
  split at h
  ·rename_i h0
   rw [if_pos h0]
   obtain ⟨a, b, c⟩ := cellsR_ok n _ h
   obtain ⟨_, e⟩ := cellQ_ok a
   refine ⟨h0, ?_, by rw [List.length_cons, c]⟩
   show r.2 = cellsB ((cellQ r).1 :: _) ++ _
   unfold cellsB at b ⊢
   rw [List.flatMap_cons, List.append_assoc, ← b, ← e]
  ·rename_i h0
   exact absurd h h0
theorem cellsR_small : ∀ (n : Nat) (r : Rt), (cellsR n r).1.length ≤ n ∧ ∀ x ∈ (cellsR n r).1, x.killer < 4294967296 ∧ x.data.length ≤ 65535
 | 0, r => ⟨Nat.le_refl _, fun x hx => by cases hx⟩
 | n + 1, r => by
  unfold cellsR
  split
  ·obtain ⟨a, b⟩ := cellsR_small n (cellQ r).2
   refine ⟨by rw [List.length_cons]; omega, fun x hx => ?_⟩
   rcases List.mem_cons.1 hx with rfl | hx
   ·unfold cellQ
    split
    ·exact ⟨show (0 : Nat) < 4294967296 by decide, Nat.zero_le _⟩
    ·refine ⟨num_lt 4 _, ?_⟩
     have := num_lt 2 r
     show (tk _ _ _).length ≤ _
     unfold tk
     split
     ·rw [List.length_take, Int.toNat_natCast]; omega
     ·exact Nat.zero_le _
   ·exact b x hx
  ·exact ⟨Nat.zero_le _, fun x hx => by cases hx⟩
theorem readQ_ok {r : Rt} (h : (readQ r).2.1 = true) : r.2 = bodyB (readQ r).1 ++ (readQ r).2.2 := by
 unfold readQ at h ⊢
 dsimp only at h ⊢
 obtain ⟨a, b, c⟩ := cellsR_ok _ _ h
 obtain ⟨a1, b1⟩ := nxt_ok a
 obtain ⟨a2, b2⟩ := nxt_ok a1
 obtain ⟨a3, b3⟩ := nxt_ok a2
 obtain ⟨a4, b4⟩ := nxt_ok a3
 unfold bodyB
 dsimp only
 rw [c, Int.toNat_natCast]
 simp only [List.append_assoc]
 rw [← b, ← b1, ← b2, ← b3, ← b4]
theorem readQ_wf (r : Rt) : wfP (readQ r).1 := by
 have h1 := num_lt 1 r
 have h2 := (cellsR_small (num 1 (nxt 1 r)) (nxt 4 (nxt 8 (nxt 1 (nxt 1 r))))).1
 have h3 := num_lt 1 (nxt 1 r)
 refine ⟨?_, num_lt 8 _, num_lt 4 _, ?_⟩
 ·show in64 ((num 1 r : Nat) : Int)
  unfold in64; omega
 ·show (cellsR _ _).1.length ≤ _
  omega
def decP (b : List UInt8) : Prop := b.length = 512 ∧ (readQ (nxt 4 (true, b))).2.1 = true ∧ num 4 (true, b) = sumQ 0 (b.drop 4) ∧ mayQ (readQ (nxt 4 (true, b))).1 = true ∧ ∀ c ∈ (readQ (nxt 4 (true, b))).2.2, c = 0
instance (b : List UInt8) : Decidable (decP b) := by unfold decP; infer_instance
def decQ (b : List UInt8) : Pag × Int := if decP b then ((readQ (nxt 4 (true, b))).1, 0) else (zPd, 5)
def rdecP (b : List UInt8) : Prop := b.length = 512 ∧ (readQ (true, b.drop 4)).2.1 = true ∧ (encQ (readQ (true, b.drop 4)).1).1 = b
instance (b : List UInt8) : Decidable (rdecP b) := by unfold rdecP; infer_instance
def rdecQ (b : List UInt8) : Pag × Bool := if rdecP b then ((readQ (true, b.drop 4)).1, true) else (zPd, false)
theorem nxt4 {b : List UInt8} (h : b.length = 512) : nxt 4 (true, b) = (true, b.drop 4) ∧ num 4 (true, b) = leNum (b.take 4) := by
 have h4 : 4 ≤ b.length := by omega
 simp only [nxt, num, getN, getOk, getRem, true_and, if_pos h4, Bool.true_and, decide_eq_true h4]
theorem zeros {l : List UInt8} (h : ∀ c ∈ l, c = 0) : l = List.replicate l.length 0 := List.eq_replicate_iff.2 ⟨rfl, h⟩
theorem dec_iff {b : List UInt8} : decP b ↔ rdecP b := by
 unfold decP rdecP
 constructor
 ·rintro ⟨h1, h2, h3, h4, h5⟩
  obtain ⟨e1, e2⟩ := nxt4 h1
  rw [e1] at h2 h4 h5
  rw [e2] at h3
  refine ⟨h1, h2, ?_⟩
  have hb := readQ_ok h2
  dsimp only at hb
  generalize readQ (true, b.drop 4) = r at h2 h4 h5 hb ⊢
  unfold encQ
  rw [if_pos h4]
  have hl : (b.drop 4).length = 508 := by rw [List.length_drop, h1]
  have hp : padB r.1 = b.drop 4 := by
   unfold padB
   rw [hb, zeros h5] at hl ⊢
   rw [List.length_append, List.length_replicate] at hl
   rw [show 508 - (bodyB r.1).length = r.2.2.length by omega]
  show encB r.1 = b
  unfold encB
  rw [hp, ← h3]
  have := lebs_leNum (b.take 4)
  rw [show (b.take 4).length = 4 by simp; omega] at this
  rw [this, List.take_append_drop]
 ·rintro ⟨h1, h2, h3⟩
  obtain ⟨e1, e2⟩ := nxt4 h1
  rw [e1, e2]
  have hb := readQ_ok h2
  dsimp only at hb
  generalize readQ (true, b.drop 4) = r at h2 h3 hb ⊢
  unfold encQ at h3
  by_cases hm : mayQ r.1 = true
  ·rw [if_pos hm] at h3
   have h3 : encB r.1 = b := h3
   unfold encB at h3
   have hl := lebs_length 4 (sumQ 0 (padB r.1))
   have t4 : b.take 4 = lebs (sumQ 0 (padB r.1)) 4 := by rw [← h3, List.take_append_of_le_length (by omega), List.take_of_length_le (by omega)]
   have d4 : b.drop 4 = padB r.1 := by rw [← h3, List.drop_append_of_le_length (by omega), List.drop_of_length_le (by omega), List.nil_append]
   refine ⟨h1, h2, ?_, hm, ?_⟩
   ·rw [t4, d4]
    exact leNum_lebs 4 _ (sumQ_lt (by decide) _)
   ·rw [d4] at hb
    unfold padB at hb
    rw [← List.append_cancel_left hb]
    intro c hc
    exact (List.mem_replicate.1 hc).2
  ·rw [if_neg hm] at h3
   have h3 : [] = b := h3
   rw [← h3] at h1; cases h1
theorem dec_eq (b : List UInt8) : rdecQ b = ((decQ b).1, decide ((decQ b).2 = 0)) := by
 unfold rdecQ decQ
 by_cases h : decP b
 ·rw [if_pos h, if_pos (dec_iff.1 h), (nxt4 h.1).1]
  rfl
 ·rw [if_neg h, if_neg (fun e => h (dec_iff.2 e))]
  rfl
theorem dec_cases (b : List UInt8) : (decP b ∧ (decQ b).2 = 0 ∧ mayQ (decQ b).1 = true ∧ encB (decQ b).1 = b) ∨ (¬ decP b ∧ decQ b = (zPd, 5)) := by
 by_cases h : decP b
 ·refine .inl ⟨h, ?_⟩
  obtain ⟨_, _, h3⟩ := dec_iff.1 h
  unfold decQ
  rw [if_pos h]
  refine ⟨rfl, h.2.2.2.1, ?_⟩
  have hm := h.2.2.2.1
  rw [(nxt4 h.1).1] at hm ⊢
  unfold encQ at h3
  rw [if_pos hm] at h3
  exact h3
 ·exact .inr ⟨h, by unfold decQ; rw [if_neg h]⟩
end Go.Proofs.YtijbhgiigddjdaaGreat.Pg
end
