/-
  Texts joined: Rba Gd Hm. Conditions: each theorem's own.
-/
import Derived.Test.YtmcdaegaopfihaaGreatZ19
import Derived.Test.YtmcdaegaopfihaaGreatZ17
import Derived.Test.YtmcdaegaopfihaaGreatZ25
import Derived.Test.YtmcdaegaopfihaaGreatZ31
section
namespace Go.Proofs.YtmcdaegaopfihaaGreat.Rb
open Go Go.K Go.Proofs Go.Proofs.YtmcdaegaopfihaaGreat Go.Proofs.YtmcdaegaopfihaaGreat.Cc
set_option linter.unusedVariables false
set_option linter.unusedSimpArgs false
set_option maxRecDepth 10000

def qv (p : Nat) : Value := .pointer (some ⟨p, 0, none⟩)
def frontV (o : Option (Nat × Nat)) : Value := match o with
 | some (x, m) => .tuple #[.int .u64 x, .int .i64 m]
 | none => .tuple #[.int .u64 0, .int .i64 0]

def tk (ok : Bool) (rem : List UInt8) (m : Int) : List UInt8 := if ok = true ∧ 0 ≤ m ∧ m ≤ rem.length then rem.take m.toNat else []
def tkOk (ok : Bool) (rem : List UInt8) (m : Int) : Bool := ok && decide (0 ≤ m ∧ m ≤ rem.length)
def tkRem (ok : Bool) (rem : List UInt8) (m : Int) : List UInt8 := if ok = true ∧ 0 ≤ m ∧ m ≤ rem.length then rem.drop m.toNat else rem

theorem R_Raw' (h : Base) (s : Option RS) (ok : Bool) (rem : List UInt8) (m : Int) (hr : Rd h s ok rem) (hl : rem.length ≤ big) (hm1 : -9223372036854775808 ≤ m) (hm2 : m ≤ 9223372036854775807) :
  Tr Tryz.prog 71 [rv s, .int .i64 m] h [rA s] (fun v h' H' => h = h' ∧ ∃ a cap s', v = bufV a (tk ok rem m).length cap ∧ same s s' ∧ Rd h s' (tkOk ok rem m) (tkRem ok rem m) ∧
   H' = [bufA 5 1 a (tk ok rem m).length cap ((tk ok rem m).map u8), rA s']) := R_Raw h s ok rem m hr hl hm1 hm2
end Go.Proofs.YtmcdaegaopfihaaGreat.Rb
end

section
namespace Go.Proofs.YtmcdaegaopfihaaGreat.Pg
open Go Go.K Go.Proofs Go.Proofs.YtmcdaegaopfihaaGreat Go.Proofs.YtmcdaegaopfihaaGreat.Cc Go.Proofs.YtmcdaegaopfihaaGreat.Rb
set_option linter.unusedVariables false
set_option linter.unusedSimpArgs false
set_option maxRecDepth 10000

def zPd : Pag := ⟨0, 0, 0, []⟩
abbrev Rt := Bool × List UInt8
def num (m : Nat) (r : Rt) : Nat := getN r.1 m r.2
def nxt (m : Nat) (r : Rt) : Rt := (getOk r.1 m r.2, getRem r.1 m r.2)
def cellQ (r : Rt) : PCell × Rt := if num 2 r = 0 then (⟨false, 0, []⟩, nxt 2 r) else
 (⟨true, num 4 (nxt 2 r), tk (nxt 4 (nxt 2 r)).1 (nxt 4 (nxt 2 r)).2 (num 2 r : Nat)⟩, (tkOk (nxt 4 (nxt 2 r)).1 (nxt 4 (nxt 2 r)).2 (num 2 r : Nat), tkRem (nxt 4 (nxt 2 r)).1 (nxt 4 (nxt 2 r)).2 (num 2 r : Nat)))
def cellsR : Nat → Rt → List PCell × Rt
 | 0, r => ([], r)
 | n + 1, r => if r.1 = true then ((cellQ r).1 :: (cellsR n (cellQ r).2).1, (cellsR n (cellQ r).2).2) else ([], r)
def readQ (r : Rt) : Pag × Rt :=
 (⟨(num 1 r : Nat), num 8 (nxt 1 (nxt 1 r)), num 4 (nxt 8 (nxt 1 (nxt 1 r))), (cellsR (num 1 (nxt 1 r)) (nxt 4 (nxt 8 (nxt 1 (nxt 1 r))))).1⟩, (cellsR (num 1 (nxt 1 r)) (nxt 4 (nxt 8 (nxt 1 (nxt 1 r))))).2)

theorem num_lt (m : Nat) (r : Rt) : num m r < 256 ^ m := by
 unfold num getN
 split
 ·rename_i h
  have := leNum_lt (r.2.take m)
  rwa [show (r.2.take m).length = m by simp; omega] at this
 ·exact Nat.pow_pos (by decide)
theorem nxt_app {m x : Nat} {rest : List UInt8} (h : x < 256 ^ m) : num m (true, lebs x m ++ rest) = x ∧ nxt m (true, lebs x m ++ rest) = (true, rest) := by
 have hl := lebs_length m x
 have h1 : (lebs x m ++ rest).take m = lebs x m := by rw [List.take_append_of_le_length (by omega), List.take_of_length_le (by omega)]
 have h2 : (lebs x m ++ rest).drop m = rest := by rw [List.drop_append_of_le_length (by omega), List.drop_of_length_le (by omega), List.nil_append]
 have h3 : m ≤ (lebs x m ++ rest).length := by rw [List.length_append]; omega
 refine ⟨?_, ?_⟩
 ·simp only [num, getN, true_and, if_pos h3, h1]
  exact leNum_lebs m x h
 ·simp only [nxt, getOk, getRem, true_and, if_pos h3, h2, Bool.true_and, decide_eq_true h3]
def decP (b : List UInt8) : Prop := b.length = 512 ∧ (readQ (nxt 4 (true, b))).2.1 = true ∧ num 4 (true, b) = sumQ 0 (b.drop 4) ∧ mayQ (readQ (nxt 4 (true, b))).1 = true ∧ ∀ c ∈ (readQ (nxt 4 (true, b))).2.2, c = 0
instance (b : List UInt8) : Decidable (decP b) := by unfold decP; infer_instance
def decQ (b : List UInt8) : Pag × Int := if decP b then ((readQ (nxt 4 (true, b))).1, 0) else (zPd, 5)
def rdecP (b : List UInt8) : Prop := b.length = 512 ∧ (readQ (true, b.drop 4)).2.1 = true ∧ (encQ (readQ (true, b.drop 4)).1).1 = b
instance (b : List UInt8) : Decidable (rdecP b) := by unfold rdecP; infer_instance
def rdecQ (b : List UInt8) : Pag × Bool := if rdecP b then ((readQ (true, b.drop 4)).1, true) else (zPd, false)
end Go.Proofs.YtmcdaegaopfihaaGreat.Pg
end

section
namespace Go.Proofs.YtmcdaegaopfihaaGreat.Rc
open Go Go.K Go.Proofs Go.Proofs.YtmcdaegaopfihaaGreat Go.Proofs.YtmcdaegaopfihaaGreat.Pg Go.Proofs.YtmcdaegaopfihaaGreat.Cc Go.Proofs.YtmcdaegaopfihaaGreat.Rb
set_option linter.unusedVariables false
set_option linter.unusedSimpArgs false
set_option maxRecDepth 10000

def Fw {α : Type} (V : α → Prop) (w : α → List UInt8) (ok : Bool) (rem : List UInt8) (x : α) (ok' : Bool) (rem' : List UInt8) : Prop :=
 rem'.length ≤ rem.length ∧ ∀ n rest, V n → ok = true → rem = w n ++ rest → x = n ∧ ok' = true ∧ rem' = rest
theorem fw_uint (ok : Bool) (rem : List UInt8) : Fw (fun n => n < 18446744073709551616) cu ok rem (uN (found ok rem)) (found ok rem).isSome (uRem (found ok rem) rem) := by
 refine ⟨?_, fun n rest hn hok hr => ?_⟩
 ·unfold uRem
  split
  ·rw [List.length_drop]; omega
  ·exact Nat.le_refl _
 ·subst hok hr
  unfold found
  rw [if_pos rfl, front_cu n hn rest]
  refine ⟨rfl, rfl, ?_⟩
  show (cu n ++ rest).drop (cu n).length = rest
  rw [List.drop_append_of_le_length (Nat.le_refl _), List.drop_length, List.nil_append]
theorem fw_fixed (m : Nat) (ok : Bool) (rem : List UInt8) : Fw (fun n => n < 256 ^ m) (fun n => lebs n m) ok rem (getN ok m rem) (getOk ok m rem) (getRem ok m rem) := by
 refine ⟨?_, fun n rest hn hok hr => ?_⟩
 ·unfold getRem
  split
  ·rw [List.length_drop]; omega
  ·exact Nat.le_refl _
 ·subst hok hr
  obtain ⟨h1, h2⟩ := nxt_app (m := m) (rest := rest) hn
  simp only [nxt, Prod.mk.injEq] at h2
  exact ⟨h1, h2.1, h2.2⟩
def rq (p : Nat) (q : Bool × Value × Bool) : Option RS := some ⟨p, q.1, q.2.1, q.2.2⟩
def RdQ (h : Base) (q : Bool × Value × Bool) (ok : Bool) (rem : List UInt8) : Prop := Rd h (rq 0 q) ok rem
abbrev rp (p : Nat) : Value := .pointer (some ⟨p, 0, none⟩)
theorem RdQ.le {h h' : Base} {q : Bool × Value × Bool} {ok : Bool} {rem : List UInt8} (hr : RdQ h q ok rem) (hle : h.le h') : RdQ h' q ok rem := Rd.le hr hle
theorem same_rq {h : Base} {p : Nat} {q : Bool × Value × Bool} {s : Option RS} {ok : Bool} {rem : List UInt8} (hs : same (rq p q) s) (hr : Rd h s ok rem) : ∃ q', s = rq p q' ∧ RdQ h q' ok rem := by
 match s, hs with
 | some ⟨p', a, b, c⟩, hs =>
  obtain rfl : p' = p := hs
  exact ⟨(a, b, c), rfl, hr⟩
theorem N_Uint (h : Base) (p : Nat) (q : Bool × Value × Bool) (ok : Bool) (rem : List UInt8) (hr : RdQ h q ok rem) (hl : rem.length ≤ big) :
  Tr Tryz.prog 123 [rp p] h [rA (rq p q)] (fun u h' H' => h' = h ∧ ∃ x q' ok' rem', u = .int .u64 (x : Nat) ∧ x < 18446744073709551616 ∧ RdQ h q' ok' rem' ∧ H' = [rA (rq p q')] ∧ Fw (fun n => n < 18446744073709551616) cu ok rem x ok' rem') := fun F w okk =>
 Calls.mono (R_Uint h (rq p q) ok rem hr hl F w okk) fun e w' ⟨u, he, h1, H1, hle, ⟨q1, q2, s', q3, q4, q5⟩, ok1⟩ => by
  obtain ⟨q', rfl, hq⟩ := same_rq q3 q4
  refine ⟨u, he, h1, H1, hle, ⟨q1.symm, _, q', _, _, q2, ?_, hq, q5, fw_uint ok rem⟩, ok1⟩
  cases ho : found ok rem with
  | none => show 0 < _; decide
  | some xm => exact (found_le ho).2.2.2.2
theorem N_U8 (h : Base) (p : Nat) (q : Bool × Value × Bool) (ok : Bool) (rem : List UInt8) (hr : RdQ h q ok rem) (hl : rem.length ≤ big) :
  Tr Tryz.prog 74 [rp p] h [rA (rq p q)] (fun u h' H' => h' = h ∧ ∃ x q' ok' rem', u = .int .u8 (x : Nat) ∧ x < 256 ∧ RdQ h q' ok' rem' ∧ H' = [rA (rq p q')] ∧ Fw (fun n => n < 256) (fun n => lebs n 1) ok rem x ok' rem') := fun F w okk =>
 Calls.mono (R_U8 h (rq p q) ok rem hr hl F w okk) fun e w' ⟨u, he, h1, H1, hle, ⟨q1, q2, s', q3, q4, q5⟩, ok1⟩ => by
  obtain ⟨q', rfl, hq⟩ := same_rq q3 q4
  exact ⟨u, he, h1, H1, hle, ⟨q1.symm, _, q', _, _, q2, num_lt 1 (ok, rem), hq, q5, fw_fixed 1 ok rem⟩, ok1⟩
theorem N_U16 (h : Base) (p : Nat) (q : Bool × Value × Bool) (ok : Bool) (rem : List UInt8) (hr : RdQ h q ok rem) (hl : rem.length ≤ big) :
  Tr Tryz.prog 98 [rp p] h [rA (rq p q)] (fun u h' H' => h' = h ∧ ∃ q' ok' rem', u = .int .u16 (getN ok 2 rem : Nat) ∧ RdQ h q' ok' rem' ∧ H' = [rA (rq p q')]) := fun F w okk =>
 Calls.mono (R_U16 h (rq p q) ok rem hr hl F w okk) fun e w' ⟨u, he, h1, H1, hle, ⟨q1, q2, s', q3, q4, q5⟩, ok1⟩ => by
  obtain ⟨q', rfl, hq⟩ := same_rq q3 q4
  exact ⟨u, he, h1, H1, hle, ⟨q1.symm, q', _, _, q2, hq, q5⟩, ok1⟩
theorem N_Raw (h : Base) (p : Nat) (q : Bool × Value × Bool) (ok : Bool) (rem : List UInt8) (m : Nat) (hr : RdQ h q ok rem) (hl : rem.length ≤ big) (hm : m ≤ 1000000) :
  Tr Tryz.prog 71 [rp p, .int .i64 m] h [rA (rq p q)] (fun u h' H' => h' = h ∧ ∃ (d : List UInt8) (a : Option Nat) (c : Nat) (q' : Bool × Value × Bool) (ok' : Bool) (rem' : List UInt8), u = bufV a d.length c ∧ d.length ≤ m ∧ RdQ h q' ok' rem' ∧ H' = [bufA 5 1 a d.length c (d.map u8), rA (rq p q')] ∧ Fw (fun n => n.length = m) (fun n => n) ok rem d ok' rem') := fun F w okk =>
 Calls.mono (R_Raw' h (rq p q) ok rem m hr hl (by omega) (by omega) F w okk) fun e w' ⟨u, he, h1, H1, hle, ⟨q1, a, c, s', q2, q3, q4, q5⟩, ok1⟩ => by
  obtain ⟨q', rfl, hq⟩ := same_rq q3 q4
  refine ⟨u, he, h1, H1, hle, ⟨q1.symm, _, a, c, q', _, _, q2, ?_, hq, q5, ?_, fun n rest hn hok hr2 => ?_⟩, ok1⟩
  ·unfold tk
   split
   ·rw [List.length_take]; omega
   ·exact Nat.zero_le _
  ·unfold tkRem
   split
   ·rw [List.length_drop]; omega
   ·exact Nat.le_refl _
  ·subst hok hr2 hn
   have hc : true = true ∧ (0 : Int) ≤ (n.length : Nat) ∧ ((n.length : Nat) : Int) ≤ (n ++ rest).length := ⟨rfl, by omega, by rw [List.length_append]; omega⟩
   refine ⟨?_, ?_, ?_⟩
   ·unfold tk
    rw [if_pos hc, Int.toNat_natCast, List.take_append_of_le_length (Nat.le_refl _), List.take_length]
   ·unfold tkOk
    rw [decide_eq_true hc.2]; rfl
   ·unfold tkRem
    rw [if_pos hc, Int.toNat_natCast, List.drop_append_of_le_length (Nat.le_refl _), List.drop_length, List.nil_append]
theorem fw_text (m : Nat) (hm : m ≤ 1000000) (ok : Bool) (rem : List UInt8) : Fw (fun n : List UInt8 => n.length ≤ m) (fun n => cu n.length ++ n) ok rem (txtV (txt ok rem m) rem) (txt ok rem m).isSome (txtRem (txt ok rem m) rem) := by
 refine ⟨?_, fun n rest hn hok hr2 => ?_⟩
 ·unfold txt
  split
  ·split
   ·show (((_ : List UInt8).drop _).drop _).length ≤ _
    rw [List.length_drop, List.length_drop]; omega
   ·exact Nat.le_refl _
  ·exact Nat.le_refl _
 ·subst hok hr2
  have hn2 : n.length ≤ m := hn
  have hf : found true (cu n.length ++ n ++ rest) = some (n.length, (cu n.length).length) := by
   unfold found
   rw [if_pos rfl, List.append_assoc, front_cu _ (by omega)]
  have ht : txt true (cu n.length ++ n ++ rest) m = some (n.length, (cu n.length).length) := by
   unfold txt
   rw [hf]
   show (if _ then _ else _) = _
   rw [if_pos ⟨by omega, by omega, by simp only [List.length_append]; omega⟩]
  rw [ht]
  have hd : (cu n.length ++ n ++ rest).drop (cu n.length).length = n ++ rest := by
   rw [List.append_assoc, List.drop_append_of_le_length (Nat.le_refl _), List.drop_length, List.nil_append]
  refine ⟨?_, rfl, ?_⟩
  ·show ((_ : List UInt8).drop _).take _ = n
   rw [hd, List.take_append_of_le_length (Nat.le_refl _), List.take_length]
  ·show ((_ : List UInt8).drop _).drop _ = rest
   rw [hd, List.drop_append_of_le_length (Nat.le_refl _), List.drop_length, List.nil_append]
theorem N_Text (h : Base) (p : Nat) (q : Bool × Value × Bool) (ok : Bool) (rem : List UInt8) (m : Nat) (hr : RdQ h q ok rem) (hl : rem.length ≤ big) (hm : m ≤ 1000000) :
  Tr Tryz.prog 124 [rp p, .int .i64 m] h [rA (rq p q)] (fun u h' H' => h' = h ∧ ∃ (d : List UInt8) (q' : Bool × Value × Bool) (ok' : Bool) (rem' : List UInt8), u = .string ⟨d.toArray⟩ ∧ d.length ≤ m ∧ RdQ h q' ok' rem' ∧ H' = [rA (rq p q')] ∧ Fw (fun n => n.length ≤ m) (fun n => cu n.length ++ n) ok rem d ok' rem') := fun F w okk =>
 Calls.mono (R_Text h (rq p q) ok rem m hr hl (by omega) (by omega) F w okk) fun e w' ⟨u, he, h1, H1, hle, ⟨q1, q2, s', q3, q4, q5⟩, ok1⟩ => by
  obtain ⟨q', rfl, hq⟩ := same_rq q3 q4
  refine ⟨u, he, h1, H1, hle, ⟨q1.symm, _, q', _, _, q2, ?_, hq, q5, fw_text m hm ok rem⟩, ok1⟩
  unfold txt
  split
  ·split
   ·show (((_ : List UInt8).drop _).take _).length ≤ _
    rw [List.length_take]; omega
   ·exact Nat.zero_le _
  ·exact Nat.zero_le _
theorem N_Err (h : Base) (p : Nat) (q : Bool × Value × Bool) (ok : Bool) (rem : List UInt8) (hr : RdQ h q ok rem) : TrV Tryz.prog 119 [rp p] h [rA (rq p q)] (errV ok) [rA (rq p q)] := R_Err h (rq p q) ok rem hr
theorem N_Left (h : Base) (p : Nat) (q : Bool × Value × Bool) (ok : Bool) (rem : List UInt8) (hr : RdQ h q ok rem) : TrV Tryz.prog 137 [rp p] h [rA (rq p q)] (.int .i64 rem.length) [rA (rq p q)] := R_Left h (rq p q) ok rem hr
theorem N_End (h : Base) (p : Nat) (q : Bool × Value × Bool) (ok : Bool) (rem : List UInt8) (hr : RdQ h q ok rem) (hl : rem.length ≤ big) :
  Tr Tryz.prog 127 [rp p] h [rA (rq p q)] (fun u h' H' => h' = h ∧ ∃ q', u = errV (ok && decide (rem = [])) ∧ H' = [rA (rq p q')]) := fun F w okk =>
 Calls.mono (R_End h (rq p q) ok rem hr hl F w okk) fun e w' ⟨u, he, h1, H1, hle, ⟨q1, q2, s', q3, q4, q5⟩, ok1⟩ => by
  obtain ⟨q', rfl, hq⟩ := same_rq q3 q4
  exact ⟨u, he, h1, H1, hle, ⟨q1.symm, q', q2, q5⟩, ok1⟩
def FwN (ok : Bool) (rem : List UInt8) (c : Bool) (x : Nat) (ok' : Bool) (rem' : List UInt8) (c' : Bool) : Prop :=
 rem'.length ≤ rem.length ∧ ∀ n rest, n < 4294967296 → ok = true → rem = cu n ++ rest → x = n ∧ ok' = true ∧ rem' = rest ∧ c' = c
theorem wr32 (x : Nat) : IntKind.u32.wrap (x : Int) = ((x % 4294967296 : Nat) : Int) := by
 show (x : Int) % 2 ^ 32 = _
 rw [show ((2 : Int) ^ 32) = 4294967296 from rfl]
 omega
theorem N_narrow (h : Base) (p : Nat) (q : Bool × Value × Bool) (ok : Bool) (rem : List UInt8) (B : Nat) (c : Bool) (hr : RdQ h q ok rem) (hl : rem.length ≤ big) :
  Tr Tryz.prog 122 [rp p, rp B] h [rA (rq p q), blk B 4 [.bool c]] (fun u h' H' => h' = h ∧ ∃ x q' ok' rem' c', u = .int .u32 (x : Nat) ∧ x < 4294967296 ∧ RdQ h q' ok' rem' ∧ H' = [rA (rq p q'), blk B 4 [.bool c']] ∧ FwN ok rem c x ok' rem' c') := by
 refine K.enter Tryz.func122 rfl (Nat.le_of_ble_eq_true rfl) (fun F => ?_)
 simp only [List.cons_append, List.nil_append]
 (repeat' first | refine X.rq ?_ | refine X.rc ?_ ?_ <;> intro hc <;> try omega)
 refine K.l_call (Fx.cal rfl) rfl (N_Uint h p q ok rem hr hl) (K.pp [0] rfl) rfl ?_
 rintro u h' H' - ⟨e, x, q1, ok1, rem1, rfl, hx, hr1, rfl, hf⟩
 obtain rfl := e.symm
 simp only [List.cons_append, List.nil_append]
 have hfin : ∀ c', (x < 4294967296 → c' = c) → FwN ok rem c (x % 4294967296) ok1 rem1 c' := fun c' hc => ⟨hf.1, fun n rest hn hok he => by
  obtain ⟨e1, e2, e3⟩ := hf.2 n rest (show n < 18446744073709551616 by omega) hok he
  subst e1
  exact ⟨Nat.mod_eq_of_lt hn, e2, e3, hc hn⟩⟩
 skip
 cases c with
 | false =>
  (repeat' first | refine X.rq ?_ | refine X.rc ?_ ?_ <;> intro hc <;> try omega)
  refine X.sto ?_
  simp only [Go.K.nmz]
  (repeat' first | refine X.rq ?_ | refine X.rc ?_ ?_ <;> intro hc <;> try omega)
  skip
  refine K.done (by first | exact Or.inl rfl | exact Or.inr rfl) rfl (by first | exact K.Base.le.refl _ | assumption) (H' := [rA (rq p q1), blk B 4 [.bool false]]) rfl ⟨rfl, x % 4294967296, q1, ok1, rem1, false, ?_, Nat.mod_lt _ (by decide), hr1, rfl, hfin false fun _ => rfl⟩
  exact congrArg (Value.int .u32) (wr32 x)
 | true =>
  (repeat' first | refine X.rq ?_ | refine X.rc ?_ ?_ <;> intro hc <;> try omega)
  refine X.sto ?_
  simp only [Go.K.nmz]
  (repeat' first | refine X.rq ?_ | refine X.rc ?_ ?_ <;> intro hc <;> try omega)
  refine K.done (by first | exact Or.inl rfl | exact Or.inr rfl) rfl (by first | exact K.Base.le.refl _ | assumption) (H' := [rA (rq p q1), blk B 4 [.bool (decide ((x : Int) < 4294967296))]]) rfl ⟨rfl, x % 4294967296, q1, ok1, rem1, _, ?_, Nat.mod_lt _ (by decide), hr1, rfl, hfin _ fun hx => decide_eq_true (by omega)⟩
  exact congrArg (Value.int .u32) (wr32 x)
def FwC (ok : Bool) (rem : List UInt8) (x : Nat) (ok' : Bool) (rem' : List UInt8) : Prop :=
 (rem'.length ≤ rem.length ∧ x ≤ rem'.length) ∧ ∀ n rest, n < 18446744073709551616 → n ≤ rest.length → ok = true → rem = cu n ++ rest → x = n ∧ ok' = true ∧ rem' = rest
theorem N_count (h : Base) (p : Nat) (q : Bool × Value × Bool) (ok : Bool) (rem : List UInt8) (hr : RdQ h q ok rem) (hl : rem.length ≤ big) :
  Tr Tryz.prog 125 [rp p] h [rA (rq p q)] (fun u h' H' => h' = h ∧ ∃ x q' ok' rem', u = .int .i64 (x : Nat) ∧ RdQ h q' ok' rem' ∧ H' = [rA (rq p q')] ∧ FwC ok rem x ok' rem') := by
 have hl2 := hl
 unfold big at hl2
 refine K.enter Tryz.func125 rfl (Nat.le_of_ble_eq_true rfl) (fun F => ?_)
 simp only [List.cons_append, List.nil_append]
 (repeat' first | refine X.rq ?_ | refine X.rc ?_ ?_ <;> intro hc <;> try omega)
 refine K.l_call (Fx.cal rfl) rfl (N_Uint h p q ok rem hr hl) (K.pp [0] rfl) rfl ?_
 rintro u h' H' - ⟨e, x, q1, ok1, rem1, rfl, hx, hr1, rfl, hf⟩
 obtain rfl := e.symm
 simp only [List.cons_append, List.nil_append]
 (repeat' first | refine X.rq ?_ | refine X.rc ?_ ?_ <;> intro hc <;> try omega)
 refine K.l_callV (Fx.cal rfl) rfl (N_Left h p q1 ok1 rem1 hr1) (K.pp [0] rfl) rfl rfl ?_
 simp only [List.cons_append, List.nil_append]
 have hl1 := hf.1
 refine K.s_pure (X.cv (v := .int .u64 (rem1.length : Nat))) rfl ?_
 skip
 refine K.s_pure (K.p_min (c := ((min x rem1.length : Nat) : Int)) rfl rfl (by omega)) rfl ?_
 have hm : min x rem1.length ≤ rem1.length := Nat.min_le_right _ _
 have hmx : x ≤ rem1.length → min x rem1.length = x := Nat.min_eq_left
 generalize min x rem1.length = m at hm hmx
 (repeat' first | refine X.rq ?_ | refine X.rc ?_ ?_ <;> intro hc <;> try omega)
 refine K.done (by first | exact Or.inl rfl | exact Or.inr rfl) rfl (by first | exact K.Base.le.refl _ | assumption) (H' := [rA (rq p q1)]) rfl ⟨rfl, m, q1, ok1, rem1, rfl, hr1, rfl, ⟨hl1, hm⟩, fun n rest hn hnr hok he => by
  obtain ⟨e1, e2, e3⟩ := hf.2 n rest hn hok he
  subst e1 e3
  exact ⟨hmx hnr, e2, rfl⟩⟩
end Go.Proofs.YtmcdaegaopfihaaGreat.Rc
end
