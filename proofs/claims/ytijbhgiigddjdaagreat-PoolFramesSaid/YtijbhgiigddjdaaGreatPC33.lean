/-
  Texts joined: Hi Hk Hl Hm. Conditions: each theorem's own.
-/
import Derived.Test.YtijbhgiigddjdaaGreatPC32
import Derived.Test.YtijbhgiigddjdaaGreatPC29
import Derived.Test.YtijbhgiigddjdaaGreatPC6
import Derived.Test.YtijbhgiigddjdaaGreatPC26
set_option linter.unusedVariables false
set_option linter.unusedSimpArgs false
set_option maxRecDepth 10000
set_option maxHeartbeats 16000000
section
namespace Go.Proofs.YtijbhgiigddjdaaGreat.Rc
open Go.K Pg Ca

theorem may_okR {r : Recd} (h : mayR r = true) : okR r ∧ (bodyN r).length + 2 ≤ 16384 := by
 unfold mayR at h
 rw [Bool.and_eq_true, decide_eq_true_eq, decide_eq_true_eq] at h
 exact h
theorem V_U16 (h : Base) (P : Nat) (a : Option Nat) (c : Nat) (l : List UInt8) (x : Nat) (hx : x < 65536) (hl : l.length ≤ 1000000000) :
  Tr Tryz.prog 101 [wp P, .int .u16 x] h [wA (some (P, some (a, c, l)))] (fun u h' H' => Wr P (l ++ lebs x 2) u h h' H') := fun F w ok =>
 Calls.mono (W_U16 h (some (P, some (a, c, l))) x hx (by simp only [wb, big]; omega) F w ok) fun e w' ⟨u, he, h1, H1, hle, ⟨q1, q2, s', q3, q4⟩, ok1⟩ => by
  obtain ⟨a', c', rfl⟩ := wadd_some q3
  exact ⟨u, he, h1, H1, hle, ⟨q2.symm, q1, a', c', q4⟩, ok1⟩
theorem RecSize (h : Base) (cs : List Value) (r : Recd) (hx : RecC h cs r) (hs : smallR r) : TrV Tryz.prog 99 [.agg cs.toArray] h [] (.int .i64 (sizeR r)) [] := by
 have hmay := RecMay h cs r hx hs
 have hbody := PBody h cs r hx
 obtain ⟨hw, ad, ai, al, ay, cd, ci, cl, cy, rfl, _⟩ := hx.cells
 refine K.en Tryz.func99 fun F => ?_
 simp only [List.nil_append]
 (repeat' first | refine X.rq ?_ | refine X.rc ?_ ?_ <;> intro hc <;> try omega)
 refine K.l_box rfl rfl rfl (fun B1 => ?_)
 (repeat' first | refine X.rq ?_ | refine X.rc ?_ ?_ <;> intro hc <;> try omega)
 refine K.l_callV (Fx.cal rfl) rfl hmay (K.pp [] rfl) rfl rfl ?_
 simp only [List.nil_append]
 cases hm : mayR r with
 | false =>
  (repeat' first | refine X.rq ?_ | refine X.rc ?_ ?_ <;> intro hc <;> try omega)
  refine K.AT.drop ?_
  refine K.dl rfl (H' := []) rfl ⟨?_, rfl, rfl⟩
  unfold sizeR
  rw [hm]
  rfl
 | true =>
  obtain ⟨hok, hl⟩ := may_okR hm
  have hbody := hbody hok hs
  (repeat' first | refine X.rq ?_ | refine X.rc ?_ ?_ <;> intro hc <;> try omega)
  refine K.l_call (Fx.cal rfl) rfl hbody (K.pp [] rfl) rfl ?_
  rintro u h' H' - ⟨e, a9, c9, rfl, rfl⟩
  obtain rfl := e.symm
  simp only [Go.K.cna]
  (repeat' first | refine X.rq ?_ | refine X.rc ?_ ?_ <;> intro hc <;> try omega)
  refine K.AT.sel [0, 0] rfl ?_
  refine K.dl rfl (H' := []) rfl ⟨?_, rfl, rfl⟩
  unfold sizeR
  rw [hm]
  rfl
theorem RecEncode (h : Base) (cs : List Value) (r : Recd) (hx : RecC h cs r) (hs : smallR r) :
  Tr Tryz.prog 68 [.agg cs.toArray] h [] (fun u h' H' => h' = h ∧ ∃ a cap, u = .tuple #[bufV a (encR r).1.length cap, .int .i64 (encR r).2] ∧ H' = [bufA 5 1 a (encR r).1.length cap ((encR r).1.map u8)]) := by
 have hsize := RecSize h cs r hx hs
 have hbody := PBody h cs r hx
 obtain ⟨hw, ad, ai, al, ay, cd, ci, cl, cy, rfl, _⟩ := hx.cells
 refine K.en Tryz.func68 fun F => ?_
 simp only [List.nil_append]
 cases hm : mayR r with
 | false =>
  rw [show sizeR r = 0 by unfold sizeR; rw [hm]; rfl] at hsize
  rw [show encR r = ([], 5) by unfold encR; rw [hm]; rfl]
  (repeat' first | refine X.rq ?_ | refine X.rc ?_ ?_ <;> intro hc <;> try omega)
  refine K.l_box rfl rfl rfl (fun B1 => ?_)
  (repeat' first | refine X.rq ?_ | refine X.rc ?_ ?_ <;> intro hc <;> try omega)
  refine K.l_callV (Fx.cal rfl) rfl hsize (K.pp [] rfl) rfl rfl ?_
  simp only [List.nil_append]
  (repeat' first | refine X.rq ?_ | refine X.rc ?_ ?_ <;> intro hc <;> try omega)
  refine K.AT.drop ?_
  refine K.AT.nilBuf 5 1 ?_
  refine K.dl rfl (H' := [bufA 5 1 none 0 0 []]) rfl ⟨rfl, none, 0, rfl, rfl⟩
 | true =>
  obtain ⟨hok, hl⟩ := may_okR hm
  have hbody := hbody hok hs
  rw [show sizeR r = (bodyN r).length + 2 by unfold sizeR; rw [hm]; rfl] at hsize
  rw [show encR r = (encN r, 0) by unfold encR; rw [hm]; rfl]
  obtain ⟨n, hn⟩ : ∃ n, n = (bodyN r).length + 2 := ⟨_, rfl⟩
  rw [← hn] at hsize hl
  have henc : encN r = lebs n 2 ++ bodyN r := by unfold encN; rw [hn]
  (repeat' first | refine X.rq ?_ | refine X.rc ?_ ?_ <;> intro hc <;> try omega)
  refine K.l_box rfl rfl rfl (fun B1 => ?_)
  (repeat' first | refine X.rq ?_ | refine X.rc ?_ ?_ <;> intro hc <;> try omega)
  refine K.l_callV (Fx.cal rfl) rfl hsize (K.pp [] rfl) rfl rfl ?_
  simp only [List.nil_append]
  (repeat' first | refine X.rq ?_ | refine X.rc ?_ ?_ <;> intro hc <;> try omega)
  refine K.l_call (Fx.cal rfl) rfl (NewWriter h) (K.pp [] rfl) rfl ?_
  rintro u h' H' - ⟨rfl, P, rfl, rfl⟩
  simp only [Go.K.nmz]
  (repeat' first | refine X.rq ?_ | refine X.rc ?_ ?_ <;> intro hc <;> try omega)
  refine K.l_call (Fx.cal rfl) rfl (V_U16 h P none 0 [] n (by omega) (by decide)) (K.pp [0] rfl) rfl ?_
  rintro u h' H' - ⟨e, rfl, a1, c1, rfl⟩
  obtain rfl := e.symm
  simp only [Go.K.nmz]
  have hll : (lebs n 2).length = 2 := lebs_length 2 n
  (repeat' first | refine X.rq ?_ | refine X.rc ?_ ?_ <;> intro hc <;> try omega)
  refine K.l_call (Fx.cal rfl) rfl hbody (K.pp [] rfl) rfl ?_
  rintro u h' H' - ⟨e, a9, c9, rfl, rfl⟩
  obtain rfl := e.symm
  simp only [Go.K.cna]
  refine K.l_call (Fx.cal rfl) rfl (W_Raw h (some (P, some (a1, c1, lebs n 2))) a9 c9 (bodyN r) (by simp only [wb, big]; omega)) (K.pp [1, 0] rfl) rfl ?_
  rintro u h' H' - ⟨rfl, rfl, s2, hs2, rfl⟩
  obtain ⟨a2, c2, rfl⟩ := wadd_some hs2
  rw [← henc]
  have hel : (encN r).length ≤ 20000 := by rw [henc, List.length_append]; omega
  simp only [Go.K.cna]
  (repeat' first | refine X.rq ?_ | refine X.rc ?_ ?_ <;> intro hc <;> try omega)
  refine K.l_call (Fx.cal rfl) rfl (W_Bytes h (some (P, some (a2, c2, encN r))) (by simp only [wb, big]; omega)) (K.pp [0] rfl) rfl ?_
  rintro v h' H' - ⟨rfl, a10, c10, rfl, rfl⟩
  simp only [Go.K.nmz]
  (repeat' first | refine X.rq ?_ | refine X.rc ?_ ?_ <;> intro hc <;> try omega)
  refine K.AT.sel [1, 1, 1] rfl ?_
  refine K.dl rfl (H' := [bufA 5 1 a10 (encN r).length c10 ((encN r).map u8)]) rfl ⟨rfl, a10, c10, rfl, rfl⟩
end Go.Proofs.YtijbhgiigddjdaaGreat.Rc
end

section
namespace Go.Proofs.YtijbhgiigddjdaaGreat.Rc
open Go.K Pg Ca Ra

end Go.Proofs.YtijbhgiigddjdaaGreat.Rc
end

section
namespace Go.Proofs.YtijbhgiigddjdaaGreat.Rc
open Go.K Pg Ca Ra

end Go.Proofs.YtijbhgiigddjdaaGreat.Rc
end

section
namespace Go.Proofs.YtijbhgiigddjdaaGreat.Rc
open Go.K Pg Cc Rb

def Fw {α : Type} (V : α → Prop) (w : α → List UInt8) (ok : Bool) (rem : List UInt8) (x : α) (ok' : Bool) (rem' : List UInt8) : Prop :=
 rem'.length ≤ rem.length ∧ ∀ n rest, V n → ok = true → rem = w n ++ rest → x = n ∧ ok' = true ∧ rem' = rest
theorem fw_uint (ok : Bool) (rem : List UInt8) : Fw (fun n => n < 18446744073709551616) cu ok rem (uN (found ok rem)) (found ok rem).isSome (uRem (found ok rem) rem) := by
 refine ⟨?_, fun n rest hn hok hr => ?_⟩
 ·unfold uRem
  split
  ·rw [List.length_drop]; omega
  ·exact Nat.le_refl _
 ·subst hok hr
  unfold found
  rw [if_pos rfl, front_cu n hn rest]
  refine ⟨rfl, rfl, ?_⟩
  show (cu n ++ rest).drop (cu n).length = rest
  rw [List.drop_append_of_le_length (Nat.le_refl _), List.drop_length, List.nil_append]
theorem fw_fixed (m : Nat) (ok : Bool) (rem : List UInt8) : Fw (fun n => n < 256 ^ m) (fun n => lebs n m) ok rem (getN ok m rem) (getOk ok m rem) (getRem ok m rem) := by
 refine ⟨?_, fun n rest hn hok hr => ?_⟩
 ·unfold getRem
  split
  ·rw [List.length_drop]; omega
  ·exact Nat.le_refl _
 ·subst hok hr
  obtain ⟨h1, h2⟩ := nxt_app (m := m) (rest := rest) hn
  simp only [nxt, Prod.mk.injEq] at h2
  exact ⟨h1, h2.1, h2.2⟩
def rq (p : Nat) (q : Bool × Value × Bool) : Option RS := some ⟨p, q.1, q.2.1, q.2.2⟩
def RdQ (h : Base) (q : Bool × Value × Bool) (ok : Bool) (rem : List UInt8) : Prop := Rd h (rq 0 q) ok rem
abbrev rp (p : Nat) : Value := .pointer (some ⟨p, 0, none⟩)
theorem RdQ.le {h h' : Base} {q : Bool × Value × Bool} {ok : Bool} {rem : List UInt8} (hr : RdQ h q ok rem) (hle : h.le h') : RdQ h' q ok rem := Rd.le hr hle
theorem same_rq {h : Base} {p : Nat} {q : Bool × Value × Bool} {s : Option RS} {ok : Bool} {rem : List UInt8} (hs : same (rq p q) s) (hr : Rd h s ok rem) : ∃ q', s = rq p q' ∧ RdQ h q' ok rem := by
 match s, hs with
 | some ⟨p', a, b, c⟩, hs =>
  obtain rfl : p' = p := hs
  exact ⟨(a, b, c), rfl, hr⟩
theorem N_Uint (h : Base) (p : Nat) (q : Bool × Value × Bool) (ok : Bool) (rem : List UInt8) (hr : RdQ h q ok rem) (hl : rem.length ≤ big) :
  Tr Tryz.prog 149 [rp p] h [rA (rq p q)] (fun u h' H' => h' = h ∧ ∃ x q' ok' rem', u = .int .u64 (x : Nat) ∧ x < 18446744073709551616 ∧ RdQ h q' ok' rem' ∧ H' = [rA (rq p q')] ∧ Fw (fun n => n < 18446744073709551616) cu ok rem x ok' rem') := fun F w okk =>
 Calls.mono (R_Uint h (rq p q) ok rem hr hl F w okk) fun e w' ⟨u, he, h1, H1, hle, ⟨q1, q2, s', q3, q4, q5⟩, ok1⟩ => by
  obtain ⟨q', rfl, hq⟩ := same_rq q3 q4
  refine ⟨u, he, h1, H1, hle, ⟨q1.symm, _, q', _, _, q2, ?_, hq, q5, fw_uint ok rem⟩, ok1⟩
  cases ho : found ok rem with
  | none => show 0 < _; decide
  | some xm => exact (found_le ho).2.2.2.2
theorem N_U8 (h : Base) (p : Nat) (q : Bool × Value × Bool) (ok : Bool) (rem : List UInt8) (hr : RdQ h q ok rem) (hl : rem.length ≤ big) :
  Tr Tryz.prog 73 [rp p] h [rA (rq p q)] (fun u h' H' => h' = h ∧ ∃ x q' ok' rem', u = .int .u8 (x : Nat) ∧ x < 256 ∧ RdQ h q' ok' rem' ∧ H' = [rA (rq p q')] ∧ Fw (fun n => n < 256) (fun n => lebs n 1) ok rem x ok' rem') := fun F w okk =>
 Calls.mono (R_U8 h (rq p q) ok rem hr hl F w okk) fun e w' ⟨u, he, h1, H1, hle, ⟨q1, q2, s', q3, q4, q5⟩, ok1⟩ => by
  obtain ⟨q', rfl, hq⟩ := same_rq q3 q4
  exact ⟨u, he, h1, H1, hle, ⟨q1.symm, _, q', _, _, q2, num_lt 1 (ok, rem), hq, q5, fw_fixed 1 ok rem⟩, ok1⟩
theorem N_U16 (h : Base) (p : Nat) (q : Bool × Value × Bool) (ok : Bool) (rem : List UInt8) (hr : RdQ h q ok rem) (hl : rem.length ≤ big) :
  Tr Tryz.prog 76 [rp p] h [rA (rq p q)] (fun u h' H' => h' = h ∧ ∃ q' ok' rem', u = .int .u16 (getN ok 2 rem : Nat) ∧ RdQ h q' ok' rem' ∧ H' = [rA (rq p q')]) := fun F w okk =>
 Calls.mono (R_U16 h (rq p q) ok rem hr hl F w okk) fun e w' ⟨u, he, h1, H1, hle, ⟨q1, q2, s', q3, q4, q5⟩, ok1⟩ => by
  obtain ⟨q', rfl, hq⟩ := same_rq q3 q4
  exact ⟨u, he, h1, H1, hle, ⟨q1.symm, q', _, _, q2, hq, q5⟩, ok1⟩
theorem N_Raw (h : Base) (p : Nat) (q : Bool × Value × Bool) (ok : Bool) (rem : List UInt8) (m : Nat) (hr : RdQ h q ok rem) (hl : rem.length ≤ big) (hm : m ≤ 1000000) :
  Tr Tryz.prog 77 [rp p, .int .i64 m] h [rA (rq p q)] (fun u h' H' => h' = h ∧ ∃ (d : List UInt8) (a : Option Nat) (c : Nat) (q' : Bool × Value × Bool) (ok' : Bool) (rem' : List UInt8), u = bufV a d.length c ∧ d.length ≤ m ∧ RdQ h q' ok' rem' ∧ H' = [bufA 5 1 a d.length c (d.map u8), rA (rq p q')] ∧ Fw (fun n => n.length = m) (fun n => n) ok rem d ok' rem') := fun F w okk =>
 Calls.mono (R_Raw' h (rq p q) ok rem m hr hl (by omega) (by omega) F w okk) fun e w' ⟨u, he, h1, H1, hle, ⟨q1, a, c, s', q2, q3, q4, q5⟩, ok1⟩ => by
  obtain ⟨q', rfl, hq⟩ := same_rq q3 q4
  refine ⟨u, he, h1, H1, hle, ⟨q1.symm, _, a, c, q', _, _, q2, ?_, hq, q5, ?_, fun n rest hn hok hr2 => ?_⟩, ok1⟩
  ·unfold tk
   split
   ·rw [List.length_take]; omega
   ·exact Nat.zero_le _
  ·unfold tkRem
   split
   ·rw [List.length_drop]; omega
   ·exact Nat.le_refl _
  ·subst hok hr2 hn
   have hc : true = true ∧ (0 : Int) ≤ (n.length : Nat) ∧ ((n.length : Nat) : Int) ≤ (n ++ rest).length := ⟨rfl, by omega, by rw [List.length_append]; omega⟩
   refine ⟨?_, ?_, ?_⟩
   ·unfold tk
    rw [if_pos hc, Int.toNat_natCast, List.take_append_of_le_length (Nat.le_refl _), List.take_length]
   ·unfold tkOk
    rw [decide_eq_true hc.2]; rfl
   ·unfold tkRem
    rw [if_pos hc, Int.toNat_natCast, List.drop_append_of_le_length (Nat.le_refl _), List.drop_length, List.nil_append]
theorem fw_text (m : Nat) (hm : m ≤ 1000000) (ok : Bool) (rem : List UInt8) : Fw (fun n : List UInt8 => n.length ≤ m) (fun n => cu n.length ++ n) ok rem (txtV (txt ok rem m) rem) (txt ok rem m).isSome (txtRem (txt ok rem m) rem) := by
 refine ⟨?_, fun n rest hn hok hr2 => ?_⟩
 ·unfold txt
  split
  ·split
   ·show (((_ : List UInt8).drop _).drop _).length ≤ _
    rw [List.length_drop, List.length_drop]; omega
   ·exact Nat.le_refl _
  ·exact Nat.le_refl _
 ·subst hok hr2
  have hn2 : n.length ≤ m := hn
  have hf : found true (cu n.length ++ n ++ rest) = some (n.length, (cu n.length).length) := by
   unfold found
   rw [if_pos rfl, List.append_assoc, front_cu _ (by omega)]
  have ht : txt true (cu n.length ++ n ++ rest) m = some (n.length, (cu n.length).length) := by
   unfold txt
   rw [hf]
   show (if _ then _ else _) = _
   rw [if_pos ⟨by omega, by omega, by simp only [List.length_append]; omega⟩]
  rw [ht]
  have hd : (cu n.length ++ n ++ rest).drop (cu n.length).length = n ++ rest := by
   rw [List.append_assoc, List.drop_append_of_le_length (Nat.le_refl _), List.drop_length, List.nil_append]
  refine ⟨?_, rfl, ?_⟩
  ·show ((_ : List UInt8).drop _).take _ = n
   rw [hd, List.take_append_of_le_length (Nat.le_refl _), List.take_length]
  ·show ((_ : List UInt8).drop _).drop _ = rest
   rw [hd, List.drop_append_of_le_length (Nat.le_refl _), List.drop_length, List.nil_append]
theorem N_Text (h : Base) (p : Nat) (q : Bool × Value × Bool) (ok : Bool) (rem : List UInt8) (m : Nat) (hr : RdQ h q ok rem) (hl : rem.length ≤ big) (hm : m ≤ 1000000) :
  Tr Tryz.prog 150 [rp p, .int .i64 m] h [rA (rq p q)] (fun u h' H' => h' = h ∧ ∃ (d : List UInt8) (q' : Bool × Value × Bool) (ok' : Bool) (rem' : List UInt8), u = .string ⟨d.toArray⟩ ∧ d.length ≤ m ∧ RdQ h q' ok' rem' ∧ H' = [rA (rq p q')] ∧ Fw (fun n => n.length ≤ m) (fun n => cu n.length ++ n) ok rem d ok' rem') := fun F w okk =>
 Calls.mono (R_Text h (rq p q) ok rem m hr hl (by omega) (by omega) F w okk) fun e w' ⟨u, he, h1, H1, hle, ⟨q1, q2, s', q3, q4, q5⟩, ok1⟩ => by
  obtain ⟨q', rfl, hq⟩ := same_rq q3 q4
  refine ⟨u, he, h1, H1, hle, ⟨q1.symm, _, q', _, _, q2, ?_, hq, q5, fw_text m hm ok rem⟩, ok1⟩
  unfold txt
  split
  ·split
   ·show (((_ : List UInt8).drop _).take _).length ≤ _
    rw [List.length_take]; omega
   ·exact Nat.zero_le _
  ·exact Nat.zero_le _
theorem N_Err (h : Base) (p : Nat) (q : Bool × Value × Bool) (ok : Bool) (rem : List UInt8) (hr : RdQ h q ok rem) : TrV Tryz.prog 75 [rp p] h [rA (rq p q)] (errV ok) [rA (rq p q)] := R_Err h (rq p q) ok rem hr
theorem N_Left (h : Base) (p : Nat) (q : Bool × Value × Bool) (ok : Bool) (rem : List UInt8) (hr : RdQ h q ok rem) : TrV Tryz.prog 78 [rp p] h [rA (rq p q)] (.int .i64 rem.length) [rA (rq p q)] := R_Left h (rq p q) ok rem hr
theorem N_End (h : Base) (p : Nat) (q : Bool × Value × Bool) (ok : Bool) (rem : List UInt8) (hr : RdQ h q ok rem) (hl : rem.length ≤ big) :
  Tr Tryz.prog 79 [rp p] h [rA (rq p q)] (fun u h' H' => h' = h ∧ ∃ q', u = errV (ok && decide (rem = [])) ∧ H' = [rA (rq p q')]) := fun F w okk =>
 Calls.mono (R_End h (rq p q) ok rem hr hl F w okk) fun e w' ⟨u, he, h1, H1, hle, ⟨q1, q2, s', q3, q4, q5⟩, ok1⟩ => by
  obtain ⟨q', rfl, hq⟩ := same_rq q3 q4
  exact ⟨u, he, h1, H1, hle, ⟨q1.symm, q', q2, q5⟩, ok1⟩
def FwN (ok : Bool) (rem : List UInt8) (c : Bool) (x : Nat) (ok' : Bool) (rem' : List UInt8) (c' : Bool) : Prop :=
 rem'.length ≤ rem.length ∧ ∀ n rest, n < 4294967296 → ok = true → rem = cu n ++ rest → x = n ∧ ok' = true ∧ rem' = rest ∧ c' = c
theorem wr32 (x : Nat) : IntKind.u32.wrap (x : Int) = ((x % 4294967296 : Nat) : Int) := by
 show (x : Int) % 2 ^ 32 = _
 rw [show ((2 : Int) ^ 32) = 4294967296 from rfl]
 omega
theorem N_narrow (h : Base) (p : Nat) (q : Bool × Value × Bool) (ok : Bool) (rem : List UInt8) (B : Nat) (c : Bool) (hr : RdQ h q ok rem) (hl : rem.length ≤ big) :
  Tr Tryz.prog 148 [rp p, rp B] h [rA (rq p q), blk B 4 [.bool c]] (fun u h' H' => h' = h ∧ ∃ x q' ok' rem' c', u = .int .u32 (x : Nat) ∧ x < 4294967296 ∧ RdQ h q' ok' rem' ∧ H' = [rA (rq p q'), blk B 4 [.bool c']] ∧ FwN ok rem c x ok' rem' c') := by
 refine K.en Tryz.func148 fun F => ?_
 simp only [Go.K.cna]
 (repeat' first | refine X.rq ?_ | refine X.rc ?_ ?_ <;> intro hc <;> try omega)
 refine K.l_call (Fx.cal rfl) rfl (N_Uint h p q ok rem hr hl) (K.pp [0] rfl) rfl ?_
 rintro u h' H' - ⟨e, x, q1, ok1, rem1, rfl, hx, hr1, rfl, hf⟩
 obtain rfl := e.symm
 simp only [Go.K.cna]
 have hfin : ∀ c', (x < 4294967296 → c' = c) → FwN ok rem c (x % 4294967296) ok1 rem1 c' := fun c' hc => ⟨hf.1, fun n rest hn hok he => by
  obtain ⟨e1, e2, e3⟩ := hf.2 n rest (show n < 18446744073709551616 by omega) hok he
  subst e1
  exact ⟨Nat.mod_eq_of_lt hn, e2, e3, hc hn⟩⟩
 skip
 cases c with
 | false =>
  (repeat' first | refine X.rq ?_ | refine X.rc ?_ ?_ <;> intro hc <;> try omega)
  refine X.sto ?_
  simp only [Go.K.nmz]
  (repeat' first | refine X.rq ?_ | refine X.rc ?_ ?_ <;> intro hc <;> try omega)
  skip
  refine K.dl rfl (H' := [rA (rq p q1), blk B 4 [.bool false]]) rfl ⟨rfl, x % 4294967296, q1, ok1, rem1, false, ?_, Nat.mod_lt _ (by decide), hr1, rfl, hfin false fun _ => rfl⟩
  exact congrArg (Value.int .u32) (wr32 x)
 | true =>
  (repeat' first | refine X.rq ?_ | refine X.rc ?_ ?_ <;> intro hc <;> try omega)
  refine X.sto ?_
  simp only [Go.K.nmz]
  (repeat' first | refine X.rq ?_ | refine X.rc ?_ ?_ <;> intro hc <;> try omega)
  refine K.dl rfl (H' := [rA (rq p q1), blk B 4 [.bool (decide ((x : Int) < 4294967296))]]) rfl ⟨rfl, x % 4294967296, q1, ok1, rem1, _, ?_, Nat.mod_lt _ (by decide), hr1, rfl, hfin _ fun hx => decide_eq_true (by omega)⟩
  exact congrArg (Value.int .u32) (wr32 x)
def FwC (ok : Bool) (rem : List UInt8) (x : Nat) (ok' : Bool) (rem' : List UInt8) : Prop :=
 (rem'.length ≤ rem.length ∧ x ≤ rem'.length) ∧ ∀ n rest, n < 18446744073709551616 → n ≤ rest.length → ok = true → rem = cu n ++ rest → x = n ∧ ok' = true ∧ rem' = rest
theorem N_count (h : Base) (p : Nat) (q : Bool × Value × Bool) (ok : Bool) (rem : List UInt8) (hr : RdQ h q ok rem) (hl : rem.length ≤ big) :
  Tr Tryz.prog 151 [rp p] h [rA (rq p q)] (fun u h' H' => h' = h ∧ ∃ x q' ok' rem', u = .int .i64 (x : Nat) ∧ RdQ h q' ok' rem' ∧ H' = [rA (rq p q')] ∧ FwC ok rem x ok' rem') := by
 have hl2 := hl
 unfold big at hl2
 refine K.en Tryz.func151 fun F => ?_
 simp only [Go.K.cna]
 (repeat' first | refine X.rq ?_ | refine X.rc ?_ ?_ <;> intro hc <;> try omega)
 refine K.l_call (Fx.cal rfl) rfl (N_Uint h p q ok rem hr hl) (K.pp [0] rfl) rfl ?_
 rintro u h' H' - ⟨e, x, q1, ok1, rem1, rfl, hx, hr1, rfl, hf⟩
 obtain rfl := e.symm
 simp only [Go.K.cna]
 (repeat' first | refine X.rq ?_ | refine X.rc ?_ ?_ <;> intro hc <;> try omega)
 refine K.l_callV (Fx.cal rfl) rfl (N_Left h p q1 ok1 rem1 hr1) (K.pp [0] rfl) rfl rfl ?_
 simp only [Go.K.cna]
 have hl1 := hf.1
 refine K.s_pure (X.cv (v := .int .u64 (rem1.length : Nat))) rfl ?_
 skip
 refine K.s_pure (K.p_min (c := ((min x rem1.length : Nat) : Int)) rfl rfl (by omega)) rfl ?_
 have hm : min x rem1.length ≤ rem1.length := Nat.min_le_right _ _
 have hmx : x ≤ rem1.length → min x rem1.length = x := Nat.min_eq_left
 generalize min x rem1.length = m at hm hmx
 (repeat' first | refine X.rq ?_ | refine X.rc ?_ ?_ <;> intro hc <;> try omega)
 refine K.dl rfl (H' := [rA (rq p q1)]) rfl ⟨rfl, m, q1, ok1, rem1, rfl, hr1, rfl, ⟨hl1, hm⟩, fun n rest hn hnr hok he => by
  obtain ⟨e1, e2, e3⟩ := hf.2 n rest hn hok he
  subst e1 e3
  exact ⟨hmx hnr, e2, rfl⟩⟩
end Go.Proofs.YtijbhgiigddjdaaGreat.Rc
end
