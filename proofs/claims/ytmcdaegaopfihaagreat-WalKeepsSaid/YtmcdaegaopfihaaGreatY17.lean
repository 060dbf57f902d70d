/-
  Texts joined: Hi Hk Hl Cc. Conditions: each theorem's own.
-/
import Derived.Test.YtmcdaegaopfihaaGreatY16
import Derived.Test.YtmcdaegaopfihaaGreatY13
import Derived.Test.YtmcdaegaopfihaaGreatY7
import Derived.Test.YtmcdaegaopfihaaGreatY0
import Derived.Test.YtmcdaegaopfihaaGreatY3
section
namespace Go.Proofs.YtmcdaegaopfihaaGreat.Rc
open Go Go.K Go.Proofs Go.Proofs.YtmcdaegaopfihaaGreat Go.Proofs.YtmcdaegaopfihaaGreat.Pg Go.Proofs.YtmcdaegaopfihaaGreat.Ca
set_option linter.unusedVariables false
set_option linter.unusedSimpArgs false
set_option maxRecDepth 10000

theorem may_okR {r : Recd} (h : mayR r = true) : okR r ∧ (bodyN r).length + 2 ≤ 16384 := by
 unfold mayR at h
 rw [Bool.and_eq_true, decide_eq_true_eq, decide_eq_true_eq] at h
 exact h
theorem V_U16 (h : Base) (P : Nat) (a : Option Nat) (c : Nat) (l : List UInt8) (x : Nat) (hx : x < 65536) (hl : l.length ≤ 1000000000) :
  Tr Tryz.prog 59 [wp P, .int .u16 x] h [wA (some (P, some (a, c, l)))] (fun u h' H' => Wr P (l ++ lebs x 2) u h h' H') := fun F w ok =>
 Calls.mono (W_U16 h (some (P, some (a, c, l))) x hx (by simp only [wb, big]; omega) F w ok) fun e w' ⟨u, he, h1, H1, hle, ⟨q1, q2, s', q3, q4⟩, ok1⟩ => by
  obtain ⟨a', c', rfl⟩ := wadd_some q3
  exact ⟨u, he, h1, H1, hle, ⟨q2.symm, q1, a', c', q4⟩, ok1⟩
theorem RecSize (h : Base) (cs : List Value) (r : Recd) (hx : RecC h cs r) (hs : smallR r) : TrV Tryz.prog 57 [.agg cs.toArray] h [] (.int .i64 (sizeR r)) [] := by
 have hmay := RecMay h cs r hx hs
 have hbody := PBody h cs r hx
 obtain ⟨hw, ad, ai, al, ay, cd, ci, cl, cy, rfl, _⟩ := hx.cells
 refine K.enter Tryz.func57 rfl (Nat.le_of_ble_eq_true rfl) (fun F => ?_)
 simp only [List.nil_append]
 (repeat' first | refine X.rq ?_ | refine X.rc ?_ ?_ <;> intro hc <;> try omega)
 refine K.l_box rfl rfl rfl (fun B1 => ?_)
 (repeat' first | refine X.rq ?_ | refine X.rc ?_ ?_ <;> intro hc <;> try omega)
 refine K.l_callV (Fx.cal rfl) rfl hmay (K.pp [] rfl) rfl rfl ?_
 simp only [List.nil_append]
 cases hm : mayR r with
 | false =>
  (repeat' first | refine X.rq ?_ | refine X.rc ?_ ?_ <;> intro hc <;> try omega)
  refine K.AT.drop ?_
  refine K.done (by first | exact Or.inl rfl | exact Or.inr rfl) rfl (by first | exact K.Base.le.refl _ | assumption) (H' := []) rfl ⟨?_, rfl, rfl⟩
  unfold sizeR
  rw [hm]
  rfl
 | true =>
  obtain ⟨hok, hl⟩ := may_okR hm
  have hbody := hbody hok hs
  (repeat' first | refine X.rq ?_ | refine X.rc ?_ ?_ <;> intro hc <;> try omega)
  refine K.l_call (Fx.cal rfl) rfl hbody (K.pp [] rfl) rfl ?_
  rintro u h' H' - ⟨e, a9, c9, rfl, rfl⟩
  obtain rfl := e.symm
  simp only [List.cons_append, List.nil_append]
  (repeat' first | refine X.rq ?_ | refine X.rc ?_ ?_ <;> intro hc <;> try omega)
  refine K.AT.sel [0, 0] rfl ?_
  refine K.done (by first | exact Or.inl rfl | exact Or.inr rfl) rfl (by first | exact K.Base.le.refl _ | assumption) (H' := []) rfl ⟨?_, rfl, rfl⟩
  unfold sizeR
  rw [hm]
  rfl
set_option maxHeartbeats 1000000 in
theorem RecEncode (h : Base) (cs : List Value) (r : Recd) (hx : RecC h cs r) (hs : smallR r) :
  Tr Tryz.prog 33 [.agg cs.toArray] h [] (fun u h' H' => h' = h ∧ ∃ a cap, u = .tuple #[bufV a (encR r).1.length cap, .int .i64 (encR r).2] ∧ H' = [bufA 5 1 a (encR r).1.length cap ((encR r).1.map u8)]) := by
 have hsize := RecSize h cs r hx hs
 have hbody := PBody h cs r hx
 obtain ⟨hw, ad, ai, al, ay, cd, ci, cl, cy, rfl, _⟩ := hx.cells
 refine K.enter Tryz.func33 rfl (Nat.le_of_ble_eq_true rfl) (fun F => ?_)
 simp only [List.nil_append]
 cases hm : mayR r with
 | false =>
  rw [show sizeR r = 0 by unfold sizeR; rw [hm]; rfl] at hsize
  rw [show encR r = ([], 5) by unfold encR; rw [hm]; rfl]
  (repeat' first | refine X.rq ?_ | refine X.rc ?_ ?_ <;> intro hc <;> try omega)
  refine K.l_box rfl rfl rfl (fun B1 => ?_)
  (repeat' first | refine X.rq ?_ | refine X.rc ?_ ?_ <;> intro hc <;> try omega)
  refine K.l_callV (Fx.cal rfl) rfl hsize (K.pp [] rfl) rfl rfl ?_
  simp only [List.nil_append]
  (repeat' first | refine X.rq ?_ | refine X.rc ?_ ?_ <;> intro hc <;> try omega)
  refine K.AT.drop ?_
  refine K.AT.nilBuf 5 1 ?_
  refine K.done (by first | exact Or.inl rfl | exact Or.inr rfl) rfl (by first | exact K.Base.le.refl _ | assumption) (H' := [bufA 5 1 none 0 0 []]) rfl ⟨rfl, none, 0, rfl, rfl⟩
 | true =>
  obtain ⟨hok, hl⟩ := may_okR hm
  have hbody := hbody hok hs
  rw [show sizeR r = (bodyN r).length + 2 by unfold sizeR; rw [hm]; rfl] at hsize
  rw [show encR r = (encN r, 0) by unfold encR; rw [hm]; rfl]
  obtain ⟨n, hn⟩ : ∃ n, n = (bodyN r).length + 2 := ⟨_, rfl⟩
  rw [← hn] at hsize hl
  have henc : encN r = lebs n 2 ++ bodyN r := by unfold encN; rw [hn]
  (repeat' first | refine X.rq ?_ | refine X.rc ?_ ?_ <;> intro hc <;> try omega)
  refine K.l_box rfl rfl rfl (fun B1 => ?_)
  (repeat' first | refine X.rq ?_ | refine X.rc ?_ ?_ <;> intro hc <;> try omega)
  refine K.l_callV (Fx.cal rfl) rfl hsize (K.pp [] rfl) rfl rfl ?_
  simp only [List.nil_append]
  (repeat' first | refine X.rq ?_ | refine X.rc ?_ ?_ <;> intro hc <;> try omega)
  refine K.l_call (Fx.cal rfl) rfl (NewWriter h) (K.pp [] rfl) rfl ?_
  rintro u h' H' - ⟨rfl, P, rfl, rfl⟩
  simp only [Go.K.nmz]
  (repeat' first | refine X.rq ?_ | refine X.rc ?_ ?_ <;> intro hc <;> try omega)
  refine K.l_call (Fx.cal rfl) rfl (V_U16 h P none 0 [] n (by omega) (by decide)) (K.pp [0] rfl) rfl ?_
  rintro u h' H' - ⟨e, rfl, a1, c1, rfl⟩
  obtain rfl := e.symm
  simp only [Go.K.nmz]
  have hll : (lebs n 2).length = 2 := lebs_length 2 n
  (repeat' first | refine X.rq ?_ | refine X.rc ?_ ?_ <;> intro hc <;> try omega)
  refine K.l_call (Fx.cal rfl) rfl hbody (K.pp [] rfl) rfl ?_
  rintro u h' H' - ⟨e, a9, c9, rfl, rfl⟩
  obtain rfl := e.symm
  simp only [List.cons_append, List.nil_append]
  refine K.l_call (Fx.cal rfl) rfl (W_Raw h (some (P, some (a1, c1, lebs n 2))) a9 c9 (bodyN r) (by simp only [wb, big]; omega)) (K.pp [1, 0] rfl) rfl ?_
  rintro u h' H' - ⟨rfl, rfl, s2, hs2, rfl⟩
  obtain ⟨a2, c2, rfl⟩ := wadd_some hs2
  rw [← henc]
  have hel : (encN r).length ≤ 20000 := by rw [henc, List.length_append]; omega
  simp only [List.cons_append, List.nil_append]
  (repeat' first | refine X.rq ?_ | refine X.rc ?_ ?_ <;> intro hc <;> try omega)
  refine K.l_call (Fx.cal rfl) rfl (W_Bytes h (some (P, some (a2, c2, encN r))) (by simp only [wb, big]; omega)) (K.pp [0] rfl) rfl ?_
  rintro v h' H' - ⟨rfl, a10, c10, rfl, rfl⟩
  simp only [Go.K.nmz]
  (repeat' first | refine X.rq ?_ | refine X.rc ?_ ?_ <;> intro hc <;> try omega)
  refine K.AT.sel [1, 1, 1] rfl ?_
  refine K.done (by first | exact Or.inl rfl | exact Or.inr rfl) rfl (by first | exact K.Base.le.refl _ | assumption) (H' := [bufA 5 1 a10 (encN r).length c10 ((encN r).map u8)]) rfl ⟨rfl, a10, c10, rfl, rfl⟩
end Go.Proofs.YtmcdaegaopfihaaGreat.Rc
end

section
namespace Go.Proofs.YtmcdaegaopfihaaGreat.Rc
open Go Go.K Go.Proofs Go.Proofs.YtmcdaegaopfihaaGreat Go.Proofs.YtmcdaegaopfihaaGreat.Pg Go.Proofs.YtmcdaegaopfihaaGreat.Ca Go.Proofs.YtmcdaegaopfihaaGreat.Ra
set_option linter.unusedVariables false
set_option linter.unusedSimpArgs false
set_option maxRecDepth 10000

end Go.Proofs.YtmcdaegaopfihaaGreat.Rc
end

section
namespace Go.Proofs.YtmcdaegaopfihaaGreat.Rc
open Go Go.K Go.Proofs Go.Proofs.YtmcdaegaopfihaaGreat Go.Proofs.YtmcdaegaopfihaaGreat.Pg Go.Proofs.YtmcdaegaopfihaaGreat.Ca Go.Proofs.YtmcdaegaopfihaaGreat.Ra
set_option linter.unusedVariables false
set_option linter.unusedSimpArgs false
set_option maxRecDepth 10000

end Go.Proofs.YtmcdaegaopfihaaGreat.Rc
end

section
namespace Go.Proofs.YtmcdaegaopfihaaGreat.Cc
open Go Go.K Go.Proofs Go.Proofs.YtmcdaegaopfihaaGreat
set_option linter.unusedVariables false
set_option linter.unusedSimpArgs false
set_option maxRecDepth 10000

abbrev unit : Value := .tuple #[]
def big : Nat := 140737488355328
structure RS where
 p : Nat
 made : Bool
 sv : Value
 bad : Bool
def rv : Option RS → Value
 | none => .pointer none
 | some r => .pointer (some ⟨r.p, 0, none⟩)
def rA : Option RS → Asrt
 | none => all []
 | some r => blk r.p 157 [.bool r.made, r.sv, .bool r.bad]
def Rd (h : Base) (s : Option RS) (ok : Bool) (rem : List UInt8) : Prop := match s with
 | none => ok = false ∧ rem = []
 | some r => ok = (r.made && !r.bad) ∧ BV h r.sv rem
def same : Option RS → Option RS → Prop
 | none, none => True
 | some r, some r' => r'.p = r.p
 | _, _ => False
theorem same_refl : ∀ s, same s s
 | none => trivial
 | some _ => rfl
theorem same_trans : ∀ {a b c : Option RS}, same a b → same b c → same a c
 | none, none, none, _, _ => trivial
 | some _, some _, some _, h1, h2 => Eq.trans h2 h1
 | none, some _, _, h1, _ => h1.elim
 | some _, none, _, h1, _ => h1.elim
 | none, none, some _, _, h2 => h2.elim
 | some _, some _, none, _, h2 => h2.elim
theorem same_val : ∀ {a b : Option RS}, same a b → rv b = rv a
 | none, none, _ => rfl
 | some r, some r', e => by show Value.pointer _ = Value.pointer _; rw [show r'.p = r.p from e]
 | none, some _, h1 => h1.elim
 | some _, none, h1 => h1.elim
theorem Rd.le {h h' : Base} {s : Option RS} {ok : Bool} {rem : List UInt8} (hr : Rd h s ok rem) (hle : h.le h') : Rd h' s ok rem := by
 cases s with
 | none => exact hr
 | some r => exact ⟨hr.1, hr.2.le hle⟩
def RPost (h : Base) (s : Option RS) (ok : Bool) (rem : List UInt8) (V : Value → Prop) (v : Value) (h' : Base) (H' : List Asrt) : Prop := h = h' ∧ V v ∧ ∃ s', same s s' ∧ Rd h s' ok rem ∧ H' = [rA s']

theorem NewReader (h : Base) (v : Value) (l : List UInt8) (Pre : List Asrt) (hs : Src Tryz.prog h Pre 1 v l.length (l.map u8)) (hl : l.length ≤ big) :
  Tr Tryz.prog 70 [v] h Pre (fun v' h' H' => ∃ p sv, v' = rv (some ⟨p, true, sv, false⟩) ∧ Rd h' (some ⟨p, true, sv, false⟩) true l ∧ H' = rA (some ⟨p, true, sv, false⟩) :: Pre) := by
 unfold big at hl
 refine K.enter Tryz.func70 rfl (Nat.le_of_ble_eq_true rfl) (fun F => ?_)
 (repeat' first | refine X.rq ?_ | refine X.rc ?_ ?_ <;> intro hc <;> try omega)
 refine K.WL.nilBuf 5 1 ?_
 refine K.l_append_at 0 rfl (Fx.und rfl) (Fx.und rfl) rfl (Fx.sz rfl) (Fx.zr rfl) rfl (Fx.byt rfl) rfl rfl (hs.sub (fun A hA => by simp [hA])) (by omega) (by omega) rfl (fun a' cap' => ?_)
 simp only [Go.K.nmz]
 (repeat' first | refine X.rq ?_ | refine X.rc ?_ ?_ <;> intro hc <;> try omega)
 refine K.l_box rfl rfl rfl (fun B => ?_)
 (repeat' first | refine X.rq ?_ | refine X.rc ?_ ?_ <;> intro hc <;> try omega)
 rw [Nat.zero_add]
 refine K.AT.perm (List.Perm.swap ..) (K.AT.freezeBuf (fun h1 hle hb => ?_))
 refine K.done (by first | exact Or.inl rfl | exact Or.inr rfl) rfl (by first | exact K.Base.le.refl _ | assumption) (H' := rA (some ⟨B, true, bufV a' l.length cap', false⟩) :: Pre) rfl ⟨B, _, rfl, ⟨rfl, hb⟩, rfl⟩

theorem R_fault (h : Base) (s : Option RS) (ok : Bool) (rem : List UInt8) (hr : Rd h s ok rem) : Tr Tryz.prog 120 [rv s] h [rA s] (RPost h s false rem (· = unit)) := by
 match s, hr with
 | none, ⟨_, hb⟩ =>
  refine K.enter Tryz.func120 rfl (Nat.le_of_ble_eq_true rfl) (fun F => ?_)
  simp only [rv]
  (repeat' first | refine X.rq ?_ | refine X.rc ?_ ?_ <;> intro hc <;> try omega)
  refine K.done (by first | exact Or.inl rfl | exact Or.inr rfl) rfl (by first | exact K.Base.le.refl _ | assumption) (H' := [rA none]) rfl ⟨rfl, rfl, none, trivial, ⟨rfl, hb⟩, rfl⟩
 | some ⟨p, made, sv, bad⟩, ⟨_, hb⟩ =>
  refine K.enter Tryz.func120 rfl (Nat.le_of_ble_eq_true rfl) (fun F => ?_)
  simp only [rv, rA, List.cons_append, List.nil_append]
  (repeat' first | refine X.rq ?_ | refine X.rc ?_ ?_ <;> intro hc <;> try omega)
  refine X.sto ?_
  (repeat' first | refine X.rq ?_ | refine X.rc ?_ ?_ <;> intro hc <;> try omega)
  refine K.done (by first | exact Or.inl rfl | exact Or.inr rfl) rfl (by first | exact K.Base.le.refl _ | assumption) (H' := [rA (some ⟨p, made, sv, true⟩)]) rfl ⟨rfl, rfl, some ⟨p, made, sv, true⟩, rfl, ⟨by simp, hb⟩, rfl⟩

def errV (ok : Bool) : Value := .int .i64 (if ok then 0 else 5)
theorem R_Err (h : Base) (s : Option RS) (ok : Bool) (rem : List UInt8) (hr : Rd h s ok rem) : TrV Tryz.prog 119 [rv s] h [rA s] (errV ok) [rA s] := by
 match s, hr with
 | none, ⟨hb, _⟩ =>
  subst hb
  refine K.enter Tryz.func119 rfl (Nat.le_of_ble_eq_true rfl) (fun F => ?_)
  simp only [rv]
  (repeat' first | refine X.rq ?_ | refine X.rc ?_ ?_ <;> intro hc <;> try omega)
  refine K.done (by first | exact Or.inl rfl | exact Or.inr rfl) rfl (by first | exact K.Base.le.refl _ | assumption) (H' := [rA none]) rfl ⟨rfl, rfl, rfl⟩
 | some ⟨p, made, sv, bad⟩, ⟨hb, _⟩ =>
  subst hb
  refine K.enter Tryz.func119 rfl (Nat.le_of_ble_eq_true rfl) (fun F => ?_)
  simp only [rv, rA, List.cons_append, List.nil_append]
  cases made <;> cases bad
  all_goals
   (repeat' first | refine X.rq ?_ | refine X.rc ?_ ?_ <;> intro hc <;> try omega)
   refine K.done (by first | exact Or.inl rfl | exact Or.inr rfl) rfl (by first | exact K.Base.le.refl _ | assumption) (H' := [rA (some ⟨p, _, sv, _⟩)]) rfl ⟨rfl, rfl, rfl⟩

theorem R_Left (h : Base) (s : Option RS) (ok : Bool) (rem : List UInt8) (hr : Rd h s ok rem) : TrV Tryz.prog 137 [rv s] h [rA s] (.int .i64 rem.length) [rA s] := by
 match s, hr with
 | none, ⟨_, hb⟩ =>
  subst hb
  refine K.enter Tryz.func137 rfl (Nat.le_of_ble_eq_true rfl) (fun F => ?_)
  simp only [rv]
  (repeat' first | refine X.rq ?_ | refine X.rc ?_ ?_ <;> intro hc <;> try omega)
  refine K.done (by first | exact Or.inl rfl | exact Or.inr rfl) rfl (by first | exact K.Base.le.refl _ | assumption) (H' := [rA none]) rfl ⟨rfl, rfl, rfl⟩
 | some ⟨p, made, sv, bad⟩, ⟨_, hb⟩ =>
  obtain ⟨ao, c, rfl⟩ := hb.len
  refine K.enter Tryz.func137 rfl (Nat.le_of_ble_eq_true rfl) (fun F => ?_)
  simp only [rv, rA, List.cons_append, List.nil_append]
  (repeat' first | refine X.rq ?_ | refine X.rc ?_ ?_ <;> intro hc <;> try omega)
  refine K.done (by first | exact Or.inl rfl | exact Or.inr rfl) rfl (by first | exact K.Base.le.refl _ | assumption) (H' := [rA (some ⟨p, made, _, bad⟩)]) rfl ⟨rfl, rfl, rfl⟩

theorem R_End (h : Base) (s : Option RS) (ok : Bool) (rem : List UInt8) (hr : Rd h s ok rem) (hl : rem.length ≤ big) :
  Tr Tryz.prog 127 [rv s] h [rA s] (RPost h s (ok && decide (rem = [])) rem (· = errV (ok && decide (rem = [])))) := by
 unfold big at hl
 refine K.enter Tryz.func127 rfl (Nat.le_of_ble_eq_true rfl) (fun F => ?_)
 (repeat' first | refine X.rq ?_ | refine X.rc ?_ ?_ <;> intro hc <;> try omega)
 refine K.l_callV (Fx.cal rfl) rfl (R_Left h s ok rem hr) (K.pp [0] rfl) rfl rfl ?_
 (repeat' first | refine X.rq ?_ | refine X.rc ?_ ?_ <;> intro hc <;> try omega)
 ·have hne : rem ≠ [] := by intro e; subst e; simp at hc
  refine K.l_call (Fx.cal rfl) rfl (R_fault h s ok rem hr) (K.pp [0] rfl) rfl ?_
  rintro v h' H' - ⟨rfl, -, s', hs, hr', rfl⟩
  (repeat' first | refine X.rq ?_ | refine X.rc ?_ ?_ <;> intro hc <;> try omega)
  refine K.l_callV (vals := [rv s']) (Fx.cal rfl) (by rw [same_val hs]; rfl) (R_Err h s' false rem hr') (K.pp [0] rfl) rfl rfl ?_
  (repeat' first | refine X.rq ?_ | refine X.rc ?_ ?_ <;> intro hc <;> try omega)
  simp only [hne, decide_false, Bool.and_false]
  refine K.done (by first | exact Or.inl rfl | exact Or.inr rfl) rfl (by first | exact K.Base.le.refl _ | assumption) (H' := [rA s']) rfl ⟨rfl, rfl, s', hs, hr', rfl⟩
 ·have hne : rem = [] := by
   cases rem with
   | nil => rfl
   | cons a b => simp at hc
  refine K.l_callV (Fx.cal rfl) rfl (R_Err h s ok rem hr) (K.pp [0] rfl) rfl rfl ?_
  (repeat' first | refine X.rq ?_ | refine X.rc ?_ ?_ <;> intro hc <;> try omega)
  simp only [hne, decide_true, Bool.and_true]
  rw [hne] at hr
  refine K.done (by first | exact Or.inl rfl | exact Or.inr rfl) rfl (by first | exact K.Base.le.refl _ | assumption) (H' := [rA s]) rfl ⟨rfl, rfl, s, same_refl s, hr, rfl⟩

theorem R_take_no (h : Base) (s : Option RS) (ok : Bool) (rem : List UInt8) (m : Int) (hr : Rd h s ok rem) (hl : rem.length ≤ big) (hm1 : -9223372036854775808 ≤ m) (hm2 : m ≤ 9223372036854775807) (hno : ok = false ∨ m < 0 ∨ (rem.length : Int) < m) :
  Tr Tryz.prog 94 [rv s, .int .i64 m] h [rA s] (RPost h s false rem (· = .tuple #[.slice none 0 0, .bool false])) := by
 unfold big at hl
 cases ok with
 | false =>
  refine K.enter Tryz.func94 rfl (Nat.le_of_ble_eq_true rfl) (fun F => ?_)
  (repeat' first | refine X.rq ?_ | refine X.rc ?_ ?_ <;> intro hc <;> try omega)
  refine K.l_callV (Fx.cal rfl) rfl (R_Err h s false rem hr) (K.pp [0] rfl) rfl rfl ?_
  simp only [errV, Bool.false_eq_true, ↓reduceIte]
  (repeat' first | refine X.rq ?_ | refine X.rc ?_ ?_ <;> intro hc <;> try omega)
  refine K.l_call (Fx.cal rfl) rfl (R_fault h s false rem hr) (K.pp [0] rfl) rfl ?_
  rintro v h' H' - ⟨rfl, -, s', hs, hr', rfl⟩
  (repeat' first | refine X.rq ?_ | refine X.rc ?_ ?_ <;> intro hc <;> try omega)
  refine K.done (by first | exact Or.inl rfl | exact Or.inr rfl) rfl (by first | exact K.Base.le.refl _ | assumption) (H' := [rA s']) rfl ⟨rfl, rfl, s', hs, hr', rfl⟩
 | true =>
  have hno' : m < 0 ∨ (rem.length : Int) < m := by simpa using hno
  clear hno
  match s, hr with
  | none, hr => exact absurd hr.1 (by simp)
  | some ⟨p, made, sv, bad⟩, hr =>
   obtain ⟨ao, c, hsv⟩ := hr.2.len
   simp only at hsv
   subst hsv
   refine K.enter Tryz.func94 rfl (Nat.le_of_ble_eq_true rfl) (fun F => ?_)
   (repeat' first | refine X.rq ?_ | refine X.rc ?_ ?_ <;> intro hc <;> try omega)
   refine K.l_callV (Fx.cal rfl) rfl (R_Err h (some ⟨p, made, .slice ao rem.length c, bad⟩) true rem hr) (K.pp [0] rfl) rfl rfl ?_
   simp only [errV, ↓reduceIte, rA, rv, List.cons_append, List.nil_append]
   (repeat' first | refine X.rq ?_ | refine X.rc ?_ ?_ <;> intro hc <;> try omega)
   all_goals
    refine K.l_call (Fx.cal rfl) rfl (R_fault h (some ⟨p, made, .slice ao rem.length c, bad⟩) true rem hr) (K.pp [0] rfl) rfl ?_
    rintro v h' H' - ⟨rfl, -, s', hs, hr', rfl⟩
    (repeat' first | refine X.rq ?_ | refine X.rc ?_ ?_ <;> intro hc <;> try omega)
    refine K.done (by first | exact Or.inl rfl | exact Or.inr rfl) rfl (by first | exact K.Base.le.refl _ | assumption) (H' := [rA s']) rfl ⟨rfl, rfl, s', hs, hr', rfl⟩

theorem R_take (h : Base) (s : Option RS) (rem : List UInt8) (m : Nat) (hr : Rd h s true rem) (hl : rem.length ≤ big) (hm : m ≤ rem.length) :
  Tr Tryz.prog 94 [rv s, .int .i64 m] h [rA s] (RPost h s true (rem.drop m) (fun v => ∃ v1, v = .tuple #[v1, .bool true] ∧ BV h v1 (rem.take m))) := by
 unfold big at hl
 match s, hr with
 | none, hr => exact absurd hr.1 (by simp)
 | some ⟨p, made, sv, bad⟩, hr =>
  have hb := hr.2
  simp only at hb
  obtain ⟨ao, c, hsv⟩ := hb.len
  refine K.enter Tryz.func94 rfl (Nat.le_of_ble_eq_true rfl) (fun F => ?_)
  (repeat' first | refine X.rq ?_ | refine X.rc ?_ ?_ <;> intro hc <;> try omega)
  refine K.l_callV (Fx.cal rfl) rfl (R_Err h (some ⟨p, made, sv, bad⟩) true rem hr) (K.pp [0] rfl) rfl rfl ?_
  simp only [errV, ↓reduceIte, rA, rv, List.cons_append, List.nil_append]
  (repeat' first | refine X.rq ?_ | refine X.rc ?_ ?_ <;> intro hc <;> try omega)
  all_goals
   refine K.s_pure (K.p_lenB hb (Fx.und rfl) rfl) rfl ?_
   (repeat' first | refine X.rq ?_ | refine X.rc ?_ ?_ <;> intro hc <;> try omega)
   refine K.s_pureE (K.p_sliceB (k1 := .i64) (k2 := .i64) (p := 0) (q := m) hb (Fx.und rfl) (Fx.sz rfl) rfl rfl ⟨_, rfl, rfl⟩ (Nat.zero_le _) hm) rfl (fun v1 hv1 => ?_)
   (repeat' first | refine X.rq ?_ | refine X.rc ?_ ?_ <;> intro hc <;> try omega)
   refine K.s_pureE (K.p_sliceB (k1 := .i64) (k2 := .i64) (p := m) (q := rem.length) hb (Fx.und rfl) (Fx.sz rfl) rfl ⟨_, rfl, rfl⟩ rfl hm (Nat.le_refl _)) rfl (fun v2 hv2 => ?_)
   rw [List.take_of_length_le (Nat.le_refl _)] at hv2
   obtain ⟨ao2, c2, rfl⟩ := hv2.len
   (repeat' first | refine X.rq ?_ | refine X.rc ?_ ?_ <;> intro hc <;> try omega)
   refine X.sto ?_
   (repeat' first | refine X.rq ?_ | refine X.rc ?_ ?_ <;> intro hc <;> try omega)
   refine K.done (by first | exact Or.inl rfl | exact Or.inr rfl) rfl (by first | exact K.Base.le.refl _ | assumption) (H' := [rA (some ⟨p, made, .slice ao2 (rem.drop m).length c2, bad⟩)]) rfl ⟨rfl, ⟨v1, rfl, hv1⟩, some ⟨p, made, .slice ao2 (rem.drop m).length c2, bad⟩, rfl, ⟨hr.1, hv2⟩, rfl⟩
end Go.Proofs.YtmcdaegaopfihaaGreat.Cc
end
