/-
  Numbers of a record read, by the document. Conditions: each theorem's own.
-/
import Derived.Test.YtihambjhlhgaeaaHm

namespace Go.Proofs.Ytihambjhlhgaeaa.Rc
open Go Go.K Go.Proofs Go.Proofs.Ytihambjhlhgaeaa Go.Proofs.Ytihambjhlhgaeaa.Pg Go.Proofs.Ytihambjhlhgaeaa.Cc Go.Proofs.Ytihambjhlhgaeaa.Rb
set_option linter.unusedVariables false
set_option linter.unusedSimpArgs false
set_option maxRecDepth 10000

theorem M_Uint (h : Base) (p : Nat) (sv : Value) (ok : Bool) (rem : List UInt8) (hb : BV h sv rem) (hl : rem.length ≤ big) :
    Tr Try.prog 79 [rp p] h [qA p sv (!ok)] (fun u h' H' => h' = h ∧ ∃ x sv' ok' rem', u = .int .u64 (x : Nat) ∧ x < 18446744073709551616 ∧ BV h sv' rem' ∧ H' = [qA p sv' (!ok')] ∧ Fw (fun n => n < 18446744073709551616) cu ok rem x ok' rem') := fun F w okk =>
  Calls.mono (Q_Uint h p sv ok rem hb hl F w okk) fun e w' ⟨u, he, h1, H1, hle, ⟨q1, q2, sv', q3, q4⟩, ok1⟩ => by
    refine ⟨u, he, h1, H1, hle, ⟨q1.symm, _, sv', _, _, q2, ?_, q3, q4, fw_uint ok rem⟩, ok1⟩
    cases ho : found ok rem with
    | none => show 0 < _; decide
    | some xm => exact (found_le ho).2.2.2.2
theorem M_U8 (h : Base) (p : Nat) (sv : Value) (ok : Bool) (rem : List UInt8) (hb : BV h sv rem) (hl : rem.length ≤ big) :
    Tr Try.prog 77 [rp p, .int .i64 1] h [qA p sv (!ok)] (fun u h' H' => h' = h ∧ ∃ x sv' ok' rem', u = .int .u64 (x : Nat) ∧ x < 256 ∧ BV h sv' rem' ∧ H' = [qA p sv' (!ok')] ∧ Fw (fun n => n < 256) (fun n => lebs n 1) ok rem x ok' rem') := fun F w okk =>
  Calls.mono (Q_Fixed h p sv ok rem 1 hb hl (by decide) F w okk) fun e w' ⟨u, he, h1, H1, hle, ⟨q1, q2, sv', q3, q4⟩, ok1⟩ =>
    ⟨u, he, h1, H1, hle, ⟨q1.symm, _, sv', _, _, q2, num_lt 1 (ok, rem), q3, q4, fw_fixed 1 ok rem⟩, ok1⟩
theorem M_Take (h : Base) (p : Nat) (sv : Value) (ok : Bool) (rem : List UInt8) (m : Nat) (hb : BV h sv rem) (hl : rem.length ≤ big) (hm : m ≤ 1000000) :
    Tr Try.prog 78 [rp p, .int .i64 m] h [qA p sv (!ok)] (fun u h' H' => h' = h ∧ ∃ (d : List UInt8) (a : Option Nat) (c : Nat) (sv' : Value) (ok' : Bool) (rem' : List UInt8), u = bufV a d.length c ∧ d.length ≤ m ∧ BV h sv' rem' ∧ H' = [bufA 5 1 a d.length c (d.map u8), qA p sv' (!ok')] ∧ Fw (fun n => n.length = m) (fun n => n) ok rem d ok' rem') := fun F w okk =>
  Calls.mono (Q_Take h p sv ok rem m hb hl (by omega) (by omega) F w okk) fun e w' ⟨u, he, h1, H1, hle, ⟨q1, a, c, sv', q2, q3, q4⟩, ok1⟩ => by
    refine ⟨u, he, h1, H1, hle, ⟨q1.symm, _, a, c, sv', _, _, q2, ?_, q3, q4, ?_, fun n rest hn hok hr2 => ?_⟩, ok1⟩
    · unfold tk
      split
      · rw [List.length_take]; omega
      · exact Nat.zero_le _
    · unfold tkRem
      split
      · rw [List.length_drop]; omega
      · exact Nat.le_refl _
    · subst hok hr2 hn
      have hc : true = true ∧ (0 : Int) ≤ (n.length : Nat) ∧ ((n.length : Nat) : Int) ≤ (n ++ rest).length := ⟨rfl, by omega, by rw [List.length_append]; omega⟩
      refine ⟨?_, ?_, ?_⟩
      · unfold tk
        rw [if_pos hc, Int.toNat_natCast, List.take_append_of_le_length (Nat.le_refl _), List.take_length]
      · unfold tkOk
        rw [decide_eq_true hc.2]; rfl
      · unfold tkRem
        rw [if_pos hc, Int.toNat_natCast, List.drop_append_of_le_length (Nat.le_refl _), List.drop_length, List.nil_append]
theorem M_Text (h : Base) (p : Nat) (sv : Value) (ok : Bool) (rem : List UInt8) (m : Nat) (hb : BV h sv rem) (hl : rem.length ≤ big) (hm : m ≤ 1000000) :
    Tr Try.prog 80 [rp p, .int .i64 m] h [qA p sv (!ok)] (fun u h' H' => h' = h ∧ ∃ (d : List UInt8) (sv' : Value) (ok' : Bool) (rem' : List UInt8), u = .string ⟨d.toArray⟩ ∧ d.length ≤ m ∧ BV h sv' rem' ∧ H' = [qA p sv' (!ok')] ∧ Fw (fun n => n.length ≤ m) (fun n => cu n.length ++ n) ok rem d ok' rem') := fun F w okk =>
  Calls.mono (Q_Text h p sv ok rem m hb hl (by omega) (by omega) F w okk) fun e w' ⟨u, he, h1, H1, hle, ⟨q1, q2, sv', q3, q4⟩, ok1⟩ => by
    refine ⟨u, he, h1, H1, hle, ⟨q1.symm, _, sv', _, _, q2, ?_, q3, q4, fw_text m hm ok rem⟩, ok1⟩
    unfold txt
    split
    · split
      · show (((_ : List UInt8).drop _).take _).length ≤ _
        rw [List.length_take]; omega
      · exact Nat.zero_le _
    · exact Nat.zero_le _
theorem M_End (h : Base) (p : Nat) (sv : Value) (ok : Bool) (rem : List UInt8) (hb : BV h sv rem) (hl : rem.length ≤ big) :
    Tr Try.prog 50 [rp p] h [qA p sv (!ok)] (fun u h' H' => h' = h ∧ ∃ A, u = errV (ok && decide (rem = [])) ∧ H' = [A]) := fun F w okk =>
  Calls.mono (Q_End h p sv ok rem hb hl F w okk) fun e w' ⟨u, he, h1, H1, hle, ⟨q1, q2, sv', q3, q4⟩, ok1⟩ => ⟨u, he, h1, H1, hle, ⟨q1.symm, _, q2, q4⟩, ok1⟩
theorem M_narrow (h : Base) (p : Nat) (sv : Value) (ok : Bool) (rem : List UInt8) (hb : BV h sv rem) (hl : rem.length ≤ big) :
    Tr Try.prog 76 [rp p] h [qA p sv (!ok)] (fun u h' H' => h' = h ∧ ∃ x sv' ok' rem', u = .int .u32 (x : Nat) ∧ x < 4294967296 ∧ BV h sv' rem' ∧ H' = [qA p sv' (!ok')] ∧ Fw (fun n => n < 4294967296) cu ok rem x ok' rem') := by
  refine K.enter Try.func76 rfl (Nat.le_of_ble_eq_true rfl) (fun F => ?_)
  simp only [List.cons_append, List.nil_append]
  (repeat' (first | refine X.rq ?_ | (refine X.rc ?_ ?_ <;> intro hc <;> first | (exfalso; omega) | skip)))
  refine K.l_call (Fx.cal rfl) rfl (M_Uint h p sv ok rem hb hl) (K.pp [0] rfl) rfl ?_
  rintro u h' H' - ⟨e, x, sv1, ok1, rem1, rfl, hx, hb1, rfl, hf⟩
  obtain rfl := e.symm
  simp only [List.cons_append, List.nil_append]
  by_cases hx32 : x < 4294967296
  · (repeat' (first | refine X.rq ?_ | (refine X.rc ?_ ?_ <;> intro hc <;> first | (exfalso; omega) | skip)))
    refine K.done (by first | exact Or.inl rfl | exact Or.inr rfl) rfl (by first | exact K.Base.le.refl _ | assumption) (H' := [qA p sv1 (!ok1)]) rfl ⟨rfl, x, sv1, ok1, rem1, ?_, hx32, hb1, rfl, hf.1, fun n rest hn hok he => hf.2 n rest (show n < 18446744073709551616 by omega) hok he⟩
    first | rfl | exact congrArg (Value.int .u32) ((wr32 x).trans (by omega))
  · (repeat' (first | refine X.rq ?_ | (refine X.rc ?_ ?_ <;> intro hc <;> first | (exfalso; omega) | skip)))
    skip
    refine X.sto ?_
    simp only [List.set_cons_zero, List.set_cons_succ, List.eraseIdx_cons_zero, List.eraseIdx_cons_succ, List.cons_append, List.nil_append]
    (repeat' (first | refine X.rq ?_ | (refine X.rc ?_ ?_ <;> intro hc <;> first | (exfalso; omega) | skip)))
    refine K.done (by first | exact Or.inl rfl | exact Or.inr rfl) rfl (by first | exact K.Base.le.refl _ | assumption) (H' := [qA p sv1 (!false)]) rfl ⟨rfl, x % 4294967296, sv1, false, rem1, ?_, Nat.mod_lt _ (by decide), hb1, rfl, hf.1, fun n rest hn hok he => ?_⟩
    · exact congrArg (Value.int .u32) (wr32 x)
    · have := (hf.2 n rest (show n < 18446744073709551616 by omega) hok he).1
      have hn : n < 4294967296 := hn
      omega
theorem M_many (h : Base) (p : Nat) (sv : Value) (ok : Bool) (rem : List UInt8) (hb : BV h sv rem) (hl : rem.length ≤ big) :
    Tr Try.prog 75 [rp p] h [qA p sv (!ok)] (fun u h' H' => h' = h ∧ ∃ x sv' ok' rem', u = .int .i64 (x : Nat) ∧ BV h sv' rem' ∧ H' = [qA p sv' (!ok')] ∧ FwC ok rem x ok' rem') := by
  have hl2 := hl
  unfold big at hl2
  refine K.enter Try.func75 rfl (Nat.le_of_ble_eq_true rfl) (fun F => ?_)
  simp only [List.cons_append, List.nil_append]
  (repeat' (first | refine X.rq ?_ | (refine X.rc ?_ ?_ <;> intro hc <;> first | (exfalso; omega) | skip)))
  refine K.l_call (Fx.cal rfl) rfl (M_Uint h p sv ok rem hb hl) (K.pp [0] rfl) rfl ?_
  rintro u h' H' - ⟨e, x, sv1, ok1, rem1, rfl, hx, hb1, rfl, hf⟩
  obtain rfl := e.symm
  simp only [List.cons_append, List.nil_append]
  have hl1 := hf.1
  obtain ⟨ao, ca, rfl⟩ := hb1.len
  by_cases hxr : x ≤ rem1.length
  · (repeat' (first | refine X.rq ?_ | (refine X.rc ?_ ?_ <;> intro hc <;> first | (exfalso; omega) | skip)))
    refine K.done (by first | exact Or.inl rfl | exact Or.inr rfl) rfl (by first | exact K.Base.le.refl _ | assumption) (H' := [qA p (.slice ao rem1.length ca) (!ok1)]) rfl ⟨rfl, x, _, ok1, rem1, rfl, hb1, rfl, ⟨hl1, hxr⟩, fun n rest hn hnr hok he => hf.2 n rest hn hok he⟩
  · (repeat' (first | refine X.rq ?_ | (refine X.rc ?_ ?_ <;> intro hc <;> first | (exfalso; omega) | skip)))
    refine X.sto ?_
    simp only [List.set_cons_zero, List.set_cons_succ, List.eraseIdx_cons_zero, List.eraseIdx_cons_succ, List.cons_append, List.nil_append]
    (repeat' (first | refine X.rq ?_ | (refine X.rc ?_ ?_ <;> intro hc <;> first | (exfalso; omega) | skip)))
    refine K.done (by first | exact Or.inl rfl | exact Or.inr rfl) rfl (by first | exact K.Base.le.refl _ | assumption) (H' := [qA p (.slice ao rem1.length ca) (!false)]) rfl ⟨rfl, 0, _, false, rem1, rfl, hb1, rfl, ⟨hl1, Nat.zero_le _⟩, fun n rest hn hnr hok he => ?_⟩
    obtain ⟨e1, e2, e3⟩ := hf.2 n rest hn hok he
    subst e1 e3
    exact absurd hnr hxr
end Go.Proofs.Ytihambjhlhgaeaa.Rc
