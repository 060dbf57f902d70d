/-
  A record's size, its bytes: the code. Conditions: each theorem's own.
-/
import Derived.Test.YtihambjhlhgaeaaHh

namespace Go.Proofs.Ytihambjhlhgaeaa.Rc
open Go Go.K Go.Proofs Go.Proofs.Ytihambjhlhgaeaa Go.Proofs.Ytihambjhlhgaeaa.Pg Go.Proofs.Ytihambjhlhgaeaa.Ca
set_option linter.unusedVariables false
set_option linter.unusedSimpArgs false
set_option maxRecDepth 10000

theorem may_okR {r : Recd} (h : mayR r = true) : okR r ∧ (bodyN r).length + 2 ≤ 16384 := by
  unfold mayR at h
  rw [Bool.and_eq_true, decide_eq_true_eq, decide_eq_true_eq] at h
  exact h
theorem V_U16 (h : Base) (P : Nat) (a : Option Nat) (c : Nat) (l : List UInt8) (x : Nat) (hx : x < 65536) (hl : l.length ≤ 1000000000) :
    Tr Try.prog 25 [wp P, .int .u16 x] h [wA (some (P, some (a, c, l)))] (fun u h' H' => Wr P (l ++ lebs x 2) u h h' H') := fun F w ok =>
  Calls.mono (W_U16 h (some (P, some (a, c, l))) x hx (by simp only [wb, big]; omega) F w ok) fun e w' ⟨u, he, h1, H1, hle, ⟨q1, q2, s', q3, q4⟩, ok1⟩ => by
    obtain ⟨a', c', rfl⟩ := wadd_some q3
    exact ⟨u, he, h1, H1, hle, ⟨q2.symm, q1, a', c', q4⟩, ok1⟩
theorem RecSize (h : Base) (cs : List Value) (r : Recd) (hx : RecC h cs r) (hs : smallR r) : TrV Try.prog 15 [.agg cs.toArray] h [] (.int .i64 (sizeR r)) [] := by
  have hmay := RecMay h cs r hx hs
  have hbody := PBody h cs r hx
  obtain ⟨hw, ad, ai, al, ay, cd, ci, cl, cy, rfl, _⟩ := hx.cells
  refine K.enter Try.func15 rfl (Nat.le_of_ble_eq_true rfl) (fun F => ?_)
  simp only [List.nil_append]
  (repeat' (first | refine X.rq ?_ | (refine X.rc ?_ ?_ <;> intro hc <;> first | (exfalso; omega) | skip)))
  refine K.l_box rfl rfl rfl (fun B1 => ?_)
  (repeat' (first | refine X.rq ?_ | (refine X.rc ?_ ?_ <;> intro hc <;> first | (exfalso; omega) | skip)))
  refine K.l_callV (Fx.cal rfl) rfl hmay (K.pp [] rfl) rfl rfl ?_
  simp only [List.nil_append]
  cases hm : mayR r with
  | false =>
    (repeat' (first | refine X.rq ?_ | (refine X.rc ?_ ?_ <;> intro hc <;> first | (exfalso; omega) | skip)))
    refine K.AT.drop ?_
    refine K.done (by first | exact Or.inl rfl | exact Or.inr rfl) rfl (by first | exact K.Base.le.refl _ | assumption) (H' := []) rfl ⟨?_, rfl, rfl⟩
    unfold sizeR
    rw [hm]
    rfl
  | true =>
    obtain ⟨hok, hl⟩ := may_okR hm
    have hbody := hbody hok hs
    (repeat' (first | refine X.rq ?_ | (refine X.rc ?_ ?_ <;> intro hc <;> first | (exfalso; omega) | skip)))
    refine K.l_call (Fx.cal rfl) rfl hbody (K.pp [] rfl) rfl ?_
    rintro u h' H' - ⟨e, a9, c9, rfl, rfl⟩
    obtain rfl := e.symm
    simp only [List.cons_append, List.nil_append]
    (repeat' (first | refine X.rq ?_ | (refine X.rc ?_ ?_ <;> intro hc <;> first | (exfalso; omega) | skip)))
    refine K.AT.sel [0, 0] rfl ?_
    refine K.done (by first | exact Or.inl rfl | exact Or.inr rfl) rfl (by first | exact K.Base.le.refl _ | assumption) (H' := []) rfl ⟨?_, rfl, rfl⟩
    unfold sizeR
    rw [hm]
    rfl
set_option maxHeartbeats 1000000 in
theorem RecEncode (h : Base) (cs : List Value) (r : Recd) (hx : RecC h cs r) (hs : smallR r) :
    Tr Try.prog 11 [.agg cs.toArray] h [] (fun u h' H' => h' = h ∧ ∃ a cap, u = .tuple #[bufV a (encR r).1.length cap, .int .i64 (encR r).2] ∧ H' = [bufA 5 1 a (encR r).1.length cap ((encR r).1.map u8)]) := by
  have hsize := RecSize h cs r hx hs
  have hbody := PBody h cs r hx
  obtain ⟨hw, ad, ai, al, ay, cd, ci, cl, cy, rfl, _⟩ := hx.cells
  refine K.enter Try.func11 rfl (Nat.le_of_ble_eq_true rfl) (fun F => ?_)
  simp only [List.nil_append]
  cases hm : mayR r with
  | false =>
    rw [show sizeR r = 0 by unfold sizeR; rw [hm]; rfl] at hsize
    rw [show encR r = ([], 5) by unfold encR; rw [hm]; rfl]
    (repeat' (first | refine X.rq ?_ | (refine X.rc ?_ ?_ <;> intro hc <;> first | (exfalso; omega) | skip)))
    refine K.l_box rfl rfl rfl (fun B1 => ?_)
    (repeat' (first | refine X.rq ?_ | (refine X.rc ?_ ?_ <;> intro hc <;> first | (exfalso; omega) | skip)))
    refine K.l_callV (Fx.cal rfl) rfl hsize (K.pp [] rfl) rfl rfl ?_
    simp only [List.nil_append]
    (repeat' (first | refine X.rq ?_ | (refine X.rc ?_ ?_ <;> intro hc <;> first | (exfalso; omega) | skip)))
    refine K.AT.drop ?_
    refine K.AT.nilBuf 5 1 ?_
    refine K.done (by first | exact Or.inl rfl | exact Or.inr rfl) rfl (by first | exact K.Base.le.refl _ | assumption) (H' := [bufA 5 1 none 0 0 []]) rfl ⟨rfl, none, 0, rfl, rfl⟩
  | true =>
    obtain ⟨hok, hl⟩ := may_okR hm
    have hbody := hbody hok hs
    rw [show sizeR r = (bodyN r).length + 2 by unfold sizeR; rw [hm]; rfl] at hsize
    rw [show encR r = (encN r, 0) by unfold encR; rw [hm]; rfl]
    obtain ⟨n, hn⟩ : ∃ n, n = (bodyN r).length + 2 := ⟨_, rfl⟩
    rw [← hn] at hsize hl
    have henc : encN r = lebs n 2 ++ bodyN r := by unfold encN; rw [hn]
    (repeat' (first | refine X.rq ?_ | (refine X.rc ?_ ?_ <;> intro hc <;> first | (exfalso; omega) | skip)))
    refine K.l_box rfl rfl rfl (fun B1 => ?_)
    (repeat' (first | refine X.rq ?_ | (refine X.rc ?_ ?_ <;> intro hc <;> first | (exfalso; omega) | skip)))
    refine K.l_callV (Fx.cal rfl) rfl hsize (K.pp [] rfl) rfl rfl ?_
    simp only [List.nil_append]
    (repeat' (first | refine X.rq ?_ | (refine X.rc ?_ ?_ <;> intro hc <;> first | (exfalso; omega) | skip)))
    refine K.l_call (Fx.cal rfl) rfl (NewWriter h) (K.pp [] rfl) rfl ?_
    rintro u h' H' - ⟨rfl, P, rfl, rfl⟩
    simp only [List.set_cons_zero, List.set_cons_succ, List.eraseIdx_cons_zero, List.eraseIdx_cons_succ, List.cons_append, List.nil_append]
    (repeat' (first | refine X.rq ?_ | (refine X.rc ?_ ?_ <;> intro hc <;> first | (exfalso; omega) | skip)))
    refine K.l_call (Fx.cal rfl) rfl (V_U16 h P none 0 [] n (by omega) (by decide)) (K.pp [0] rfl) rfl ?_
    rintro u h' H' - ⟨e, rfl, a1, c1, rfl⟩
    obtain rfl := e.symm
    simp only [List.set_cons_zero, List.set_cons_succ, List.eraseIdx_cons_zero, List.eraseIdx_cons_succ, List.cons_append, List.nil_append]
    have hll : (lebs n 2).length = 2 := lebs_length 2 n
    (repeat' (first | refine X.rq ?_ | (refine X.rc ?_ ?_ <;> intro hc <;> first | (exfalso; omega) | skip)))
    refine K.l_call (Fx.cal rfl) rfl hbody (K.pp [] rfl) rfl ?_
    rintro u h' H' - ⟨e, a9, c9, rfl, rfl⟩
    obtain rfl := e.symm
    simp only [List.cons_append, List.nil_append]
    refine K.l_call (Fx.cal rfl) rfl (W_Raw h (some (P, some (a1, c1, lebs n 2))) a9 c9 (bodyN r) (by simp only [wb, big]; omega)) (K.pp [1, 0] rfl) rfl ?_
    rintro u h' H' - ⟨rfl, rfl, s2, hs2, rfl⟩
    obtain ⟨a2, c2, rfl⟩ := wadd_some hs2
    rw [← henc]
    have hel : (encN r).length ≤ 20000 := by rw [henc, List.length_append]; omega
    simp only [List.cons_append, List.nil_append]
    (repeat' (first | refine X.rq ?_ | (refine X.rc ?_ ?_ <;> intro hc <;> first | (exfalso; omega) | skip)))
    refine K.l_call (Fx.cal rfl) rfl (W_Bytes h (some (P, some (a2, c2, encN r))) (by simp only [wb, big]; omega)) (K.pp [0] rfl) rfl ?_
    rintro v h' H' - ⟨rfl, a10, c10, rfl, rfl⟩
    simp only [List.set_cons_zero, List.set_cons_succ, List.eraseIdx_cons_zero, List.eraseIdx_cons_succ, List.cons_append, List.nil_append]
    (repeat' (first | refine X.rq ?_ | (refine X.rc ?_ ?_ <;> intro hc <;> first | (exfalso; omega) | skip)))
    refine K.AT.sel [1, 1, 1] rfl ?_
    refine K.done (by first | exact Or.inl rfl | exact Or.inr rfl) rfl (by first | exact K.Base.le.refl _ | assumption) (H' := [bufA 5 1 a10 (encN r).length c10 ((encN r).map u8)]) rfl ⟨rfl, a10, c10, rfl, rfl⟩
end Go.Proofs.Ytihambjhlhgaeaa.Rc
