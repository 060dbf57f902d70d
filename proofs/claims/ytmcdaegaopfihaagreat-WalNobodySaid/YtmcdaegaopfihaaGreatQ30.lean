/-
  Texts joined: Hi Hk Hl Rba Gd. Conditions: each theorem's own.
-/
import Derived.Test.YtmcdaegaopfihaaGreatQ29
import Derived.Test.YtmcdaegaopfihaaGreatQ26
import Derived.Test.YtmcdaegaopfihaaGreatQ7
import Derived.Test.YtmcdaegaopfihaaGreatQ21
import Derived.Test.YtmcdaegaopfihaaGreatQ19
section
namespace Go.Proofs.YtmcdaegaopfihaaGreat.Rc
open Go Go.K Go.Proofs Go.Proofs.YtmcdaegaopfihaaGreat Go.Proofs.YtmcdaegaopfihaaGreat.Pg Go.Proofs.YtmcdaegaopfihaaGreat.Ca
set_option linter.unusedVariables false
set_option linter.unusedSimpArgs false
set_option maxRecDepth 10000

theorem may_okR {r : Recd} (h : mayR r = true) : okR r ∧ (bodyN r).length + 2 ≤ 16384 := by
  unfold mayR at h
  rw [Bool.and_eq_true, decide_eq_true_eq, decide_eq_true_eq] at h
  exact h
theorem V_U16 (h : Base) (P : Nat) (a : Option Nat) (c : Nat) (l : List UInt8) (x : Nat) (hx : x < 65536) (hl : l.length ≤ 1000000000) :
    Tr Tryz.prog 59 [wp P, .int .u16 x] h [wA (some (P, some (a, c, l)))] (fun u h' H' => Wr P (l ++ lebs x 2) u h h' H') := fun F w ok =>
  Calls.mono (W_U16 h (some (P, some (a, c, l))) x hx (by simp only [wb, big]; omega) F w ok) fun e w' ⟨u, he, h1, H1, hle, ⟨q1, q2, s', q3, q4⟩, ok1⟩ => by
    obtain ⟨a', c', rfl⟩ := wadd_some q3
    exact ⟨u, he, h1, H1, hle, ⟨q2.symm, q1, a', c', q4⟩, ok1⟩
theorem RecSize (h : Base) (cs : List Value) (r : Recd) (hx : RecC h cs r) (hs : smallR r) : TrV Tryz.prog 57 [.agg cs.toArray] h [] (.int .i64 (sizeR r)) [] := by
  have hmay := RecMay h cs r hx hs
  have hbody := PBody h cs r hx
  obtain ⟨hw, ad, ai, al, ay, cd, ci, cl, cy, rfl, _⟩ := hx.cells
  refine K.enter Tryz.func57 rfl (Nat.le_of_ble_eq_true rfl) (fun F => ?_)
  simp only [List.nil_append]
  (repeat' (first | refine X.rq ?_ | (refine X.rc ?_ ?_ <;> intro hc <;> first | (exfalso; omega) | skip)))
  refine K.l_box rfl rfl rfl (fun B1 => ?_)
  (repeat' (first | refine X.rq ?_ | (refine X.rc ?_ ?_ <;> intro hc <;> first | (exfalso; omega) | skip)))
  refine K.l_callV (Fx.cal rfl) rfl hmay (K.pp [] rfl) rfl rfl ?_
  simp only [List.nil_append]
  cases hm : mayR r with
  | false =>
    (repeat' (first | refine X.rq ?_ | (refine X.rc ?_ ?_ <;> intro hc <;> first | (exfalso; omega) | skip)))
    refine K.AT.drop ?_
    refine K.done (by first | exact Or.inl rfl | exact Or.inr rfl) rfl (by first | exact K.Base.le.refl _ | assumption) (H' := []) rfl ⟨?_, rfl, rfl⟩
    unfold sizeR
    rw [hm]
    rfl
  | true =>
    obtain ⟨hok, hl⟩ := may_okR hm
    have hbody := hbody hok hs
    (repeat' (first | refine X.rq ?_ | (refine X.rc ?_ ?_ <;> intro hc <;> first | (exfalso; omega) | skip)))
    refine K.l_call (Fx.cal rfl) rfl hbody (K.pp [] rfl) rfl ?_
    rintro u h' H' - ⟨e, a9, c9, rfl, rfl⟩
    obtain rfl := e.symm
    simp only [List.cons_append, List.nil_append]
    (repeat' (first | refine X.rq ?_ | (refine X.rc ?_ ?_ <;> intro hc <;> first | (exfalso; omega) | skip)))
    refine K.AT.sel [0, 0] rfl ?_
    refine K.done (by first | exact Or.inl rfl | exact Or.inr rfl) rfl (by first | exact K.Base.le.refl _ | assumption) (H' := []) rfl ⟨?_, rfl, rfl⟩
    unfold sizeR
    rw [hm]
    rfl
set_option maxHeartbeats 1000000 in
theorem RecEncode (h : Base) (cs : List Value) (r : Recd) (hx : RecC h cs r) (hs : smallR r) :
    Tr Tryz.prog 33 [.agg cs.toArray] h [] (fun u h' H' => h' = h ∧ ∃ a cap, u = .tuple #[bufV a (encR r).1.length cap, .int .i64 (encR r).2] ∧ H' = [bufA 5 1 a (encR r).1.length cap ((encR r).1.map u8)]) := by
  have hsize := RecSize h cs r hx hs
  have hbody := PBody h cs r hx
  obtain ⟨hw, ad, ai, al, ay, cd, ci, cl, cy, rfl, _⟩ := hx.cells
  refine K.enter Tryz.func33 rfl (Nat.le_of_ble_eq_true rfl) (fun F => ?_)
  simp only [List.nil_append]
  cases hm : mayR r with
  | false =>
    rw [show sizeR r = 0 by unfold sizeR; rw [hm]; rfl] at hsize
    rw [show encR r = ([], 5) by unfold encR; rw [hm]; rfl]
    (repeat' (first | refine X.rq ?_ | (refine X.rc ?_ ?_ <;> intro hc <;> first | (exfalso; omega) | skip)))
    refine K.l_box rfl rfl rfl (fun B1 => ?_)
    (repeat' (first | refine X.rq ?_ | (refine X.rc ?_ ?_ <;> intro hc <;> first | (exfalso; omega) | skip)))
    refine K.l_callV (Fx.cal rfl) rfl hsize (K.pp [] rfl) rfl rfl ?_
    simp only [List.nil_append]
    (repeat' (first | refine X.rq ?_ | (refine X.rc ?_ ?_ <;> intro hc <;> first | (exfalso; omega) | skip)))
    refine K.AT.drop ?_
    refine K.AT.nilBuf 5 1 ?_
    refine K.done (by first | exact Or.inl rfl | exact Or.inr rfl) rfl (by first | exact K.Base.le.refl _ | assumption) (H' := [bufA 5 1 none 0 0 []]) rfl ⟨rfl, none, 0, rfl, rfl⟩
  | true =>
    obtain ⟨hok, hl⟩ := may_okR hm
    have hbody := hbody hok hs
    rw [show sizeR r = (bodyN r).length + 2 by unfold sizeR; rw [hm]; rfl] at hsize
    rw [show encR r = (encN r, 0) by unfold encR; rw [hm]; rfl]
    obtain ⟨n, hn⟩ : ∃ n, n = (bodyN r).length + 2 := ⟨_, rfl⟩
    rw [← hn] at hsize hl
    have henc : encN r = lebs n 2 ++ bodyN r := by unfold encN; rw [hn]
    (repeat' (first | refine X.rq ?_ | (refine X.rc ?_ ?_ <;> intro hc <;> first | (exfalso; omega) | skip)))
    refine K.l_box rfl rfl rfl (fun B1 => ?_)
    (repeat' (first | refine X.rq ?_ | (refine X.rc ?_ ?_ <;> intro hc <;> first | (exfalso; omega) | skip)))
    refine K.l_callV (Fx.cal rfl) rfl hsize (K.pp [] rfl) rfl rfl ?_
    simp only [List.nil_append]
    (repeat' (first | refine X.rq ?_ | (refine X.rc ?_ ?_ <;> intro hc <;> first | (exfalso; omega) | skip)))
    refine K.l_call (Fx.cal rfl) rfl (NewWriter h) (K.pp [] rfl) rfl ?_
    rintro u h' H' - ⟨rfl, P, rfl, rfl⟩
    simp only [List.set_cons_zero, List.set_cons_succ, List.eraseIdx_cons_zero, List.eraseIdx_cons_succ, List.cons_append, List.nil_append]
    (repeat' (first | refine X.rq ?_ | (refine X.rc ?_ ?_ <;> intro hc <;> first | (exfalso; omega) | skip)))
    refine K.l_call (Fx.cal rfl) rfl (V_U16 h P none 0 [] n (by omega) (by decide)) (K.pp [0] rfl) rfl ?_
    rintro u h' H' - ⟨e, rfl, a1, c1, rfl⟩
    obtain rfl := e.symm
    simp only [List.set_cons_zero, List.set_cons_succ, List.eraseIdx_cons_zero, List.eraseIdx_cons_succ, List.cons_append, List.nil_append]
    have hll : (lebs n 2).length = 2 := lebs_length 2 n
    (repeat' (first | refine X.rq ?_ | (refine X.rc ?_ ?_ <;> intro hc <;> first | (exfalso; omega) | skip)))
    refine K.l_call (Fx.cal rfl) rfl hbody (K.pp [] rfl) rfl ?_
    rintro u h' H' - ⟨e, a9, c9, rfl, rfl⟩
    obtain rfl := e.symm
    simp only [List.cons_append, List.nil_append]
    refine K.l_call (Fx.cal rfl) rfl (W_Raw h (some (P, some (a1, c1, lebs n 2))) a9 c9 (bodyN r) (by simp only [wb, big]; omega)) (K.pp [1, 0] rfl) rfl ?_
    rintro u h' H' - ⟨rfl, rfl, s2, hs2, rfl⟩
    obtain ⟨a2, c2, rfl⟩ := wadd_some hs2
    rw [← henc]
    have hel : (encN r).length ≤ 20000 := by rw [henc, List.length_append]; omega
    simp only [List.cons_append, List.nil_append]
    (repeat' (first | refine X.rq ?_ | (refine X.rc ?_ ?_ <;> intro hc <;> first | (exfalso; omega) | skip)))
    refine K.l_call (Fx.cal rfl) rfl (W_Bytes h (some (P, some (a2, c2, encN r))) (by simp only [wb, big]; omega)) (K.pp [0] rfl) rfl ?_
    rintro v h' H' - ⟨rfl, a10, c10, rfl, rfl⟩
    simp only [List.set_cons_zero, List.set_cons_succ, List.eraseIdx_cons_zero, List.eraseIdx_cons_succ, List.cons_append, List.nil_append]
    (repeat' (first | refine X.rq ?_ | (refine X.rc ?_ ?_ <;> intro hc <;> first | (exfalso; omega) | skip)))
    refine K.AT.sel [1, 1, 1] rfl ?_
    refine K.done (by first | exact Or.inl rfl | exact Or.inr rfl) rfl (by first | exact K.Base.le.refl _ | assumption) (H' := [bufA 5 1 a10 (encN r).length c10 ((encN r).map u8)]) rfl ⟨rfl, a10, c10, rfl, rfl⟩
end Go.Proofs.YtmcdaegaopfihaaGreat.Rc
end

section
namespace Go.Proofs.YtmcdaegaopfihaaGreat.Rc
open Go Go.K Go.Proofs Go.Proofs.YtmcdaegaopfihaaGreat Go.Proofs.YtmcdaegaopfihaaGreat.Pg Go.Proofs.YtmcdaegaopfihaaGreat.Ca Go.Proofs.YtmcdaegaopfihaaGreat.Ra
set_option linter.unusedVariables false
set_option linter.unusedSimpArgs false
set_option maxRecDepth 10000

end Go.Proofs.YtmcdaegaopfihaaGreat.Rc
end

section
namespace Go.Proofs.YtmcdaegaopfihaaGreat.Rc
open Go Go.K Go.Proofs Go.Proofs.YtmcdaegaopfihaaGreat Go.Proofs.YtmcdaegaopfihaaGreat.Pg Go.Proofs.YtmcdaegaopfihaaGreat.Ca Go.Proofs.YtmcdaegaopfihaaGreat.Ra
set_option linter.unusedVariables false
set_option linter.unusedSimpArgs false
set_option maxRecDepth 10000

end Go.Proofs.YtmcdaegaopfihaaGreat.Rc
end

section
namespace Go.Proofs.YtmcdaegaopfihaaGreat.Rb
open Go Go.K Go.Proofs Go.Proofs.YtmcdaegaopfihaaGreat Go.Proofs.YtmcdaegaopfihaaGreat.Cc
set_option linter.unusedVariables false
set_option linter.unusedSimpArgs false
set_option maxRecDepth 10000

def qv (p : Nat) : Value := .pointer (some ⟨p, 0, none⟩)
def frontV (o : Option (Nat × Nat)) : Value := match o with
  | some (x, m) => .tuple #[.int .u64 x, .int .i64 m]
  | none => .tuple #[.int .u64 0, .int .i64 0]

theorem Tr.mono {P : Program} {f : FuncId} {args : List Value} {h : Base} {Pre : List Asrt} {Post Post' : Value → Base → List Asrt → Prop} (ht : Tr P f args h Pre Post)
    (hk : ∀ v h' H', h.le h' → Post v h' H' → ∀ F w, Ok h' (H' ++ F) w → ∃ H'', Post' v h' H'' ∧ Ok h' (H'' ++ F) w) : Tr P f args h Pre Post' :=
  fun F w ok => Calls.mono (ht F w ok) fun e w' ⟨v, he, h', H', hle, hp, ok'⟩ => by
    obtain ⟨H'', hp', ok''⟩ := hk v h' H' hle hp F w' ok'
    exact ⟨v, he, h', H'', hle, hp', ok''⟩

def tk (ok : Bool) (rem : List UInt8) (m : Int) : List UInt8 := if ok = true ∧ 0 ≤ m ∧ m ≤ rem.length then rem.take m.toNat else []
def tkOk (ok : Bool) (rem : List UInt8) (m : Int) : Bool := ok && decide (0 ≤ m ∧ m ≤ rem.length)
def tkRem (ok : Bool) (rem : List UInt8) (m : Int) : List UInt8 := if ok = true ∧ 0 ≤ m ∧ m ≤ rem.length then rem.drop m.toNat else rem

theorem R_Raw' (h : Base) (s : Option RS) (ok : Bool) (rem : List UInt8) (m : Int) (hr : Rd h s ok rem) (hl : rem.length ≤ big) (hm1 : -9223372036854775808 ≤ m) (hm2 : m ≤ 9223372036854775807) :
    Tr Tryz.prog 71 [rv s, .int .i64 m] h [rA s] (fun v h' H' => h = h' ∧ ∃ a cap s', v = bufV a (tk ok rem m).length cap ∧ same s s' ∧ Rd h s' (tkOk ok rem m) (tkRem ok rem m) ∧
      H' = [bufA 5 1 a (tk ok rem m).length cap ((tk ok rem m).map u8), rA s']) := R_Raw h s ok rem m hr hl hm1 hm2
end Go.Proofs.YtmcdaegaopfihaaGreat.Rb
end

section
namespace Go.Proofs.YtmcdaegaopfihaaGreat.Pg
open Go Go.K Go.Proofs Go.Proofs.YtmcdaegaopfihaaGreat Go.Proofs.YtmcdaegaopfihaaGreat.Cc Go.Proofs.YtmcdaegaopfihaaGreat.Rb
set_option linter.unusedVariables false
set_option linter.unusedSimpArgs false
set_option maxRecDepth 10000

def zPd : Pag := ⟨0, 0, 0, []⟩
abbrev Rt := Bool × List UInt8
def num (m : Nat) (r : Rt) : Nat := getN r.1 m r.2
def nxt (m : Nat) (r : Rt) : Rt := (getOk r.1 m r.2, getRem r.1 m r.2)
def cellQ (r : Rt) : PCell × Rt := if num 2 r = 0 then (⟨false, 0, []⟩, nxt 2 r) else
  (⟨true, num 4 (nxt 2 r), tk (nxt 4 (nxt 2 r)).1 (nxt 4 (nxt 2 r)).2 (num 2 r : Nat)⟩, (tkOk (nxt 4 (nxt 2 r)).1 (nxt 4 (nxt 2 r)).2 (num 2 r : Nat), tkRem (nxt 4 (nxt 2 r)).1 (nxt 4 (nxt 2 r)).2 (num 2 r : Nat)))
def cellsR : Nat → Rt → List PCell × Rt
  | 0, r => ([], r)
  | n + 1, r => if r.1 = true then ((cellQ r).1 :: (cellsR n (cellQ r).2).1, (cellsR n (cellQ r).2).2) else ([], r)
def readQ (r : Rt) : Pag × Rt :=
  (⟨(num 1 r : Nat), num 8 (nxt 1 (nxt 1 r)), num 4 (nxt 8 (nxt 1 (nxt 1 r))), (cellsR (num 1 (nxt 1 r)) (nxt 4 (nxt 8 (nxt 1 (nxt 1 r))))).1⟩, (cellsR (num 1 (nxt 1 r)) (nxt 4 (nxt 8 (nxt 1 (nxt 1 r))))).2)

theorem num_lt (m : Nat) (r : Rt) : num m r < 256 ^ m := by
  unfold num getN
  split
  · rename_i h
    have := leNum_lt (r.2.take m)
    rwa [show (r.2.take m).length = m by simp; omega] at this
  · exact Nat.pow_pos (by decide)
theorem nxt_app {m x : Nat} {rest : List UInt8} (h : x < 256 ^ m) : num m (true, lebs x m ++ rest) = x ∧ nxt m (true, lebs x m ++ rest) = (true, rest) := by
  have hl := lebs_length m x
  have h1 : (lebs x m ++ rest).take m = lebs x m := by rw [List.take_append_of_le_length (by omega), List.take_of_length_le (by omega)]
  have h2 : (lebs x m ++ rest).drop m = rest := by rw [List.drop_append_of_le_length (by omega), List.drop_of_length_le (by omega), List.nil_append]
  have h3 : m ≤ (lebs x m ++ rest).length := by rw [List.length_append]; omega
  refine ⟨?_, ?_⟩
  · simp only [num, getN, true_and, if_pos h3, h1]
    exact leNum_lebs m x h
  · simp only [nxt, getOk, getRem, true_and, if_pos h3, h2, Bool.true_and, decide_eq_true h3]
def decP (b : List UInt8) : Prop := b.length = 512 ∧ (readQ (nxt 4 (true, b))).2.1 = true ∧ num 4 (true, b) = sumQ 0 (b.drop 4) ∧ mayQ (readQ (nxt 4 (true, b))).1 = true ∧ ∀ c ∈ (readQ (nxt 4 (true, b))).2.2, c = 0
instance (b : List UInt8) : Decidable (decP b) := by unfold decP; infer_instance
def decQ (b : List UInt8) : Pag × Int := if decP b then ((readQ (nxt 4 (true, b))).1, 0) else (zPd, 5)
def rdecP (b : List UInt8) : Prop := b.length = 512 ∧ (readQ (true, b.drop 4)).2.1 = true ∧ (encQ (readQ (true, b.drop 4)).1).1 = b
instance (b : List UInt8) : Decidable (rdecP b) := by unfold rdecP; infer_instance
def rdecQ (b : List UInt8) : Pag × Bool := if rdecP b then ((readQ (true, b.drop 4)).1, true) else (zPd, false)
end Go.Proofs.YtmcdaegaopfihaaGreat.Pg
end
