/-
  The walks of layer 2's statements: again. Conditions: each theorem's own.
-/
import Derived.Test.YtgglpkboijjoiaaLb
import Derived.Test.YtgglpkboijjoiaaRb

namespace Go.Proofs.Ytgglpkboijjoiaa.La
open Go Go.K Go.Proofs Go.Proofs.Ytgglpkboijjoiaa Go.Proofs.Ytgglpkboijjoiaa.Cc Go.Proofs.Ytgglpkboijjoiaa.Rb
set_option linter.unusedVariables false
set_option linter.unusedSimpArgs false
set_option maxRecDepth 10000

/-- What an item that is asked for again leaves: whether there is no fault, and the rest. -/
def agS (i : It) (ok : Bool) (rem : List UInt8) : Bool × List UInt8 :=
  if i.kind = 0 then (getOk ok 1 rem, getRem ok 1 rem) else if i.kind = 1 then (getOk ok 2 rem, getRem ok 2 rem) else if i.kind = 2 then (getOk ok 4 rem, getRem ok 4 rem) else if i.kind = 3 then (getOk ok 8 rem, getRem ok 8 rem)
  else if i.kind = 4 then ((found ok rem).isSome, uRem (found ok rem) rem) else if i.kind = 5 then ((found ok rem).isSome, uRem (found ok rem) rem)
  else if i.kind = 6 then ((txt ok rem (max i.n i.s.size)).isSome, txtRem (txt ok rem (max i.n i.s.size)) rem)
  else if i.kind = 7 then (tkOk ok rem i.s.size, tkRem ok rem i.s.size) else (ok, rem)
/-- Whether it is as it was. -/
def agV (i : It) (ok : Bool) (rem : List UInt8) : Bool :=
  if i.kind = 0 then decide (((getN ok 1 rem : Nat) : Int) = ((i.x % 256 : Nat) : Int)) else if i.kind = 1 then decide (((getN ok 2 rem : Nat) : Int) = ((i.x % 65536 : Nat) : Int))
  else if i.kind = 2 then decide (((getN ok 4 rem : Nat) : Int) = ((i.x % 4294967296 : Nat) : Int)) else if i.kind = 3 then decide (((getN ok 8 rem : Nat) : Int) = (i.x : Int))
  else if i.kind = 4 then decide (((uN (found ok rem) : Nat) : Int) = (i.x : Int)) else if i.kind = 5 then decide (unzig (uN (found ok rem)) = IntKind.i64.wrap i.x)
  else if i.kind = 6 then decide ((⟨(txtV (txt ok rem (max i.n i.s.size)) rem).toArray⟩ : ByteArray) = i.s)
  else if i.kind = 7 then decide ((⟨(tk ok rem i.s.size).toArray⟩ : ByteArray) = i.s) else true

/-- What again does. -/
def AgPost (h : Base) (s : Option RS) (b : Bool) (t : Bool × List UInt8) (v : Value) (h' : Base) (H' : List Asrt) : Prop :=
  h = h' ∧ v = .bool b ∧ ∃ s', same s s' ∧ Rd h s' t.1 t.2 ∧ H' = [rA s']

set_option maxHeartbeats 4000000 in
theorem again (h : Base) (s : Option RS) (ok : Bool) (rem : List UInt8) (i : It) (hw : wfI i) (hr : Rd h s ok rem) (hl : rem.length ≤ Cc.big) :
    Tr Try.prog 28 [rv s, .agg (cI i).toArray] h [rA s] (AgPost h s (agV i ok rem) (agS i ok rem)) := by
  have hn1 := hw.n1
  have hn2 := hw.n2
  have hss := hw.s
  have hx := hw.x
  have hlb := hl
  unfold Cc.big at hlb
  refine K.enter Try.func28 rfl (Nat.le_of_ble_eq_true rfl) (fun F => ?_)
  (repeat' (first | (apply K.s_pure; (first | (apply Y.mv; exact X.mv) | (apply Y.sg; exact X.sg) | (apply Y.cv; exact X.cv) | (apply Y.fa; exact X.fa) | (apply Y.ld; exact X.ld) | (apply Y.len; exact X.len) | (apply Y.mx; exact X.mx) | (apply Y.beql; exact X.beql)); exact rfl) | refine X.l ?_ | refine X.w ?_ | refine X.a ?_ | (refine K.c_condD rfl (fun hc => ?_) (fun hc => ?_) <;> first | (exfalso; omega) | skip) | refine K.c_cond rfl (fun hc => ?_) (fun hc => ?_)))
  refine K.l_box rfl rfl rfl (fun B => ?_)
  (repeat' (first | (apply K.s_pure; (first | (apply Y.mv; exact X.mv) | (apply Y.sg; exact X.sg) | (apply Y.cv; exact X.cv) | (apply Y.fa; exact X.fa) | (apply Y.ld; exact X.ld) | (apply Y.len; exact X.len) | (apply Y.mx; exact X.mx) | (apply Y.beql; exact X.beql)); exact rfl) | refine X.l ?_ | refine X.w ?_ | refine X.a ?_ | (refine K.c_condD rfl (fun hc => ?_) (fun hc => ?_) <;> first | (exfalso; omega) | skip) | refine K.c_cond rfl (fun hc => ?_) (fun hc => ?_)))
  · have e : agS i ok rem = (getOk ok 1 rem, getRem ok 1 rem) := by rw [agS, if_pos hc]
    have eb : agV i ok rem = decide (((getN ok 1 rem : Nat) : Int) = ((i.x % 256 : Nat) : Int)) := by rw [agV, if_pos hc]
    rw [e, eb]
    refine X.draw ([blk B 31 (cI i)]) [] [(0, .pu), (2, .pu), (3, .st), (4, .pu), (1, .on), (5, .pu), (6, .pu)] ?_
    refine K.d_pu rfl (fun _ _ => X.mv) rfl ?_
    refine K.d_pu rfl (fun _ _ => X.fa) rfl ?_
    refine K.d_st rfl X.ld rfl ?_
    refine K.d_pu rfl (fun _ _ => X.cv) rfl ?_
    rw [K.wn8]
    refine K.d_on rfl (fun KK hKK => ?_)
    refine K.l_call (Fx.cal rfl) rfl (R_U8 h s ok rem hr hl) (K.pp [1] rfl) rfl ?_
    rintro v h' H' - ⟨rfl, rfl, s', hs, hr', rfl⟩
    refine K.l_nil ?_
    refine X.onE hKK ?_
    refine K.d_pu rfl (fun _ _ => X.beql) rfl ?_
    refine K.d_pu rfl (fun _ _ => X.sg) rfl ?_
    refine K.d_nil ?_
    (repeat' (first | (apply K.s_pure; (first | (apply Y.mv; exact X.mv) | (apply Y.sg; exact X.sg) | (apply Y.cv; exact X.cv) | (apply Y.fa; exact X.fa) | (apply Y.ld; exact X.ld) | (apply Y.len; exact X.len) | (apply Y.mx; exact X.mx) | (apply Y.beql; exact X.beql)); exact rfl) | refine X.l ?_ | refine X.w ?_ | refine X.a ?_ | (refine K.c_condD rfl (fun hc => ?_) (fun hc => ?_) <;> first | (exfalso; omega) | skip) | refine K.c_cond rfl (fun hc => ?_) (fun hc => ?_)))
    refine K.AT.sel [1] rfl ?_
    refine K.done (by first | exact Or.inl rfl | exact Or.inr rfl) rfl (by first | exact K.Base.le.refl _ | assumption) (H' := [rA s']) rfl ⟨rfl, rfl, s', hs, hr', rfl⟩
  · have e : agS i ok rem = (getOk ok 2 rem, getRem ok 2 rem) := by rw [agS, if_neg (by omega), if_pos hc]
    have eb : agV i ok rem = decide (((getN ok 2 rem : Nat) : Int) = ((i.x % 65536 : Nat) : Int)) := by rw [agV, if_neg (by omega), if_pos hc]
    rw [e, eb]
    refine X.draw ([blk B 31 (cI i)]) [] [(0, .pu), (2, .pu), (3, .st), (4, .pu), (1, .on), (5, .pu), (6, .pu)] ?_
    refine K.d_pu rfl (fun _ _ => X.mv) rfl ?_
    refine K.d_pu rfl (fun _ _ => X.fa) rfl ?_
    refine K.d_st rfl X.ld rfl ?_
    refine K.d_pu rfl (fun _ _ => X.cv) rfl ?_
    rw [K.wn16]
    refine K.d_on rfl (fun KK hKK => ?_)
    refine K.l_call (Fx.cal rfl) rfl (R_U16 h s ok rem hr hl) (K.pp [1] rfl) rfl ?_
    rintro v h' H' - ⟨rfl, rfl, s', hs, hr', rfl⟩
    refine K.l_nil ?_
    refine X.onE hKK ?_
    refine K.d_pu rfl (fun _ _ => X.beql) rfl ?_
    refine K.d_pu rfl (fun _ _ => X.sg) rfl ?_
    refine K.d_nil ?_
    (repeat' (first | (apply K.s_pure; (first | (apply Y.mv; exact X.mv) | (apply Y.sg; exact X.sg) | (apply Y.cv; exact X.cv) | (apply Y.fa; exact X.fa) | (apply Y.ld; exact X.ld) | (apply Y.len; exact X.len) | (apply Y.mx; exact X.mx) | (apply Y.beql; exact X.beql)); exact rfl) | refine X.l ?_ | refine X.w ?_ | refine X.a ?_ | (refine K.c_condD rfl (fun hc => ?_) (fun hc => ?_) <;> first | (exfalso; omega) | skip) | refine K.c_cond rfl (fun hc => ?_) (fun hc => ?_)))
    refine K.AT.sel [1] rfl ?_
    refine K.done (by first | exact Or.inl rfl | exact Or.inr rfl) rfl (by first | exact K.Base.le.refl _ | assumption) (H' := [rA s']) rfl ⟨rfl, rfl, s', hs, hr', rfl⟩
  · have e : agS i ok rem = (getOk ok 4 rem, getRem ok 4 rem) := by rw [agS, if_neg (by omega), if_neg (by omega), if_pos hc]
    have eb : agV i ok rem = decide (((getN ok 4 rem : Nat) : Int) = ((i.x % 4294967296 : Nat) : Int)) := by rw [agV, if_neg (by omega), if_neg (by omega), if_pos hc]
    rw [e, eb]
    refine X.draw ([blk B 31 (cI i)]) [] [(0, .pu), (2, .pu), (3, .st), (4, .pu), (1, .on), (5, .pu), (6, .pu)] ?_
    refine K.d_pu rfl (fun _ _ => X.mv) rfl ?_
    refine K.d_pu rfl (fun _ _ => X.fa) rfl ?_
    refine K.d_st rfl X.ld rfl ?_
    refine K.d_pu rfl (fun _ _ => X.cv) rfl ?_
    rw [K.wn32]
    refine K.d_on rfl (fun KK hKK => ?_)
    refine K.l_call (Fx.cal rfl) rfl (R_U32 h s ok rem hr hl) (K.pp [1] rfl) rfl ?_
    rintro v h' H' - ⟨rfl, rfl, s', hs, hr', rfl⟩
    refine K.l_nil ?_
    refine X.onE hKK ?_
    refine K.d_pu rfl (fun _ _ => X.beql) rfl ?_
    refine K.d_pu rfl (fun _ _ => X.sg) rfl ?_
    refine K.d_nil ?_
    (repeat' (first | (apply K.s_pure; (first | (apply Y.mv; exact X.mv) | (apply Y.sg; exact X.sg) | (apply Y.cv; exact X.cv) | (apply Y.fa; exact X.fa) | (apply Y.ld; exact X.ld) | (apply Y.len; exact X.len) | (apply Y.mx; exact X.mx) | (apply Y.beql; exact X.beql)); exact rfl) | refine X.l ?_ | refine X.w ?_ | refine X.a ?_ | (refine K.c_condD rfl (fun hc => ?_) (fun hc => ?_) <;> first | (exfalso; omega) | skip) | refine K.c_cond rfl (fun hc => ?_) (fun hc => ?_)))
    refine K.AT.sel [1] rfl ?_
    refine K.done (by first | exact Or.inl rfl | exact Or.inr rfl) rfl (by first | exact K.Base.le.refl _ | assumption) (H' := [rA s']) rfl ⟨rfl, rfl, s', hs, hr', rfl⟩
  · have e : agS i ok rem = (getOk ok 8 rem, getRem ok 8 rem) := by rw [agS, if_neg (by omega), if_neg (by omega), if_neg (by omega), if_pos hc]
    have eb : agV i ok rem = decide (((getN ok 8 rem : Nat) : Int) = (i.x : Int)) := by rw [agV, if_neg (by omega), if_neg (by omega), if_neg (by omega), if_pos hc]
    rw [e, eb]
    refine X.draw ([blk B 31 (cI i)]) [] [(0, .pu), (2, .pu), (3, .st), (1, .on), (4, .pu), (5, .pu)] ?_
    refine K.d_pu rfl (fun _ _ => X.mv) rfl ?_
    refine K.d_pu rfl (fun _ _ => X.fa) rfl ?_
    refine K.d_st rfl X.ld rfl ?_
    refine K.d_on rfl (fun KK hKK => ?_)
    refine K.l_call (Fx.cal rfl) rfl (R_U64 h s ok rem hr hl) (K.pp [1] rfl) rfl ?_
    rintro v h' H' - ⟨rfl, rfl, s', hs, hr', rfl⟩
    refine K.l_nil ?_
    refine X.onE hKK ?_
    refine K.d_pu rfl (fun _ _ => X.beql) rfl ?_
    refine K.d_pu rfl (fun _ _ => X.sg) rfl ?_
    refine K.d_nil ?_
    (repeat' (first | (apply K.s_pure; (first | (apply Y.mv; exact X.mv) | (apply Y.sg; exact X.sg) | (apply Y.cv; exact X.cv) | (apply Y.fa; exact X.fa) | (apply Y.ld; exact X.ld) | (apply Y.len; exact X.len) | (apply Y.mx; exact X.mx) | (apply Y.beql; exact X.beql)); exact rfl) | refine X.l ?_ | refine X.w ?_ | refine X.a ?_ | (refine K.c_condD rfl (fun hc => ?_) (fun hc => ?_) <;> first | (exfalso; omega) | skip) | refine K.c_cond rfl (fun hc => ?_) (fun hc => ?_)))
    refine K.AT.sel [1] rfl ?_
    refine K.done (by first | exact Or.inl rfl | exact Or.inr rfl) rfl (by first | exact K.Base.le.refl _ | assumption) (H' := [rA s']) rfl ⟨rfl, rfl, s', hs, hr', rfl⟩
  · have e : agS i ok rem = ((found ok rem).isSome, uRem (found ok rem) rem) := by rw [agS, if_neg (by omega), if_neg (by omega), if_neg (by omega), if_neg (by omega), if_pos hc]
    have eb : agV i ok rem = decide (((uN (found ok rem) : Nat) : Int) = (i.x : Int)) := by rw [agV, if_neg (by omega), if_neg (by omega), if_neg (by omega), if_neg (by omega), if_pos hc]
    rw [e, eb]
    refine X.draw ([blk B 31 (cI i)]) [] [(0, .pu), (2, .pu), (3, .st), (1, .on), (4, .pu), (5, .pu)] ?_
    refine K.d_pu rfl (fun _ _ => X.mv) rfl ?_
    refine K.d_pu rfl (fun _ _ => X.fa) rfl ?_
    refine K.d_st rfl X.ld rfl ?_
    refine K.d_on rfl (fun KK hKK => ?_)
    refine K.l_call (Fx.cal rfl) rfl (R_Uint h s ok rem hr hl) (K.pp [1] rfl) rfl ?_
    rintro v h' H' - ⟨rfl, rfl, s', hs, hr', rfl⟩
    refine K.l_nil ?_
    refine X.onE hKK ?_
    refine K.d_pu rfl (fun _ _ => X.beql) rfl ?_
    refine K.d_pu rfl (fun _ _ => X.sg) rfl ?_
    refine K.d_nil ?_
    (repeat' (first | (apply K.s_pure; (first | (apply Y.mv; exact X.mv) | (apply Y.sg; exact X.sg) | (apply Y.cv; exact X.cv) | (apply Y.fa; exact X.fa) | (apply Y.ld; exact X.ld) | (apply Y.len; exact X.len) | (apply Y.mx; exact X.mx) | (apply Y.beql; exact X.beql)); exact rfl) | refine X.l ?_ | refine X.w ?_ | refine X.a ?_ | (refine K.c_condD rfl (fun hc => ?_) (fun hc => ?_) <;> first | (exfalso; omega) | skip) | refine K.c_cond rfl (fun hc => ?_) (fun hc => ?_)))
    refine K.AT.sel [1] rfl ?_
    refine K.done (by first | exact Or.inl rfl | exact Or.inr rfl) rfl (by first | exact K.Base.le.refl _ | assumption) (H' := [rA s']) rfl ⟨rfl, rfl, s', hs, hr', rfl⟩
  · have e : agS i ok rem = ((found ok rem).isSome, uRem (found ok rem) rem) := by rw [agS, if_neg (by omega), if_neg (by omega), if_neg (by omega), if_neg (by omega), if_neg (by omega), if_pos hc]
    have eb : agV i ok rem = decide (unzig (uN (found ok rem)) = IntKind.i64.wrap i.x) := by rw [agV, if_neg (by omega), if_neg (by omega), if_neg (by omega), if_neg (by omega), if_neg (by omega), if_pos hc]
    rw [e, eb]
    refine X.draw ([blk B 31 (cI i)]) [] [(0, .pu), (2, .pu), (3, .st), (4, .pu), (1, .on), (5, .pu), (6, .pu)] ?_
    refine K.d_pu rfl (fun _ _ => X.mv) rfl ?_
    refine K.d_pu rfl (fun _ _ => X.fa) rfl ?_
    refine K.d_st rfl X.ld rfl ?_
    refine K.d_pu rfl (fun _ _ => X.cv) rfl ?_
    refine K.d_on rfl (fun KK hKK => ?_)
    refine K.l_call (Fx.cal rfl) rfl (R_Int h s ok rem hr hl) (K.pp [1] rfl) rfl ?_
    rintro v h' H' - ⟨rfl, rfl, s', hs, hr', rfl⟩
    refine K.l_nil ?_
    refine X.onE hKK ?_
    refine K.d_pu rfl (fun _ _ => X.beql) rfl ?_
    refine K.d_pu rfl (fun _ _ => X.sg) rfl ?_
    refine K.d_nil ?_
    (repeat' (first | (apply K.s_pure; (first | (apply Y.mv; exact X.mv) | (apply Y.sg; exact X.sg) | (apply Y.cv; exact X.cv) | (apply Y.fa; exact X.fa) | (apply Y.ld; exact X.ld) | (apply Y.len; exact X.len) | (apply Y.mx; exact X.mx) | (apply Y.beql; exact X.beql)); exact rfl) | refine X.l ?_ | refine X.w ?_ | refine X.a ?_ | (refine K.c_condD rfl (fun hc => ?_) (fun hc => ?_) <;> first | (exfalso; omega) | skip) | refine K.c_cond rfl (fun hc => ?_) (fun hc => ?_)))
    refine K.AT.sel [1] rfl ?_
    refine K.done (by first | exact Or.inl rfl | exact Or.inr rfl) rfl (by first | exact K.Base.le.refl _ | assumption) (H' := [rA s']) rfl ⟨rfl, rfl, s', hs, hr', rfl⟩
  · have e : agS i ok rem = ((txt ok rem (max i.n i.s.size)).isSome, txtRem (txt ok rem (max i.n i.s.size)) rem) := by rw [agS, if_neg (by omega), if_neg (by omega), if_neg (by omega), if_neg (by omega), if_neg (by omega), if_neg (by omega), if_pos hc]
    have eb : agV i ok rem = decide ((⟨(txtV (txt ok rem (max i.n i.s.size)) rem).toArray⟩ : ByteArray) = i.s) := by rw [agV, if_neg (by omega), if_neg (by omega), if_neg (by omega), if_neg (by omega), if_neg (by omega), if_neg (by omega), if_pos hc]
    rw [e, eb]
    refine X.draw ([blk B 31 (cI i)]) [] [(0, .pu), (1, .pu), (3, .pu), (8, .pu), (2, .st), (4, .st), (5, .pu), (6, .pu), (9, .st), (7, .on), (10, .pu), (11, .pu)] ?_
    refine K.d_pu rfl (fun _ _ => X.mv) rfl ?_
    refine K.d_pu rfl (fun _ _ => X.fa) rfl ?_
    refine K.d_pu rfl (fun _ _ => X.fa) rfl ?_
    refine K.d_pu rfl (fun _ _ => X.fa) rfl ?_
    refine K.d_st rfl X.ld rfl ?_
    refine K.d_st rfl X.ld rfl ?_
    refine K.d_pu rfl (fun _ _ => X.len) rfl ?_
    refine K.d_pu rfl (fun _ _ => X.mx) rfl ?_
    refine K.d_st rfl X.ld rfl ?_
    refine K.d_on rfl (fun KK hKK => ?_)
    refine K.l_call (Fx.cal rfl) rfl (R_Text h s ok rem (max i.n i.s.size) hr hl (by omega) (by omega)) (K.pp [1] rfl) rfl ?_
    rintro v h' H' - ⟨rfl, rfl, s', hs, hr', rfl⟩
    refine K.l_nil ?_
    refine X.onE hKK ?_
    refine K.d_pu rfl (fun _ _ => X.beql) rfl ?_
    refine K.d_pu rfl (fun _ _ => X.sg) rfl ?_
    refine K.d_nil ?_
    (repeat' (first | (apply K.s_pure; (first | (apply Y.mv; exact X.mv) | (apply Y.sg; exact X.sg) | (apply Y.cv; exact X.cv) | (apply Y.fa; exact X.fa) | (apply Y.ld; exact X.ld) | (apply Y.len; exact X.len) | (apply Y.mx; exact X.mx) | (apply Y.beql; exact X.beql)); exact rfl) | refine X.l ?_ | refine X.w ?_ | refine X.a ?_ | (refine K.c_condD rfl (fun hc => ?_) (fun hc => ?_) <;> first | (exfalso; omega) | skip) | refine K.c_cond rfl (fun hc => ?_) (fun hc => ?_)))
    refine K.AT.sel [1] rfl ?_
    refine K.done (by first | exact Or.inl rfl | exact Or.inr rfl) rfl (by first | exact K.Base.le.refl _ | assumption) (H' := [rA s']) rfl ⟨rfl, rfl, s', hs, hr', rfl⟩
  · have e : agS i ok rem = (tkOk ok rem i.s.size, tkRem ok rem i.s.size) := by rw [agS, if_neg (by omega), if_neg (by omega), if_neg (by omega), if_neg (by omega), if_neg (by omega), if_neg (by omega), if_neg (by omega), if_pos hc]
    have eb : agV i ok rem = decide ((⟨(tk ok rem i.s.size).toArray⟩ : ByteArray) = i.s) := by rw [agV, if_neg (by omega), if_neg (by omega), if_neg (by omega), if_neg (by omega), if_neg (by omega), if_neg (by omega), if_neg (by omega), if_pos hc]
    rw [e, eb]
    refine X.draw ([blk B 31 (cI i)]) [] [(0, .pu), (1, .pu), (6, .pu), (2, .st), (3, .pu), (7, .st), (4, .on), (5, .st), (8, .pu), (9, .pu)] ?_
    refine K.d_pu rfl (fun _ _ => X.mv) rfl ?_
    refine K.d_pu rfl (fun _ _ => X.fa) rfl ?_
    refine K.d_pu rfl (fun _ _ => X.fa) rfl ?_
    refine K.d_st rfl X.ld rfl ?_
    refine K.d_pu rfl (fun _ _ => X.len) rfl ?_
    refine K.d_st rfl X.ld rfl ?_
    refine K.d_on rfl (fun KK hKK => ?_)
    refine K.l_call (Fx.cal rfl) rfl (R_Raw' h s ok rem i.s.size hr hl (by omega) (by omega)) (K.pp [1] rfl) rfl ?_
    rintro v h' H' - ⟨rfl, a, cap, s', rfl, hs, hr', rfl⟩
    refine K.l_nil ?_
    refine X.onS hKK [bufA 5 1 a (tk ok rem i.s.size).length cap ((tk ok rem i.s.size).map u8), blk B 31 (cI i)] ?_
    refine K.d_st rfl X.cv rfl ?_
    refine K.d_pu rfl (fun _ _ => X.beql) rfl ?_
    refine K.d_pu rfl (fun _ _ => X.sg) rfl ?_
    refine K.d_nil ?_
    (repeat' (first | (apply K.s_pure; (first | (apply Y.mv; exact X.mv) | (apply Y.sg; exact X.sg) | (apply Y.cv; exact X.cv) | (apply Y.fa; exact X.fa) | (apply Y.ld; exact X.ld) | (apply Y.len; exact X.len) | (apply Y.mx; exact X.mx) | (apply Y.beql; exact X.beql)); exact rfl) | refine X.l ?_ | refine X.w ?_ | refine X.a ?_ | (refine K.c_condD rfl (fun hc => ?_) (fun hc => ?_) <;> first | (exfalso; omega) | skip) | refine K.c_cond rfl (fun hc => ?_) (fun hc => ?_)))
    refine K.AT.sel [0, 1] rfl ?_
    refine K.done (by first | exact Or.inl rfl | exact Or.inr rfl) rfl (by first | exact K.Base.le.refl _ | assumption) (H' := [rA s']) rfl ⟨rfl, rfl, s', hs, hr', rfl⟩
  · have e : agS i ok rem = (ok, rem) := by rw [agS, if_neg (by omega), if_neg (by omega), if_neg (by omega), if_neg (by omega), if_neg (by omega), if_neg (by omega), if_neg (by omega), if_neg (by omega)]
    have eb : agV i ok rem = true := by rw [agV, if_neg (by omega), if_neg (by omega), if_neg (by omega), if_neg (by omega), if_neg (by omega), if_neg (by omega), if_neg (by omega), if_neg (by omega)]
    rw [e, eb]
    refine K.AT.sel [0] rfl ?_
    refine K.done (by first | exact Or.inl rfl | exact Or.inr rfl) rfl (by first | exact K.Base.le.refl _ | assumption) (H' := [rA s]) rfl ⟨rfl, rfl, s, same_refl s, hr, rfl⟩
end Go.Proofs.Ytgglpkboijjoiaa.La
