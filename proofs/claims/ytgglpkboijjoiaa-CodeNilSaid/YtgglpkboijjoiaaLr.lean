/-
  The walks of layer 2's statements: read. Conditions: each theorem's own.
-/
import Derived.Test.YtgglpkboijjoiaaLb
import Derived.Test.YtgglpkboijjoiaaRb

namespace Go.Proofs.Ytgglpkboijjoiaa.La
open Go Go.K Go.Proofs Go.Proofs.Ytgglpkboijjoiaa Go.Proofs.Ytgglpkboijjoiaa.Cc Go.Proofs.Ytgglpkboijjoiaa.Rb
set_option linter.unusedVariables false
set_option linter.unusedSimpArgs false
set_option maxRecDepth 10000

/-- What an item that is asked for leaves: whether there is no fault, and the rest. -/
def rdS (i : It) (ok : Bool) (rem : List UInt8) : Bool × List UInt8 :=
  if i.kind = 0 then (getOk ok 1 rem, getRem ok 1 rem) else if i.kind = 1 then (getOk ok 2 rem, getRem ok 2 rem) else if i.kind = 2 then (getOk ok 4 rem, getRem ok 4 rem) else if i.kind = 3 then (getOk ok 8 rem, getRem ok 8 rem)
  else if i.kind = 4 then ((found ok rem).isSome, uRem (found ok rem) rem) else if i.kind = 5 then ((found ok rem).isSome, uRem (found ok rem) rem) else if i.kind = 6 then ((txt ok rem i.n).isSome, txtRem (txt ok rem i.n) rem)
  else if i.kind = 7 then (tkOk ok rem i.n, tkRem ok rem i.n) else if i.kind = 8 then (ok && decide (rem = []), rem) else (ok, rem)
theorem getN_lt (ok : Bool) (m : Nat) (rem : List UInt8) : getN ok m rem < 256 ^ m := by
  unfold getN
  split
  · rename_i hc
    have := leNum_lt (rem.take m)
    rwa [List.length_take, Nat.min_eq_left hc.2] at this
  · exact Nat.pow_pos (by omega)
theorem uN_lt (ok : Bool) (rem : List UInt8) : uN (found ok rem) < 18446744073709551616 := by
  cases ho : found ok rem with
  | none => simp [uN]
  | some xm => obtain ⟨x, m⟩ := xm; exact (found_le ho).2.2.2.2

/-- What read does. -/
def ReadPost (h : Base) (s : Option RS) (p : Nat) (t : Bool × List UInt8) (v : Value) (h' : Base) (H' : List Asrt) : Prop :=
  h = h' ∧ v = .bool true ∧ ∃ s' sv', same s s' ∧ Rd h s' t.1 t.2 ∧ BV h sv' t.2 ∧ H' = [rA s', qA p sv' (!t.1)]

set_option maxHeartbeats 4000000 in
theorem read (h : Base) (s : Option RS) (p : Nat) (sv : Value) (ok : Bool) (rem : List UInt8) (i : It) (hw : wfI i) (hr : Rd h s ok rem) (hb : BV h sv rem) (hl : rem.length ≤ Cc.big) :
    Tr Try.prog 24 [rv s, qv p, .agg (cI i).toArray] h [rA s, qA p sv (!ok)] (ReadPost h s p (rdS i ok rem)) := by
  have hn1 := hw.n1
  have hn2 := hw.n2
  have hlb := hl
  unfold Cc.big at hlb
  refine K.enter Try.func24 rfl (Nat.le_of_ble_eq_true rfl) (fun F => ?_)
  (repeat' (first | (apply K.s_pure; (first | (apply Y.mv; exact X.mv) | (apply Y.sg; exact X.sg) | (apply Y.cv; exact X.cv) | (apply Y.fa; exact X.fa) | (apply Y.ld; exact X.ld) | (apply Y.ia; exact X.ia) | (apply Y.len; exact X.len) | (apply Y.badd; exact X.badd) | (apply Y.beql; exact X.beql) | (apply Y.blss; exact X.blss)); exact rfl) | refine X.l ?_ | refine X.w ?_ | refine X.a ?_ | (refine K.c_condD rfl (fun hc => ?_) (fun hc => ?_) <;> first | (exfalso; omega) | skip) | refine K.c_cond rfl (fun hc => ?_) (fun hc => ?_)))
  refine K.l_box rfl rfl rfl (fun B => ?_)
  (repeat' (first | (apply K.s_pure; (first | (apply Y.mv; exact X.mv) | (apply Y.sg; exact X.sg) | (apply Y.cv; exact X.cv) | (apply Y.fa; exact X.fa) | (apply Y.ld; exact X.ld) | (apply Y.ia; exact X.ia) | (apply Y.len; exact X.len) | (apply Y.badd; exact X.badd) | (apply Y.beql; exact X.beql) | (apply Y.blss; exact X.blss)); exact rfl) | refine X.l ?_ | refine X.w ?_ | refine X.a ?_ | (refine K.c_condD rfl (fun hc => ?_) (fun hc => ?_) <;> first | (exfalso; omega) | skip) | refine K.c_cond rfl (fun hc => ?_) (fun hc => ?_)))
  · have e : rdS i ok rem = (getOk ok 1 rem, getRem ok 1 rem) := by rw [rdS, if_pos hc]
    rw [e]
    have hlt : getN ok 1 rem < 256 := getN_lt ok 1 rem
    refine K.l_call (Fx.cal rfl) rfl (R_U8 h s ok rem hr hl) (K.pp [1] rfl) rfl ?_
    rintro v h' H' - ⟨rfl, rfl, s', hs, hr', rfl⟩
    (repeat' (first | (apply K.s_pure; (first | (apply Y.mv; exact X.mv) | (apply Y.sg; exact X.sg) | (apply Y.cv; exact X.cv) | (apply Y.fa; exact X.fa) | (apply Y.ld; exact X.ld) | (apply Y.ia; exact X.ia) | (apply Y.len; exact X.len) | (apply Y.badd; exact X.badd) | (apply Y.beql; exact X.beql) | (apply Y.blss; exact X.blss)); exact rfl) | refine X.l ?_ | refine X.w ?_ | refine X.a ?_ | (refine K.c_condD rfl (fun hc => ?_) (fun hc => ?_) <;> first | (exfalso; omega) | skip) | refine K.c_cond rfl (fun hc => ?_) (fun hc => ?_)))
    refine K.l_call (Fx.cal rfl) rfl (Q_Fixed h p sv ok rem 1 hb hl (by omega)) (K.pp [2] rfl) rfl ?_
    rintro v h' H' - ⟨rfl, rfl, sv', hb', rfl⟩
    (repeat' (first | (apply K.s_pure; (first | (apply Y.mv; exact X.mv) | (apply Y.sg; exact X.sg) | (apply Y.cv; exact X.cv) | (apply Y.fa; exact X.fa) | (apply Y.ld; exact X.ld) | (apply Y.ia; exact X.ia) | (apply Y.len; exact X.len) | (apply Y.badd; exact X.badd) | (apply Y.beql; exact X.beql) | (apply Y.blss; exact X.blss)); exact rfl) | refine X.l ?_ | refine X.w ?_ | refine X.a ?_ | (refine K.c_condD rfl (fun hc => ?_) (fun hc => ?_) <;> first | (exfalso; omega) | skip) | refine K.c_cond rfl (fun hc => ?_) (fun hc => ?_)))
    refine K.AT.sel [2] rfl (K.AT.perm (List.Perm.swap ..) ?_)
    refine K.done (by first | exact Or.inl rfl | exact Or.inr rfl) rfl (by first | exact K.Base.le.refl _ | assumption) (H' := [rA s', qA p _ _]) rfl ⟨rfl, by simp [packV], s', sv', hs, hr', hb', rfl⟩
  · have e : rdS i ok rem = (getOk ok 2 rem, getRem ok 2 rem) := by rw [rdS, if_neg (by omega), if_pos hc]
    rw [e]
    have hlt : getN ok 2 rem < 65536 := getN_lt ok 2 rem
    refine K.l_call (Fx.cal rfl) rfl (R_U16 h s ok rem hr hl) (K.pp [1] rfl) rfl ?_
    rintro v h' H' - ⟨rfl, rfl, s', hs, hr', rfl⟩
    (repeat' (first | (apply K.s_pure; (first | (apply Y.mv; exact X.mv) | (apply Y.sg; exact X.sg) | (apply Y.cv; exact X.cv) | (apply Y.fa; exact X.fa) | (apply Y.ld; exact X.ld) | (apply Y.ia; exact X.ia) | (apply Y.len; exact X.len) | (apply Y.badd; exact X.badd) | (apply Y.beql; exact X.beql) | (apply Y.blss; exact X.blss)); exact rfl) | refine X.l ?_ | refine X.w ?_ | refine X.a ?_ | (refine K.c_condD rfl (fun hc => ?_) (fun hc => ?_) <;> first | (exfalso; omega) | skip) | refine K.c_cond rfl (fun hc => ?_) (fun hc => ?_)))
    refine K.l_call (Fx.cal rfl) rfl (Q_Fixed h p sv ok rem 2 hb hl (by omega)) (K.pp [2] rfl) rfl ?_
    rintro v h' H' - ⟨rfl, rfl, sv', hb', rfl⟩
    (repeat' (first | (apply K.s_pure; (first | (apply Y.mv; exact X.mv) | (apply Y.sg; exact X.sg) | (apply Y.cv; exact X.cv) | (apply Y.fa; exact X.fa) | (apply Y.ld; exact X.ld) | (apply Y.ia; exact X.ia) | (apply Y.len; exact X.len) | (apply Y.badd; exact X.badd) | (apply Y.beql; exact X.beql) | (apply Y.blss; exact X.blss)); exact rfl) | refine X.l ?_ | refine X.w ?_ | refine X.a ?_ | (refine K.c_condD rfl (fun hc => ?_) (fun hc => ?_) <;> first | (exfalso; omega) | skip) | refine K.c_cond rfl (fun hc => ?_) (fun hc => ?_)))
    refine K.AT.sel [2] rfl (K.AT.perm (List.Perm.swap ..) ?_)
    refine K.done (by first | exact Or.inl rfl | exact Or.inr rfl) rfl (by first | exact K.Base.le.refl _ | assumption) (H' := [rA s', qA p _ _]) rfl ⟨rfl, by simp [packV], s', sv', hs, hr', hb', rfl⟩
  · have e : rdS i ok rem = (getOk ok 4 rem, getRem ok 4 rem) := by rw [rdS, if_neg (by omega), if_neg (by omega), if_pos hc]
    rw [e]
    have hlt : getN ok 4 rem < 4294967296 := getN_lt ok 4 rem
    refine K.l_call (Fx.cal rfl) rfl (R_U32 h s ok rem hr hl) (K.pp [1] rfl) rfl ?_
    rintro v h' H' - ⟨rfl, rfl, s', hs, hr', rfl⟩
    (repeat' (first | (apply K.s_pure; (first | (apply Y.mv; exact X.mv) | (apply Y.sg; exact X.sg) | (apply Y.cv; exact X.cv) | (apply Y.fa; exact X.fa) | (apply Y.ld; exact X.ld) | (apply Y.ia; exact X.ia) | (apply Y.len; exact X.len) | (apply Y.badd; exact X.badd) | (apply Y.beql; exact X.beql) | (apply Y.blss; exact X.blss)); exact rfl) | refine X.l ?_ | refine X.w ?_ | refine X.a ?_ | (refine K.c_condD rfl (fun hc => ?_) (fun hc => ?_) <;> first | (exfalso; omega) | skip) | refine K.c_cond rfl (fun hc => ?_) (fun hc => ?_)))
    refine K.l_call (Fx.cal rfl) rfl (Q_Fixed h p sv ok rem 4 hb hl (by omega)) (K.pp [2] rfl) rfl ?_
    rintro v h' H' - ⟨rfl, rfl, sv', hb', rfl⟩
    (repeat' (first | (apply K.s_pure; (first | (apply Y.mv; exact X.mv) | (apply Y.sg; exact X.sg) | (apply Y.cv; exact X.cv) | (apply Y.fa; exact X.fa) | (apply Y.ld; exact X.ld) | (apply Y.ia; exact X.ia) | (apply Y.len; exact X.len) | (apply Y.badd; exact X.badd) | (apply Y.beql; exact X.beql) | (apply Y.blss; exact X.blss)); exact rfl) | refine X.l ?_ | refine X.w ?_ | refine X.a ?_ | (refine K.c_condD rfl (fun hc => ?_) (fun hc => ?_) <;> first | (exfalso; omega) | skip) | refine K.c_cond rfl (fun hc => ?_) (fun hc => ?_)))
    refine K.AT.sel [2] rfl (K.AT.perm (List.Perm.swap ..) ?_)
    refine K.done (by first | exact Or.inl rfl | exact Or.inr rfl) rfl (by first | exact K.Base.le.refl _ | assumption) (H' := [rA s', qA p _ _]) rfl ⟨rfl, by simp [packV], s', sv', hs, hr', hb', rfl⟩
  · have e : rdS i ok rem = (getOk ok 8 rem, getRem ok 8 rem) := by rw [rdS, if_neg (by omega), if_neg (by omega), if_neg (by omega), if_pos hc]
    rw [e]
    have hlt : getN ok 8 rem < 18446744073709551616 := getN_lt ok 8 rem
    refine K.l_call (Fx.cal rfl) rfl (R_U64 h s ok rem hr hl) (K.pp [1] rfl) rfl ?_
    rintro v h' H' - ⟨rfl, rfl, s', hs, hr', rfl⟩
    (repeat' (first | (apply K.s_pure; (first | (apply Y.mv; exact X.mv) | (apply Y.sg; exact X.sg) | (apply Y.cv; exact X.cv) | (apply Y.fa; exact X.fa) | (apply Y.ld; exact X.ld) | (apply Y.ia; exact X.ia) | (apply Y.len; exact X.len) | (apply Y.badd; exact X.badd) | (apply Y.beql; exact X.beql) | (apply Y.blss; exact X.blss)); exact rfl) | refine X.l ?_ | refine X.w ?_ | refine X.a ?_ | (refine K.c_condD rfl (fun hc => ?_) (fun hc => ?_) <;> first | (exfalso; omega) | skip) | refine K.c_cond rfl (fun hc => ?_) (fun hc => ?_)))
    refine K.l_call (Fx.cal rfl) rfl (Q_Fixed h p sv ok rem 8 hb hl (by omega)) (K.pp [2] rfl) rfl ?_
    rintro v h' H' - ⟨rfl, rfl, sv', hb', rfl⟩
    (repeat' (first | (apply K.s_pure; (first | (apply Y.mv; exact X.mv) | (apply Y.sg; exact X.sg) | (apply Y.cv; exact X.cv) | (apply Y.fa; exact X.fa) | (apply Y.ld; exact X.ld) | (apply Y.ia; exact X.ia) | (apply Y.len; exact X.len) | (apply Y.badd; exact X.badd) | (apply Y.beql; exact X.beql) | (apply Y.blss; exact X.blss)); exact rfl) | refine X.l ?_ | refine X.w ?_ | refine X.a ?_ | (refine K.c_condD rfl (fun hc => ?_) (fun hc => ?_) <;> first | (exfalso; omega) | skip) | refine K.c_cond rfl (fun hc => ?_) (fun hc => ?_)))
    refine K.AT.sel [2] rfl (K.AT.perm (List.Perm.swap ..) ?_)
    refine K.done (by first | exact Or.inl rfl | exact Or.inr rfl) rfl (by first | exact K.Base.le.refl _ | assumption) (H' := [rA s', qA p _ _]) rfl ⟨rfl, by simp [packV], s', sv', hs, hr', hb', rfl⟩
  · have e : rdS i ok rem = ((found ok rem).isSome, uRem (found ok rem) rem) := by rw [rdS, if_neg (by omega), if_neg (by omega), if_neg (by omega), if_neg (by omega), if_pos hc]
    rw [e]
    have hlt := uN_lt ok rem
    refine K.l_call (Fx.cal rfl) rfl (R_Uint h s ok rem hr hl) (K.pp [1] rfl) rfl ?_
    rintro v h' H' - ⟨rfl, rfl, s', hs, hr', rfl⟩
    (repeat' (first | (apply K.s_pure; (first | (apply Y.mv; exact X.mv) | (apply Y.sg; exact X.sg) | (apply Y.cv; exact X.cv) | (apply Y.fa; exact X.fa) | (apply Y.ld; exact X.ld) | (apply Y.ia; exact X.ia) | (apply Y.len; exact X.len) | (apply Y.badd; exact X.badd) | (apply Y.beql; exact X.beql) | (apply Y.blss; exact X.blss)); exact rfl) | refine X.l ?_ | refine X.w ?_ | refine X.a ?_ | (refine K.c_condD rfl (fun hc => ?_) (fun hc => ?_) <;> first | (exfalso; omega) | skip) | refine K.c_cond rfl (fun hc => ?_) (fun hc => ?_)))
    refine K.l_call (Fx.cal rfl) rfl (Q_Uint h p sv ok rem hb hl) (K.pp [2] rfl) rfl ?_
    rintro v h' H' - ⟨rfl, rfl, sv', hb', rfl⟩
    (repeat' (first | (apply K.s_pure; (first | (apply Y.mv; exact X.mv) | (apply Y.sg; exact X.sg) | (apply Y.cv; exact X.cv) | (apply Y.fa; exact X.fa) | (apply Y.ld; exact X.ld) | (apply Y.ia; exact X.ia) | (apply Y.len; exact X.len) | (apply Y.badd; exact X.badd) | (apply Y.beql; exact X.beql) | (apply Y.blss; exact X.blss)); exact rfl) | refine X.l ?_ | refine X.w ?_ | refine X.a ?_ | (refine K.c_condD rfl (fun hc => ?_) (fun hc => ?_) <;> first | (exfalso; omega) | skip) | refine K.c_cond rfl (fun hc => ?_) (fun hc => ?_)))
    refine K.AT.sel [2] rfl (K.AT.perm (List.Perm.swap ..) ?_)
    refine K.done (by first | exact Or.inl rfl | exact Or.inr rfl) rfl (by first | exact K.Base.le.refl _ | assumption) (H' := [rA s', qA p _ _]) rfl ⟨rfl, by simp [packV], s', sv', hs, hr', hb', rfl⟩
  · have e : rdS i ok rem = ((found ok rem).isSome, uRem (found ok rem) rem) := by rw [rdS, if_neg (by omega), if_neg (by omega), if_neg (by omega), if_neg (by omega), if_neg (by omega), if_pos hc]
    rw [e]
    have hlt := uN_lt ok rem
    refine K.l_call (Fx.cal rfl) rfl (R_Int h s ok rem hr hl) (K.pp [1] rfl) rfl ?_
    rintro v h' H' - ⟨rfl, rfl, s', hs, hr', rfl⟩
    (repeat' (first | (apply K.s_pure; (first | (apply Y.mv; exact X.mv) | (apply Y.sg; exact X.sg) | (apply Y.cv; exact X.cv) | (apply Y.fa; exact X.fa) | (apply Y.ld; exact X.ld) | (apply Y.ia; exact X.ia) | (apply Y.len; exact X.len) | (apply Y.badd; exact X.badd) | (apply Y.beql; exact X.beql) | (apply Y.blss; exact X.blss)); exact rfl) | refine X.l ?_ | refine X.w ?_ | refine X.a ?_ | (refine K.c_condD rfl (fun hc => ?_) (fun hc => ?_) <;> first | (exfalso; omega) | skip) | refine K.c_cond rfl (fun hc => ?_) (fun hc => ?_)))
    refine K.l_call (Fx.cal rfl) rfl (Q_Uint h p sv ok rem hb hl) (K.pp [2] rfl) rfl ?_
    rintro v h' H' - ⟨rfl, rfl, sv', hb', rfl⟩
    (repeat' (first | (apply K.s_pure; (first | (apply Y.mv; exact X.mv) | (apply Y.sg; exact X.sg) | (apply Y.cv; exact X.cv) | (apply Y.fa; exact X.fa) | (apply Y.ld; exact X.ld) | (apply Y.ia; exact X.ia) | (apply Y.len; exact X.len) | (apply Y.badd; exact X.badd) | (apply Y.beql; exact X.beql) | (apply Y.blss; exact X.blss)); exact rfl) | refine X.l ?_ | refine X.w ?_ | refine X.a ?_ | (refine K.c_condD rfl (fun hc => ?_) (fun hc => ?_) <;> first | (exfalso; omega) | skip) | refine K.c_cond rfl (fun hc => ?_) (fun hc => ?_)))
    refine K.l_callV (Fx.cal rfl) rfl (Q_Unfold h _ hlt) (K.pp [] rfl) rfl rfl ?_
    (repeat' (first | (apply K.s_pure; (first | (apply Y.mv; exact X.mv) | (apply Y.sg; exact X.sg) | (apply Y.cv; exact X.cv) | (apply Y.fa; exact X.fa) | (apply Y.ld; exact X.ld) | (apply Y.ia; exact X.ia) | (apply Y.len; exact X.len) | (apply Y.badd; exact X.badd) | (apply Y.beql; exact X.beql) | (apply Y.blss; exact X.blss)); exact rfl) | refine X.l ?_ | refine X.w ?_ | refine X.a ?_ | (refine K.c_condD rfl (fun hc => ?_) (fun hc => ?_) <;> first | (exfalso; omega) | skip) | refine K.c_cond rfl (fun hc => ?_) (fun hc => ?_)))
    refine K.AT.sel [2] rfl (K.AT.perm (List.Perm.swap ..) ?_)
    refine K.done (by first | exact Or.inl rfl | exact Or.inr rfl) rfl (by first | exact K.Base.le.refl _ | assumption) (H' := [rA s', qA p _ _]) rfl ⟨rfl, by simp [packV], s', sv', hs, hr', hb', rfl⟩
  · have e : rdS i ok rem = ((txt ok rem i.n).isSome, txtRem (txt ok rem i.n) rem) := by rw [rdS, if_neg (by omega), if_neg (by omega), if_neg (by omega), if_neg (by omega), if_neg (by omega), if_neg (by omega), if_pos hc]
    rw [e]
    refine X.draw ([blk B 31 (cI i)]) [] [(0, .pu), (1, .pu), (4, .pu), (5, .pu), (2, .st), (6, .st), (3, .on), (7, .on), (8, .pu), (9, .pu)] ?_
    refine K.d_pu rfl (fun _ _ => X.mv) rfl ?_
    refine K.d_pu rfl (fun _ _ => X.fa) rfl ?_
    refine K.d_pu rfl (fun _ _ => X.mv) rfl ?_
    refine K.d_pu rfl (fun _ _ => X.fa) rfl ?_
    refine K.d_st rfl X.ld rfl ?_
    refine K.d_st rfl X.ld rfl ?_
    refine K.d_on rfl (fun KK hKK => ?_)
    refine K.l_call (Fx.cal rfl) rfl (R_Text h s ok rem i.n hr hl hn1 hn2) (K.pp [1] rfl) rfl ?_
    rintro v h' H' - ⟨rfl, rfl, s', hs, hr', rfl⟩
    refine K.l_nil ?_
    refine X.onE hKK ?_
    refine K.d_on rfl (fun KK hKK => ?_)
    refine K.l_call (Fx.cal rfl) rfl (Q_Text h p sv ok rem i.n hb hl hn1 hn2) (K.pp [2] rfl) rfl ?_
    rintro v h' H' - ⟨rfl, rfl, sv', hb', rfl⟩
    refine K.l_nil ?_
    refine X.onE hKK ?_
    refine K.d_pu rfl (fun _ _ => X.beql) rfl ?_
    refine K.d_pu rfl (fun _ _ => X.sg) rfl ?_
    refine K.d_nil ?_
    (repeat' (first | (apply K.s_pure; (first | (apply Y.mv; exact X.mv) | (apply Y.sg; exact X.sg) | (apply Y.cv; exact X.cv) | (apply Y.fa; exact X.fa) | (apply Y.ld; exact X.ld) | (apply Y.ia; exact X.ia) | (apply Y.len; exact X.len) | (apply Y.badd; exact X.badd) | (apply Y.beql; exact X.beql) | (apply Y.blss; exact X.blss)); exact rfl) | refine X.l ?_ | refine X.w ?_ | refine X.a ?_ | (refine K.c_condD rfl (fun hc => ?_) (fun hc => ?_) <;> first | (exfalso; omega) | skip) | refine K.c_cond rfl (fun hc => ?_) (fun hc => ?_)))
    refine K.AT.sel [2] rfl (K.AT.perm (List.Perm.swap ..) ?_)
    refine K.done (by first | exact Or.inl rfl | exact Or.inr rfl) rfl (by first | exact K.Base.le.refl _ | assumption) (H' := [rA s', qA p _ _]) rfl ⟨rfl, by simp [packV], s', sv', hs, hr', hb', rfl⟩
  · have e : rdS i ok rem = (tkOk ok rem i.n, tkRem ok rem i.n) := by rw [rdS, if_neg (by omega), if_neg (by omega), if_neg (by omega), if_neg (by omega), if_neg (by omega), if_neg (by omega), if_neg (by omega), if_pos hc]
    rw [e]
    refine K.l_call (Fx.cal rfl) rfl (R_Raw' h s ok rem i.n hr hl hn1 hn2) (K.pp [1] rfl) rfl ?_
    rintro v h' H' - ⟨rfl, a, cap, s', rfl, hs, hr', rfl⟩
    (repeat' (first | (apply K.s_pure; (first | (apply Y.mv; exact X.mv) | (apply Y.sg; exact X.sg) | (apply Y.cv; exact X.cv) | (apply Y.fa; exact X.fa) | (apply Y.ld; exact X.ld) | (apply Y.ia; exact X.ia) | (apply Y.len; exact X.len) | (apply Y.badd; exact X.badd) | (apply Y.beql; exact X.beql) | (apply Y.blss; exact X.blss)); exact rfl) | refine X.l ?_ | refine X.w ?_ | refine X.a ?_ | (refine K.c_condD rfl (fun hc => ?_) (fun hc => ?_) <;> first | (exfalso; omega) | skip) | refine K.c_cond rfl (fun hc => ?_) (fun hc => ?_)))
    refine X.draw ([bufA 5 1 a (tk ok rem i.n).length cap ((tk ok rem i.n).map u8), blk B 31 (cI i)]) [] [(0, .pu), (2, .pu), (3, .pu), (1, .st), (4, .st), (5, .on), (6, .st), (7, .pu), (8, .pu)] ?_
    refine K.d_pu rfl (fun _ _ => X.mv) rfl ?_
    refine K.d_pu rfl (fun _ _ => X.mv) rfl ?_
    refine K.d_pu rfl (fun _ _ => X.fa) rfl ?_
    refine K.d_st rfl X.cv rfl ?_
    refine K.d_st rfl X.ld rfl ?_
    refine K.d_on rfl (fun KK hKK => ?_)
    refine K.l_call (Fx.cal rfl) rfl (Q_Take h p sv ok rem i.n hb hl hn1 hn2) (K.pp [3] rfl) rfl ?_
    rintro v h' H' - ⟨rfl, a2, cap2, sv', rfl, hb', rfl⟩
    refine K.l_nil ?_
    refine X.onS hKK [bufA 5 1 a2 (tk ok rem i.n).length cap2 ((tk ok rem i.n).map u8), bufA 5 1 a (tk ok rem i.n).length cap ((tk ok rem i.n).map u8), blk B 31 (cI i)] ?_
    refine K.d_st rfl X.cv rfl ?_
    refine K.d_pu rfl (fun _ _ => X.beql) rfl ?_
    refine K.d_pu rfl (fun _ _ => X.sg) rfl ?_
    refine K.d_nil ?_
    (repeat' (first | (apply K.s_pure; (first | (apply Y.mv; exact X.mv) | (apply Y.sg; exact X.sg) | (apply Y.cv; exact X.cv) | (apply Y.fa; exact X.fa) | (apply Y.ld; exact X.ld) | (apply Y.ia; exact X.ia) | (apply Y.len; exact X.len) | (apply Y.badd; exact X.badd) | (apply Y.beql; exact X.beql) | (apply Y.blss; exact X.blss)); exact rfl) | refine X.l ?_ | refine X.w ?_ | refine X.a ?_ | (refine K.c_condD rfl (fun hc => ?_) (fun hc => ?_) <;> first | (exfalso; omega) | skip) | refine K.c_cond rfl (fun hc => ?_) (fun hc => ?_)))
    simp only [decide_true]
    have htl : (tk ok rem i.n).length ≤ rem.length := by unfold tk; split; (rw [List.length_take]; omega); simp
    generalize tk ok rem i.n = l at htl
    generalize hm : l.length = m at htl
    refine K.WC.sel [0] rfl (K.WC.perm (K.pp [1] rfl) ?_)
    simp only [List.set_cons_zero, List.set_cons_succ, List.eraseIdx_cons_zero, List.eraseIdx_cons_succ, List.cons_append, List.nil_append]
    refine K.c_loop (σ := Nat × List UInt8) (fun r => [(8, bufV a m cap), (9, .bool true), (10, .int .i64 r.1)]) (fun _ => h)
      (fun r => bufA 5 1 a m cap (r.2.map u8) :: qA p sv' (!(tkOk ok rem i.n)) :: rA s' :: blk B 31 (cI i) :: F)
      (fun r => r.1 ≤ m ∧ r.2.length = m) (fun r => m - r.1) (0, l) ⟨Nat.zero_le _, hm⟩ (by repeat (first | exact K.Sub.nil _ | refine K.Sub.cons rfl ?_)) rfl rfl ?_
    rintro ⟨k, bs⟩ ⟨hk, hbs⟩ KM hKM
    dsimp only at hk hbs ⊢
    by_cases hkm : k < m
    · refine K.oc_buf (fun _ e _ _ => by omega) ?_
      rintro bb sp fz rfl g2 g3 g4 g5 g6
      (repeat' (first | (apply K.s_pure; (first | (apply Y.mv; exact X.mv) | (apply Y.sg; exact X.sg) | (apply Y.cv; exact X.cv) | (apply Y.fa; exact X.fa) | (apply Y.ld; exact X.ld) | (apply Y.ia; exact X.ia) | (apply Y.len; exact X.len) | (apply Y.badd; exact X.badd) | (apply Y.beql; exact X.beql) | (apply Y.blss; exact X.blss)); exact rfl) | refine X.l ?_ | refine X.w ?_ | refine X.a ?_ | (refine K.c_condD rfl (fun hc => ?_) (fun hc => ?_) <;> first | (exfalso; omega) | skip) | refine K.c_cond rfl (fun hc => ?_) (fun hc => ?_)))
      refine K.l_storeB (c := 0) (Fx.sz rfl) rfl rfl rfl (by omega) (fun o ho => g6 o (by omega)) ?_
      (repeat' (first | (apply K.s_pure; (first | (apply Y.mv; exact X.mv) | (apply Y.sg; exact X.sg) | (apply Y.cv; exact X.cv) | (apply Y.fa; exact X.fa) | (apply Y.ld; exact X.ld) | (apply Y.ia; exact X.ia) | (apply Y.len; exact X.len) | (apply Y.badd; exact X.badd) | (apply Y.beql; exact X.beql) | (apply Y.blss; exact X.blss)); exact rfl) | refine X.l ?_ | refine X.w ?_ | refine X.a ?_ | (refine K.c_condD rfl (fun hc => ?_) (fun hc => ?_) <;> first | (exfalso; omega) | skip) | refine K.c_cond rfl (fun hc => ?_) (fun hc => ?_)))
      refine K.AT.shut (s := 1) (m := m) (cap := cap) (by simp [hbs]) (by simpa using g3) g4 g5 g6 ?_
      refine K.a_round hKM (k + 1, bs.set k 0) ⟨by omega, by simp [hbs]⟩ (by repeat (first | exact K.Sub.nil _ | refine K.Sub.cons rfl ?_)) rfl rfl (by dsimp only; omega)
    · (repeat' (first | (apply K.s_pure; (first | (apply Y.mv; exact X.mv) | (apply Y.sg; exact X.sg) | (apply Y.cv; exact X.cv) | (apply Y.fa; exact X.fa) | (apply Y.ld; exact X.ld) | (apply Y.ia; exact X.ia) | (apply Y.len; exact X.len) | (apply Y.badd; exact X.badd) | (apply Y.beql; exact X.beql) | (apply Y.blss; exact X.blss)); exact rfl) | refine X.l ?_ | refine X.w ?_ | refine X.a ?_ | (refine K.c_condD rfl (fun hc => ?_) (fun hc => ?_) <;> first | (exfalso; omega) | skip) | refine K.c_cond rfl (fun hc => ?_) (fun hc => ?_)))
      refine K.AT.sel [0, 2] rfl (K.AT.perm (List.Perm.swap ..) ?_)
      refine K.done (by first | exact Or.inl rfl | exact Or.inr rfl) rfl (by first | exact K.Base.le.refl _ | assumption) (H' := [rA s', qA p _ _]) rfl ⟨rfl, rfl, s', sv', hs, hr', hb', rfl⟩
  · have e : rdS i ok rem = (ok && decide (rem = []), rem) := by rw [rdS, if_neg (by omega), if_neg (by omega), if_neg (by omega), if_neg (by omega), if_neg (by omega), if_neg (by omega), if_neg (by omega), if_neg (by omega), if_pos hc]
    rw [e]
    refine K.l_call (Fx.cal rfl) rfl (R_End h s ok rem hr hl) (K.pp [1] rfl) rfl ?_
    rintro v h' H' - ⟨rfl, rfl, s', hs, hr', rfl⟩
    (repeat' (first | (apply K.s_pure; (first | (apply Y.mv; exact X.mv) | (apply Y.sg; exact X.sg) | (apply Y.cv; exact X.cv) | (apply Y.fa; exact X.fa) | (apply Y.ld; exact X.ld) | (apply Y.ia; exact X.ia) | (apply Y.len; exact X.len) | (apply Y.badd; exact X.badd) | (apply Y.beql; exact X.beql) | (apply Y.blss; exact X.blss)); exact rfl) | refine X.l ?_ | refine X.w ?_ | refine X.a ?_ | (refine K.c_condD rfl (fun hc => ?_) (fun hc => ?_) <;> first | (exfalso; omega) | skip) | refine K.c_cond rfl (fun hc => ?_) (fun hc => ?_)))
    refine K.l_call (Fx.cal rfl) rfl (Q_End h p sv ok rem hb hl) (K.pp [2] rfl) rfl ?_
    rintro v h' H' - ⟨rfl, rfl, sv', hb', rfl⟩
    generalize (ok && decide (rem = [])) = okk at hr' hb' ⊢
    cases okk
    all_goals
      simp only [errV, Bool.false_eq_true, ↓reduceIte]
      (repeat' (first | (apply K.s_pure; (first | (apply Y.mv; exact X.mv) | (apply Y.sg; exact X.sg) | (apply Y.cv; exact X.cv) | (apply Y.fa; exact X.fa) | (apply Y.ld; exact X.ld) | (apply Y.ia; exact X.ia) | (apply Y.len; exact X.len) | (apply Y.badd; exact X.badd) | (apply Y.beql; exact X.beql) | (apply Y.blss; exact X.blss)); exact rfl) | refine X.l ?_ | refine X.w ?_ | refine X.a ?_ | (refine K.c_condD rfl (fun hc => ?_) (fun hc => ?_) <;> first | (exfalso; omega) | skip) | refine K.c_cond rfl (fun hc => ?_) (fun hc => ?_)))
      refine K.AT.sel [2] rfl (K.AT.perm (List.Perm.swap ..) ?_)
      refine K.done (by first | exact Or.inl rfl | exact Or.inr rfl) rfl (by first | exact K.Base.le.refl _ | assumption) (H' := [rA s', qA p _ _]) rfl ⟨rfl, by simp [packV], s', sv', hs, hr', hb', rfl⟩
  · have e : rdS i ok rem = (ok, rem) := by rw [rdS, if_neg (by omega), if_neg (by omega), if_neg (by omega), if_neg (by omega), if_neg (by omega), if_neg (by omega), if_neg (by omega), if_neg (by omega), if_neg (by omega)]
    rw [e]
    refine K.AT.sel [0] rfl ?_
    refine K.done (by first | exact Or.inl rfl | exact Or.inr rfl) rfl (by first | exact K.Base.le.refl _ | assumption) (H' := [rA s, qA p _ _]) rfl ⟨rfl, rfl, s, sv, same_refl s, hr, hb, rfl⟩
end Go.Proofs.Ytgglpkboijjoiaa.La
