/-
  Rows: how a kind is written and read. Conditions: each theorem's own.
-/
import Derived.Test.YthdiokdaaofebaaDd
import Derived.Test.YthdiokdaaofebaaCb
import Derived.Test.YthdiokdaaofebaaCf

namespace Go.Proofs.Ythdiokdaaofebaa.Rw
open Go Go.K Go.Proofs Go.Proofs.Ythdiokdaaofebaa
set_option linter.unusedVariables false
set_option linter.unusedSimpArgs false
set_option maxRecDepth 10000

/-- What a value that is not Null writes. -/
def oneB (v : Val) : List UInt8 := if v.kind = 3 then lebs v.n.toNat 1 else if v.kind = 2 then cu v.s.size ++ v.s.data.toList else cu (zig v.n)
theorem Way1 (h : Base) (s : Ca.WSt) (v : Val) (hw : wfV v) (hk : v.kind = 1) (hl : (Ca.wb s).length + 16 ≤ Ca.big) : Tr Try.prog 35 [Ca.wv s, .agg (cV v).toArray] h [Ca.wA s] (Ca.Wrote h s (oneB v)) := by
  have e : oneB v = cu (zig v.n) := by rw [oneB, if_neg (by omega), if_neg (by omega)]
  rw [e]
  refine K.enter Try.func35 rfl (Nat.le_of_ble_eq_true rfl) (fun F => ?_)
  (repeat' (first | (apply K.s_pure; (first | (apply Y.mv; exact X.mv) | (apply Y.fa; exact X.fa) | (apply Y.ld; exact X.ld)); exact rfl) | refine X.l ?_ | refine X.w ?_ | refine X.a ?_ | (refine K.c_condD rfl (fun hc => ?_) (fun hc => ?_) <;> first | (exfalso; omega) | skip) | refine K.c_cond rfl (fun hc => ?_) (fun hc => ?_)))
  refine K.l_box rfl rfl rfl (fun B => ?_)
  (repeat' (first | (apply K.s_pure; (first | (apply Y.mv; exact X.mv) | (apply Y.fa; exact X.fa) | (apply Y.ld; exact X.ld)); exact rfl) | refine X.l ?_ | refine X.w ?_ | refine X.a ?_ | (refine K.c_condD rfl (fun hc => ?_) (fun hc => ?_) <;> first | (exfalso; omega) | skip) | refine K.c_cond rfl (fun hc => ?_) (fun hc => ?_)))
  refine K.l_call (Fx.cal rfl) rfl (Ca.W_Int h s v.n hw.n1 hw.n2 hl) (K.pp [1] rfl) rfl ?_
  rintro u h' H' - ⟨rfl, rfl, s', hs', rfl⟩
  (repeat' (first | (apply K.s_pure; (first | (apply Y.mv; exact X.mv) | (apply Y.fa; exact X.fa) | (apply Y.ld; exact X.ld)); exact rfl) | refine X.l ?_ | refine X.w ?_ | refine X.a ?_ | (refine K.c_condD rfl (fun hc => ?_) (fun hc => ?_) <;> first | (exfalso; omega) | skip) | refine K.c_cond rfl (fun hc => ?_) (fun hc => ?_)))
  refine K.AT.sel [1] rfl ?_
  refine K.done (by first | exact Or.inl rfl | exact Or.inr rfl) rfl (by first | exact K.Base.le.refl _ | assumption) (H' := [Ca.wA s']) rfl ⟨rfl, rfl, s', hs', rfl⟩
theorem Way3 (h : Base) (s : Ca.WSt) (v : Val) (hw : wfV v) (hk : v.kind = 2) (hl : (Ca.wb s).length + v.s.size + 16 ≤ Ca.big) : Tr Try.prog 39 [Ca.wv s, .agg (cV v).toArray] h [Ca.wA s] (Ca.Wrote h s (oneB v)) := by
  have e : oneB v = cu v.s.size ++ v.s.data.toList := by rw [oneB, if_neg (by omega), if_pos (by omega)]
  rw [e]
  refine K.enter Try.func39 rfl (Nat.le_of_ble_eq_true rfl) (fun F => ?_)
  (repeat' (first | (apply K.s_pure; (first | (apply Y.mv; exact X.mv) | (apply Y.fa; exact X.fa) | (apply Y.ld; exact X.ld)); exact rfl) | refine X.l ?_ | refine X.w ?_ | refine X.a ?_ | (refine K.c_condD rfl (fun hc => ?_) (fun hc => ?_) <;> first | (exfalso; omega) | skip) | refine K.c_cond rfl (fun hc => ?_) (fun hc => ?_)))
  refine K.l_box rfl rfl rfl (fun B => ?_)
  (repeat' (first | (apply K.s_pure; (first | (apply Y.mv; exact X.mv) | (apply Y.fa; exact X.fa) | (apply Y.ld; exact X.ld)); exact rfl) | refine X.l ?_ | refine X.w ?_ | refine X.a ?_ | (refine K.c_condD rfl (fun hc => ?_) (fun hc => ?_) <;> first | (exfalso; omega) | skip) | refine K.c_cond rfl (fun hc => ?_) (fun hc => ?_)))
  refine K.l_call (Fx.cal rfl) rfl (Ca.W_Text h s v.s hl) (K.pp [1] rfl) rfl ?_
  rintro u h' H' - ⟨rfl, rfl, s', hs', rfl⟩
  (repeat' (first | (apply K.s_pure; (first | (apply Y.mv; exact X.mv) | (apply Y.fa; exact X.fa) | (apply Y.ld; exact X.ld)); exact rfl) | refine X.l ?_ | refine X.w ?_ | refine X.a ?_ | (refine K.c_condD rfl (fun hc => ?_) (fun hc => ?_) <;> first | (exfalso; omega) | skip) | refine K.c_cond rfl (fun hc => ?_) (fun hc => ?_)))
  refine K.AT.sel [1] rfl ?_
  refine K.done (by first | exact Or.inl rfl | exact Or.inr rfl) rfl (by first | exact K.Base.le.refl _ | assumption) (H' := [Ca.wA s']) rfl ⟨rfl, rfl, s', hs', rfl⟩
theorem Way5 (h : Base) (s : Ca.WSt) (v : Val) (hw : wfV v) (hk : v.kind = 3) (h0 : 0 ≤ v.n) (h1 : v.n ≤ 1) (hl : (Ca.wb s).length ≤ Ca.big) : Tr Try.prog 43 [Ca.wv s, .agg (cV v).toArray] h [Ca.wA s] (Ca.Wrote h s (oneB v)) := by
  have e : oneB v = lebs v.n.toNat 1 := by rw [oneB, if_pos hk]
  rw [e]
  refine K.enter Try.func43 rfl (Nat.le_of_ble_eq_true rfl) (fun F => ?_)
  (repeat' (first | (apply K.s_pure; (first | (apply Y.mv; exact X.mv) | (apply Y.cv; exact X.cv) | (apply Y.fa; exact X.fa) | (apply Y.ld; exact X.ld)); exact rfl) | refine X.l ?_ | refine X.w ?_ | refine X.a ?_ | (refine K.c_condD rfl (fun hc => ?_) (fun hc => ?_) <;> first | (exfalso; omega) | skip) | refine K.c_cond rfl (fun hc => ?_) (fun hc => ?_)))
  refine K.l_box rfl rfl rfl (fun B => ?_)
  (repeat' (first | (apply K.s_pure; (first | (apply Y.mv; exact X.mv) | (apply Y.cv; exact X.cv) | (apply Y.fa; exact X.fa) | (apply Y.ld; exact X.ld)); exact rfl) | refine X.l ?_ | refine X.w ?_ | refine X.a ?_ | (refine K.c_condD rfl (fun hc => ?_) (fun hc => ?_) <;> first | (exfalso; omega) | skip) | refine K.c_cond rfl (fun hc => ?_) (fun hc => ?_)))
  refine K.l_call (vals := [Ca.wv s, .int .u8 (v.n.toNat : Nat)]) (Fx.cal rfl) (by rw [show ((v.n.toNat : Nat) : Int) = v.n from by omega]; rfl) (Ca.W_U8 h s v.n.toNat (by omega) hl) (K.pp [1] rfl) rfl ?_
  rintro u h' H' - ⟨rfl, rfl, s', hs', rfl⟩
  (repeat' (first | (apply K.s_pure; (first | (apply Y.mv; exact X.mv) | (apply Y.cv; exact X.cv) | (apply Y.fa; exact X.fa) | (apply Y.ld; exact X.ld)); exact rfl) | refine X.l ?_ | refine X.w ?_ | refine X.a ?_ | (refine K.c_condD rfl (fun hc => ?_) (fun hc => ?_) <;> first | (exfalso; omega) | skip) | refine K.c_cond rfl (fun hc => ?_) (fun hc => ?_)))
  refine K.AT.sel [1] rfl ?_
  refine K.done (by first | exact Or.inl rfl | exact Or.inr rfl) rfl (by first | exact K.Base.le.refl _ | assumption) (H' := [Ca.wA s']) rfl ⟨rfl, rfl, s', hs', rfl⟩

/-- What is read of a kind, and what is left. -/
def rdV (k : Int) (ok : Bool) (rem : List UInt8) : Val × Bool × List UInt8 :=
  if k = 1 then (⟨1, unzig (Cc.uN (Cc.found ok rem)), ⟨#[]⟩⟩, (Cc.found ok rem).isSome, Cc.uRem (Cc.found ok rem) rem)
  else if k = 2 then (⟨2, 0, ⟨(Cc.txtV (Cc.txt ok rem 64) rem).toArray⟩⟩, (Cc.txt ok rem 64).isSome, Cc.txtRem (Cc.txt ok rem 64) rem)
  else (⟨3, (Cc.getN ok 1 rem : Nat), ⟨#[]⟩⟩, Cc.getOk ok 1 rem, Cc.getRem ok 1 rem)
def RVPost (h : Base) (s : Option Cc.RS) (r : Val × Bool × List UInt8) (v : Value) (h' : Base) (H' : List Asrt) : Prop := h = h' ∧ v = .agg (cV r.1).toArray ∧ ∃ s', Cc.same s s' ∧ Cc.Rd h s' r.2.1 r.2.2 ∧ H' = [Cc.rA s']
theorem getN1_lt (ok : Bool) (rem : List UInt8) : Cc.getN ok 1 rem < 256 := by
  unfold Cc.getN
  split
  · rename_i hc
    have := leNum_lt (rem.take 1)
    rwa [List.length_take, Nat.min_eq_left hc.2] at this
  · omega
theorem Way2 (h : Base) (s : Option Cc.RS) (ok : Bool) (rem : List UInt8) (hr : Cc.Rd h s ok rem) (hl : rem.length ≤ Cc.big) : Tr Try.prog 37 [Cc.rv s] h [Cc.rA s] (RVPost h s (rdV 1 ok rem)) := by
  refine K.enter Try.func37 rfl (Nat.le_of_ble_eq_true rfl) (fun F => ?_)
  (repeat' (first | (apply K.s_pure; (first | (apply Y.mv; exact X.mv) | (apply Y.bd; exact X.bd)); exact rfl) | refine X.l ?_ | refine X.w ?_ | refine X.a ?_ | (refine K.c_condD rfl (fun hc => ?_) (fun hc => ?_) <;> first | (exfalso; omega) | skip) | refine K.c_cond rfl (fun hc => ?_) (fun hc => ?_)))
  refine K.l_alloc (Fx.zr rfl) rfl rfl (fun B => ?_)
  (repeat' (first | (apply K.s_pure; (first | (apply Y.mv; exact X.mv) | (apply Y.bd; exact X.bd)); exact rfl) | refine X.l ?_ | refine X.w ?_ | refine X.a ?_ | (refine K.c_condD rfl (fun hc => ?_) (fun hc => ?_) <;> first | (exfalso; omega) | skip) | refine K.c_cond rfl (fun hc => ?_) (fun hc => ?_)))
  refine K.l_call (Fx.cal rfl) rfl (Cc.R_Int h s ok rem hr hl) (K.pp [1] rfl) rfl ?_
  rintro u h' H' - ⟨rfl, rfl, s', hs', hr', rfl⟩
  (repeat' (first | (apply K.s_pure; (first | (apply Y.mv; exact X.mv) | (apply Y.bd; exact X.bd)); exact rfl) | refine X.l ?_ | refine X.w ?_ | refine X.a ?_ | (refine K.c_condD rfl (fun hc => ?_) (fun hc => ?_) <;> first | (exfalso; omega) | skip) | refine K.c_cond rfl (fun hc => ?_) (fun hc => ?_)))
  refine X.stw ?_
  (repeat' (first | (apply K.s_pure; (first | (apply Y.mv; exact X.mv) | (apply Y.bd; exact X.bd)); exact rfl) | refine X.l ?_ | refine X.w ?_ | refine X.a ?_ | (refine K.c_condD rfl (fun hc => ?_) (fun hc => ?_) <;> first | (exfalso; omega) | skip) | refine K.c_cond rfl (fun hc => ?_) (fun hc => ?_)))
  simp only [List.set_cons_zero, List.set_cons_succ, List.eraseIdx_cons_zero, List.eraseIdx_cons_succ, List.cons_append, List.nil_append]
  refine K.AT.perm (K.pp [1] rfl) ?_
  refine K.doneC (by first | exact Or.inl rfl | exact Or.inr rfl) (.cell rfl (Fx.agg rfl) (Fx.sz rfl) (K.cels_own (pre := []) (post := []) 0 rfl rfl) .nil) (by first | exact K.Base.le.refl _ | assumption) (D := [blk B 40 (cV (rdV 1 ok rem).1)]) (H' := [Cc.rA s']) rfl ⟨rfl, rfl, s', hs', hr', rfl⟩
theorem Way4 (h : Base) (s : Option Cc.RS) (ok : Bool) (rem : List UInt8) (hr : Cc.Rd h s ok rem) (hl : rem.length ≤ Cc.big) : Tr Try.prog 41 [Cc.rv s] h [Cc.rA s] (RVPost h s (rdV 2 ok rem)) := by
  refine K.enter Try.func41 rfl (Nat.le_of_ble_eq_true rfl) (fun F => ?_)
  (repeat' (first | (apply K.s_pure; (first | (apply Y.mv; exact X.mv) | (apply Y.bd; exact X.bd)); exact rfl) | refine X.l ?_ | refine X.w ?_ | refine X.a ?_ | (refine K.c_condD rfl (fun hc => ?_) (fun hc => ?_) <;> first | (exfalso; omega) | skip) | refine K.c_cond rfl (fun hc => ?_) (fun hc => ?_)))
  refine K.l_alloc (Fx.zr rfl) rfl rfl (fun B => ?_)
  (repeat' (first | (apply K.s_pure; (first | (apply Y.mv; exact X.mv) | (apply Y.bd; exact X.bd)); exact rfl) | refine X.l ?_ | refine X.w ?_ | refine X.a ?_ | (refine K.c_condD rfl (fun hc => ?_) (fun hc => ?_) <;> first | (exfalso; omega) | skip) | refine K.c_cond rfl (fun hc => ?_) (fun hc => ?_)))
  refine K.l_call (Fx.cal rfl) rfl (Cc.R_Text h s ok rem 64 hr hl (by omega) (by omega)) (K.pp [1] rfl) rfl ?_
  rintro u h' H' - ⟨rfl, rfl, s', hs', hr', rfl⟩
  (repeat' (first | (apply K.s_pure; (first | (apply Y.mv; exact X.mv) | (apply Y.bd; exact X.bd)); exact rfl) | refine X.l ?_ | refine X.w ?_ | refine X.a ?_ | (refine K.c_condD rfl (fun hc => ?_) (fun hc => ?_) <;> first | (exfalso; omega) | skip) | refine K.c_cond rfl (fun hc => ?_) (fun hc => ?_)))
  refine X.stw ?_
  (repeat' (first | (apply K.s_pure; (first | (apply Y.mv; exact X.mv) | (apply Y.bd; exact X.bd)); exact rfl) | refine X.l ?_ | refine X.w ?_ | refine X.a ?_ | (refine K.c_condD rfl (fun hc => ?_) (fun hc => ?_) <;> first | (exfalso; omega) | skip) | refine K.c_cond rfl (fun hc => ?_) (fun hc => ?_)))
  simp only [List.set_cons_zero, List.set_cons_succ, List.eraseIdx_cons_zero, List.eraseIdx_cons_succ, List.cons_append, List.nil_append]
  refine K.AT.perm (K.pp [1] rfl) ?_
  refine K.doneC (by first | exact Or.inl rfl | exact Or.inr rfl) (.cell rfl (Fx.agg rfl) (Fx.sz rfl) (K.cels_own (pre := []) (post := []) 0 rfl rfl) .nil) (by first | exact K.Base.le.refl _ | assumption) (D := [blk B 40 (cV (rdV 2 ok rem).1)]) (H' := [Cc.rA s']) rfl ⟨rfl, rfl, s', hs', hr', rfl⟩
theorem Way6 (h : Base) (s : Option Cc.RS) (ok : Bool) (rem : List UInt8) (hr : Cc.Rd h s ok rem) (hl : rem.length ≤ Cc.big) : Tr Try.prog 44 [Cc.rv s] h [Cc.rA s] (RVPost h s (rdV 3 ok rem)) := by
  refine K.enter Try.func44 rfl (Nat.le_of_ble_eq_true rfl) (fun F => ?_)
  have hlt := getN1_lt ok rem
  (repeat' (first | (apply K.s_pure; (first | (apply Y.mv; exact X.mv) | (apply Y.cv; exact X.cv) | (apply Y.bd; exact X.bd)); exact rfl) | refine X.l ?_ | refine X.w ?_ | refine X.a ?_ | (refine K.c_condD rfl (fun hc => ?_) (fun hc => ?_) <;> first | (exfalso; omega) | skip) | refine K.c_cond rfl (fun hc => ?_) (fun hc => ?_)))
  refine K.l_alloc (Fx.zr rfl) rfl rfl (fun B => ?_)
  (repeat' (first | (apply K.s_pure; (first | (apply Y.mv; exact X.mv) | (apply Y.cv; exact X.cv) | (apply Y.bd; exact X.bd)); exact rfl) | refine X.l ?_ | refine X.w ?_ | refine X.a ?_ | (refine K.c_condD rfl (fun hc => ?_) (fun hc => ?_) <;> first | (exfalso; omega) | skip) | refine K.c_cond rfl (fun hc => ?_) (fun hc => ?_)))
  refine K.l_call (Fx.cal rfl) rfl (Cc.R_U8 h s ok rem hr hl) (K.pp [1] rfl) rfl ?_
  rintro u h' H' - ⟨rfl, rfl, s', hs', hr', rfl⟩
  (repeat' (first | (apply K.s_pure; (first | (apply Y.mv; exact X.mv) | (apply Y.cv; exact X.cv) | (apply Y.bd; exact X.bd)); exact rfl) | refine X.l ?_ | refine X.w ?_ | refine X.a ?_ | (refine K.c_condD rfl (fun hc => ?_) (fun hc => ?_) <;> first | (exfalso; omega) | skip) | refine K.c_cond rfl (fun hc => ?_) (fun hc => ?_)))
  refine X.stw ?_
  (repeat' (first | (apply K.s_pure; (first | (apply Y.mv; exact X.mv) | (apply Y.cv; exact X.cv) | (apply Y.bd; exact X.bd)); exact rfl) | refine X.l ?_ | refine X.w ?_ | refine X.a ?_ | (refine K.c_condD rfl (fun hc => ?_) (fun hc => ?_) <;> first | (exfalso; omega) | skip) | refine K.c_cond rfl (fun hc => ?_) (fun hc => ?_)))
  simp only [List.set_cons_zero, List.set_cons_succ, List.eraseIdx_cons_zero, List.eraseIdx_cons_succ, List.cons_append, List.nil_append]
  refine K.AT.perm (K.pp [1] rfl) ?_
  refine K.doneC (by first | exact Or.inl rfl | exact Or.inr rfl) (.cell rfl (Fx.agg rfl) (Fx.sz rfl) (K.cels_own (pre := []) (post := []) 0 rfl rfl) .nil) (by first | exact K.Base.le.refl _ | assumption) (D := [blk B 40 (cV (rdV 3 ok rem).1)]) (H' := [Cc.rA s']) rfl ⟨rfl, rfl, s', hs', hr', rfl⟩
/-- The ways, as they lie in memory. -/
def waysC : List Value := [.int .i64 1, .func (.func 35) #[] #[], .func (.func 37) #[] #[], .int .i64 2, .func (.func 39) #[] #[], .func (.func 41) #[] #[], .int .i64 3, .func (.func 43) #[] #[], .func (.func 44) #[] #[]]
theorem Ways (h : Base) : TrV Try.prog 25 [] h [] (.agg waysC.toArray) [] := by
  refine K.enter Try.func25 rfl (Nat.le_of_ble_eq_true rfl) (fun F => ?_)
  (repeat' (first | (apply K.s_pure; (first | (apply Y.bd; exact X.bd)); exact rfl) | refine X.l ?_ | refine X.w ?_ | refine X.a ?_ | (refine K.c_condD rfl (fun hc => ?_) (fun hc => ?_) <;> first | (exfalso; omega) | skip) | refine K.c_cond rfl (fun hc => ?_) (fun hc => ?_)))
  refine K.l_alloc (Fx.zr rfl) rfl rfl (fun B => ?_)
  (repeat' (first | (apply K.s_pure; (first | (apply Y.bd; exact X.bd)); exact rfl) | refine X.l ?_ | refine X.w ?_ | refine X.a ?_ | (refine K.c_condD rfl (fun hc => ?_) (fun hc => ?_) <;> first | (exfalso; omega) | skip) | refine K.c_cond rfl (fun hc => ?_) (fun hc => ?_)))
  refine X.stw ?_
  (repeat' (first | (apply K.s_pure; (first | (apply Y.bd; exact X.bd)); exact rfl) | refine X.l ?_ | refine X.w ?_ | refine X.a ?_ | (refine K.c_condD rfl (fun hc => ?_) (fun hc => ?_) <;> first | (exfalso; omega) | skip) | refine K.c_cond rfl (fun hc => ?_) (fun hc => ?_)))
  refine K.doneC (by first | exact Or.inl rfl | exact Or.inr rfl) (.cell rfl (Fx.agg rfl) (Fx.sz rfl) (K.cels_own (pre := []) (post := []) 0 rfl rfl) .nil) (by first | exact K.Base.le.refl _ | assumption) (D := [blk B 53 waysC]) (H' := []) rfl ⟨rfl, rfl, rfl⟩
end Go.Proofs.Ythdiokdaaofebaa.Rw
