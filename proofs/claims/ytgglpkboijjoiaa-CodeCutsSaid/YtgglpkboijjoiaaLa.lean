/-
  The walks of layer 2's statements: long, alive, write. Conditions: each theorem's own.
-/
import Derived.Test.YtgglpkboijjoiaaCb
import Derived.Test.YtgglpkboijjoiaaCf
import Derived.Test.YtgglpkboijjoiaaRa

namespace Go.Proofs.Ytgglpkboijjoiaa.La
open Go Go.K Go.Proofs Go.Proofs.Ytgglpkboijjoiaa
set_option linter.unusedVariables false
set_option linter.unusedSimpArgs false
set_option maxRecDepth 10000

/-- An item. -/
structure It where
  kind : Int
  x : Nat
  s : ByteArray
  n : Int
def cI (i : It) : List Value := [.int .i64 i.kind, .int .u64 i.x, .string i.s, .int .i64 i.n]
structure wfI (i : It) : Prop where
  k1 : -9223372036854775808 ≤ i.kind
  k2 : i.kind ≤ 9223372036854775807
  x : i.x < 18446744073709551616
  s : i.s.size ≤ 9223372036854775807
  n1 : -9223372036854775808 ≤ i.n
  n2 : i.n ≤ 9223372036854775807

/-- A writer that somebody made. -/
def mk : Ca.WSt → Prop
  | some (_, some _) => True
  | _ => False
theorem mk_add {bs : List UInt8} : ∀ {s s' : Ca.WSt}, mk s → Ca.wadd bs s s' → mk s' ∧ Ca.wb s' = Ca.wb s ++ bs
  | some (_, some (_, _, _)), some (_, some (_, _, _)), _, h => ⟨trivial, h.2⟩
  | none, _, h, _ => h.elim
  | some (_, none), _, h, _ => h.elim
  | some (_, some _), none, _, h => h.elim
  | some (_, some _), some (_, none), _, h => h.elim

theorem alive (h : Base) : Tr Try.prog 10 [] h [] (fun v h' H' => v = .bool true ∧ H' = []) := by
  refine K.enter Try.func10 rfl (Nat.le_of_ble_eq_true rfl) (fun F => ?_)
  (repeat' (first | (apply K.s_pure; (first | (apply Y.mv; exact X.mv) | (apply Y.sg; exact X.sg) | (apply Y.pk; exact X.pk) | (apply Y.cv; exact X.cv) | (apply Y.beql; exact X.beql)); exact rfl) | refine X.l ?_ | refine X.w ?_ | refine X.a ?_ | (refine K.c_condD rfl (fun hc => ?_) (fun hc => ?_) <;> first | (exfalso; omega) | skip) | refine K.c_cond rfl (fun hc => ?_) (fun hc => ?_) | (refine K.s_guardD rfl rfl (fun hc => ?_) (fun hc => ?_) <;> first | (exfalso; omega) | skip) | refine K.s_guard rfl rfl (fun hc => ?_) (fun hc => ?_)))
  refine K.l_call (Fx.cal rfl) rfl (Ca.NewWriter h) (K.pp [] rfl) rfl ?_
  rintro v h' H' - ⟨rfl, p, rfl, rfl⟩
  (repeat' (first | (apply K.s_pure; (first | (apply Y.mv; exact X.mv) | (apply Y.sg; exact X.sg) | (apply Y.pk; exact X.pk) | (apply Y.cv; exact X.cv) | (apply Y.beql; exact X.beql)); exact rfl) | refine X.l ?_ | refine X.w ?_ | refine X.a ?_ | (refine K.c_condD rfl (fun hc => ?_) (fun hc => ?_) <;> first | (exfalso; omega) | skip) | refine K.c_cond rfl (fun hc => ?_) (fun hc => ?_) | (refine K.s_guardD rfl rfl (fun hc => ?_) (fun hc => ?_) <;> first | (exfalso; omega) | skip) | refine K.s_guard rfl rfl (fun hc => ?_) (fun hc => ?_)))
  refine K.l_call (Fx.cal rfl) rfl (Ca.W_U16 h _ 258 (by omega) (by simp [Ca.wb, Ca.big])) (K.pp [0] rfl) rfl ?_
  rintro v h' H' - ⟨rfl, rfl, s1, hs1, rfl⟩
  (repeat' (first | (apply K.s_pure; (first | (apply Y.mv; exact X.mv) | (apply Y.sg; exact X.sg) | (apply Y.pk; exact X.pk) | (apply Y.cv; exact X.cv) | (apply Y.beql; exact X.beql)); exact rfl) | refine X.l ?_ | refine X.w ?_ | refine X.a ?_ | (refine K.c_condD rfl (fun hc => ?_) (fun hc => ?_) <;> first | (exfalso; omega) | skip) | refine K.c_cond rfl (fun hc => ?_) (fun hc => ?_) | (refine K.s_guardD rfl rfl (fun hc => ?_) (fun hc => ?_) <;> first | (exfalso; omega) | skip) | refine K.s_guard rfl rfl (fun hc => ?_) (fun hc => ?_)))
  have l1 : _ ≤ 0 + (K.lebs 258 2).length := Ca.wadd_len hs1
  have v1 := Ca.wadd_val hs1
  rw [K.lebs_length] at l1
  rw [← v1]
  refine K.l_call (Fx.cal rfl) rfl (Ca.W_Uint h s1 300 (by omega) (by unfold Ca.big; omega)) (K.pp [0] rfl) rfl ?_
  rintro v h' H' - ⟨rfl, rfl, s2, hs2, rfl⟩
  (repeat' (first | (apply K.s_pure; (first | (apply Y.mv; exact X.mv) | (apply Y.sg; exact X.sg) | (apply Y.pk; exact X.pk) | (apply Y.cv; exact X.cv) | (apply Y.beql; exact X.beql)); exact rfl) | refine X.l ?_ | refine X.w ?_ | refine X.a ?_ | (refine K.c_condD rfl (fun hc => ?_) (fun hc => ?_) <;> first | (exfalso; omega) | skip) | refine K.c_cond rfl (fun hc => ?_) (fun hc => ?_) | (refine K.s_guardD rfl rfl (fun hc => ?_) (fun hc => ?_) <;> first | (exfalso; omega) | skip) | refine K.s_guard rfl rfl (fun hc => ?_) (fun hc => ?_)))
  have l2 := Ca.wadd_len hs2
  have v2 := Ca.wadd_val hs2
  have c2 := K.cu_len 300
  rw [← v2]
  refine K.l_call (Fx.cal rfl) rfl (Ca.W_Int h s2 (-1) (by omega) (by omega) (by unfold Ca.big; omega)) (K.pp [0] rfl) rfl ?_
  rintro v h' H' - ⟨rfl, rfl, s3, hs3, rfl⟩
  (repeat' (first | (apply K.s_pure; (first | (apply Y.mv; exact X.mv) | (apply Y.sg; exact X.sg) | (apply Y.pk; exact X.pk) | (apply Y.cv; exact X.cv) | (apply Y.beql; exact X.beql)); exact rfl) | refine X.l ?_ | refine X.w ?_ | refine X.a ?_ | (refine K.c_condD rfl (fun hc => ?_) (fun hc => ?_) <;> first | (exfalso; omega) | skip) | refine K.c_cond rfl (fun hc => ?_) (fun hc => ?_) | (refine K.s_guardD rfl rfl (fun hc => ?_) (fun hc => ?_) <;> first | (exfalso; omega) | skip) | refine K.s_guard rfl rfl (fun hc => ?_) (fun hc => ?_)))
  have l3 := Ca.wadd_len hs3
  have v3 := Ca.wadd_val hs3
  have c3 := K.cu_len (zig (-1))
  rw [← v3]
  refine K.l_call (Fx.cal rfl) rfl (Ca.W_Text h s3 ⟨#[97, 98]⟩ (by unfold Ca.big; show _ + 2 + _ ≤ _; omega)) (K.pp [0] rfl) rfl ?_
  rintro v h' H' - ⟨rfl, rfl, s4, hs4, rfl⟩
  have v4 := Ca.wadd_val hs4
  rw [← v4]
  have hall := Ca.wadd_trans (Ca.wadd_trans (Ca.wadd_trans hs1 hs2) hs3) hs4
  have hb4 : Ca.wb s4 = [2, 1, 172, 2, 1, 2, 97, 98] := by
    match s4, hall with
    | some (_, some (_, _, l)), ⟨_, e⟩ => rw [Ca.wb, e]; decide
  (repeat' (first | (apply K.s_pure; (first | (apply Y.mv; exact X.mv) | (apply Y.sg; exact X.sg) | (apply Y.pk; exact X.pk) | (apply Y.cv; exact X.cv) | (apply Y.beql; exact X.beql)); exact rfl) | refine X.l ?_ | refine X.w ?_ | refine X.a ?_ | (refine K.c_condD rfl (fun hc => ?_) (fun hc => ?_) <;> first | (exfalso; omega) | skip) | refine K.c_cond rfl (fun hc => ?_) (fun hc => ?_) | (refine K.s_guardD rfl rfl (fun hc => ?_) (fun hc => ?_) <;> first | (exfalso; omega) | skip) | refine K.s_guard rfl rfl (fun hc => ?_) (fun hc => ?_)))
  refine X.bs (fun B => ?_)
  refine K.l_call (Fx.cal rfl) rfl (Cc.NewReader h _ [172, 2, 7] [blk B 5 [u8 172, u8 2, u8 7]] (K.src_cells ⟨K.cel_own 0 rfl rfl, K.cel_own 0 rfl rfl, K.cel_own 0 rfl rfl, trivial⟩ rfl (by simp [K.u8_one])) (by simp [Cc.big])) (K.pp [0] rfl) rfl ?_
  rintro v h' H' hle ⟨q, sv, rfl, hr, rfl⟩
  (repeat' (first | (apply K.s_pure; (first | (apply Y.mv; exact X.mv) | (apply Y.sg; exact X.sg) | (apply Y.pk; exact X.pk) | (apply Y.cv; exact X.cv) | (apply Y.beql; exact X.beql)); exact rfl) | refine X.l ?_ | refine X.w ?_ | refine X.a ?_ | (refine K.c_condD rfl (fun hc => ?_) (fun hc => ?_) <;> first | (exfalso; omega) | skip) | refine K.c_cond rfl (fun hc => ?_) (fun hc => ?_) | (refine K.s_guardD rfl rfl (fun hc => ?_) (fun hc => ?_) <;> first | (exfalso; omega) | skip) | refine K.s_guard rfl rfl (fun hc => ?_) (fun hc => ?_)))
  have hf : Cc.found true [172, 2, 7] = some (300, 2) := by decide
  refine K.l_call (Fx.cal rfl) rfl (Cc.R_Uint h' _ true _ hr (by simp [Cc.big])) (K.pp [0] rfl) rfl ?_
  rintro v h2 H' - ⟨rfl, rfl, r1, hr1s, hr1, rfl⟩
  rw [hf] at hr1 ⊢
  simp only [Cc.uN, Cc.uRem, Option.isSome_some, List.drop_succ_cons, List.drop_zero] at hr1 ⊢
  have w1 := Cc.same_val hr1s
  (repeat' (first | (apply K.s_pure; (first | (apply Y.mv; exact X.mv) | (apply Y.sg; exact X.sg) | (apply Y.pk; exact X.pk) | (apply Y.cv; exact X.cv) | (apply Y.beql; exact X.beql)); exact rfl) | refine X.l ?_ | refine X.w ?_ | refine X.a ?_ | (refine K.c_condD rfl (fun hc => ?_) (fun hc => ?_) <;> first | (exfalso; omega) | skip) | refine K.c_cond rfl (fun hc => ?_) (fun hc => ?_) | (refine K.s_guardD rfl rfl (fun hc => ?_) (fun hc => ?_) <;> first | (exfalso; omega) | skip) | refine K.s_guard rfl rfl (fun hc => ?_) (fun hc => ?_)))
  refine K.l_call (Fx.cal rfl) rfl (Ca.W_Bytes h' s4 (by rw [hb4]; decide)) (K.pp [2] rfl) rfl ?_
  rintro v h2 H' - ⟨rfl, a, cap, rfl, rfl⟩
  rw [hb4]
  (repeat' (first | (apply K.s_pure; (first | (apply Y.mv; exact X.mv) | (apply Y.sg; exact X.sg) | (apply Y.pk; exact X.pk) | (apply Y.cv; exact X.cv) | (apply Y.beql; exact X.beql)); exact rfl) | refine X.l ?_ | refine X.w ?_ | refine X.a ?_ | (refine K.c_condD rfl (fun hc => ?_) (fun hc => ?_) <;> first | (exfalso; omega) | skip) | refine K.c_cond rfl (fun hc => ?_) (fun hc => ?_) | (refine K.s_guardD rfl rfl (fun hc => ?_) (fun hc => ?_) <;> first | (exfalso; omega) | skip) | refine K.s_guard rfl rfl (fun hc => ?_) (fun hc => ?_)))
  refine K.l_call (Fx.cal rfl) rfl (Ca.W_Len h' s4) (K.pp [1] rfl) rfl ?_
  rintro v h2 H' - ⟨rfl, rfl, rfl⟩
  rw [hb4]
  (repeat' (first | (apply K.s_pure; (first | (apply Y.mv; exact X.mv) | (apply Y.sg; exact X.sg) | (apply Y.pk; exact X.pk) | (apply Y.cv; exact X.cv) | (apply Y.beql; exact X.beql)); exact rfl) | refine X.l ?_ | refine X.w ?_ | refine X.a ?_ | (refine K.c_condD rfl (fun hc => ?_) (fun hc => ?_) <;> first | (exfalso; omega) | skip) | refine K.c_cond rfl (fun hc => ?_) (fun hc => ?_) | (refine K.s_guardD rfl rfl (fun hc => ?_) (fun hc => ?_) <;> first | (exfalso; omega) | skip) | refine K.s_guard rfl rfl (fun hc => ?_) (fun hc => ?_)))
  refine K.l_callV (vals := [Cc.rv r1]) (Fx.cal rfl) (by rw [w1]; rfl) (Cc.R_Left h' r1 true _ hr1) (K.pp [2] rfl) rfl rfl ?_
  (repeat' (first | (apply K.s_pure; (first | (apply Y.mv; exact X.mv) | (apply Y.sg; exact X.sg) | (apply Y.pk; exact X.pk) | (apply Y.cv; exact X.cv) | (apply Y.beql; exact X.beql)); exact rfl) | refine X.l ?_ | refine X.w ?_ | refine X.a ?_ | (refine K.c_condD rfl (fun hc => ?_) (fun hc => ?_) <;> first | (exfalso; omega) | skip) | refine K.c_cond rfl (fun hc => ?_) (fun hc => ?_) | (refine K.s_guardD rfl rfl (fun hc => ?_) (fun hc => ?_) <;> first | (exfalso; omega) | skip) | refine K.s_guard rfl rfl (fun hc => ?_) (fun hc => ?_)))
  refine K.l_call (vals := [Cc.rv r1]) (Fx.cal rfl) (by rw [w1]; rfl) (Cc.R_End h' r1 true _ hr1 (by simp [Cc.big])) (K.pp [0] rfl) rfl ?_
  rintro v h2 H' - ⟨rfl, rfl, r2, hr2s, hr2, rfl⟩
  have w2 := Cc.same_val hr2s
  (repeat' (first | (apply K.s_pure; (first | (apply Y.mv; exact X.mv) | (apply Y.sg; exact X.sg) | (apply Y.pk; exact X.pk) | (apply Y.cv; exact X.cv) | (apply Y.beql; exact X.beql)); exact rfl) | refine X.l ?_ | refine X.w ?_ | refine X.a ?_ | (refine K.c_condD rfl (fun hc => ?_) (fun hc => ?_) <;> first | (exfalso; omega) | skip) | refine K.c_cond rfl (fun hc => ?_) (fun hc => ?_) | (refine K.s_guardD rfl rfl (fun hc => ?_) (fun hc => ?_) <;> first | (exfalso; omega) | skip) | refine K.s_guard rfl rfl (fun hc => ?_) (fun hc => ?_)))
  refine K.l_call (vals := [Cc.rv r2]) (Fx.cal rfl) (by rw [w2, w1]; rfl) (Cc.R_U8 h' r2 _ _ hr2 (by simp [Cc.big])) (K.pp [0] rfl) rfl ?_
  rintro v h2 H' - ⟨rfl, rfl, r3, hr3s, hr3, rfl⟩
  (repeat' (first | (apply K.s_pure; (first | (apply Y.mv; exact X.mv) | (apply Y.sg; exact X.sg) | (apply Y.pk; exact X.pk) | (apply Y.cv; exact X.cv) | (apply Y.beql; exact X.beql)); exact rfl) | refine X.l ?_ | refine X.w ?_ | refine X.a ?_ | (refine K.c_condD rfl (fun hc => ?_) (fun hc => ?_) <;> first | (exfalso; omega) | skip) | refine K.c_cond rfl (fun hc => ?_) (fun hc => ?_) | (refine K.s_guardD rfl rfl (fun hc => ?_) (fun hc => ?_) <;> first | (exfalso; omega) | skip) | refine K.s_guard rfl rfl (fun hc => ?_) (fun hc => ?_)))
  refine K.AT.sel [0, 0, 0, 0] rfl ?_
  refine K.done (by first | exact Or.inl rfl | exact Or.inr rfl) rfl (by first | exact K.Base.le.refl _ | assumption) (H' := []) rfl ⟨rfl, rfl⟩
end Go.Proofs.Ytgglpkboijjoiaa.La
