/-
  EvalValues and EvalHolds, walked. Conditions: each theorem's own.
-/
import Derived.Test.YteminhinpbcepaaEi

namespace Go.Proofs.Yteminhinpbcepaa.Rw
open Go Go.K Go.Proofs Go.Proofs.Yteminhinpbcepaa
set_option linter.unusedVariables false
set_option linter.unusedSimpArgs false
set_option maxRecDepth 10000

theorem lent_base {h : Base} {ao : Option Addr} {l : List Val} {cap : Nat} (hs : SL h 3 (.slice ao (l.length + 1) cap) ((l ++ [markV]).map cV)) : SL h 3 (.slice ao l.length cap) (l.map cV) := by
  have h1 := hs.take (q := l.length) (by simp)
  rw [← List.map_take, List.take_left] at h1
  exact h1
set_option maxHeartbeats 4000000 in
theorem EvalValues (m : Nat) (h : Base) (cs : List Value) (e : Ex) (rv : Value) (row : List Val) (hx : ExC h m cs e) (hrv : SL h 3 rv (row.map cV)) (hw : ∀ c ∈ row, wfV c) (hl : row.length * 32 ≤ 140737488351232) :
    Tr Try.prog 3 [.agg cs.toArray, rv] h [] (fun u h' H' => u = .bool true ∧ H' = []) := by
  have hll : row.length ≤ 9223372036854775806 := by omega
  obtain ⟨ao2, ca2, rfl⟩ := hrv.len
  have hlen : (row.map cV).length = row.length := List.length_map ..
  rw [hlen] at hrv ⊢
  obtain ⟨op', val', tb', nm', col', ao', n', ca', rfl⟩ := hx.form
  refine K.enter Try.func3 rfl (Nat.le_of_ble_eq_true rfl) (fun F => ?_)
  simp only [List.nil_append]
  (repeat' (first | (apply K.s_pure; (first | (apply Y.mv; exact X.mv) | (apply Y.sg; exact X.sg) | (apply Y.pk; exact X.pk) | (apply Y.ex; exact X.ex) | (apply Y.fa; exact X.fa) | (apply Y.ld; exact X.ld) | (apply Y.ia; exact X.ia) | (apply Y.sl; exact X.sl) | (apply Y.len; exact X.len) | (apply Y.badd; exact X.badd) | (apply Y.beql; exact X.beql)); exact rfl) | refine X.l ?_ | refine X.w ?_ | refine X.a ?_ | (refine K.c_condD rfl (fun hc => ?_) (fun hc => ?_) <;> first | (exfalso; omega) | skip) | refine K.c_cond rfl (fun hc => ?_) (fun hc => ?_) | (refine K.s_guardD rfl rfl (fun hc => ?_) (fun hc => ?_) <;> first | (exfalso; omega) | skip) | refine K.s_guard rfl rfl (fun hc => ?_) (fun hc => ?_)))
  refine K.l_box rfl rfl rfl (fun B1 => ?_)
  (repeat' (first | (apply K.s_pure; (first | (apply Y.mv; exact X.mv) | (apply Y.sg; exact X.sg) | (apply Y.pk; exact X.pk) | (apply Y.ex; exact X.ex) | (apply Y.fa; exact X.fa) | (apply Y.ld; exact X.ld) | (apply Y.ia; exact X.ia) | (apply Y.sl; exact X.sl) | (apply Y.len; exact X.len) | (apply Y.badd; exact X.badd) | (apply Y.beql; exact X.beql)); exact rfl) | refine X.l ?_ | refine X.w ?_ | refine X.a ?_ | (refine K.c_condD rfl (fun hc => ?_) (fun hc => ?_) <;> first | (exfalso; omega) | skip) | refine K.c_cond rfl (fun hc => ?_) (fun hc => ?_) | (refine K.s_guardD rfl rfl (fun hc => ?_) (fun hc => ?_) <;> first | (exfalso; omega) | skip) | refine K.s_guard rfl rfl (fun hc => ?_) (fun hc => ?_)))
  refine K.l_call (Fx.cal rfl) rfl (lent_cV h _ row hrv hl) (K.pp [] rfl) rfl ?_
  rintro w h1 H' le1 ⟨rfl, ao, cap, rfl, hcap, hsl⟩
  simp only [List.nil_append]
  have hx := hx.le le1
  have hrv := hrv.le le1
  have hb := lent_base hsl
  (repeat' (first | (apply K.s_pure; (first | (apply Y.mv; exact X.mv) | (apply Y.sg; exact X.sg) | (apply Y.pk; exact X.pk) | (apply Y.ex; exact X.ex) | (apply Y.fa; exact X.fa) | (apply Y.ld; exact X.ld) | (apply Y.ia; exact X.ia) | (apply Y.sl; exact X.sl) | (apply Y.len; exact X.len) | (apply Y.badd; exact X.badd) | (apply Y.beql; exact X.beql)); exact rfl) | refine X.l ?_ | refine X.w ?_ | refine X.a ?_ | (refine K.c_condD rfl (fun hc => ?_) (fun hc => ?_) <;> first | (exfalso; omega) | skip) | refine K.c_cond rfl (fun hc => ?_) (fun hc => ?_) | (refine K.s_guardD rfl rfl (fun hc => ?_) (fun hc => ?_) <;> first | (exfalso; omega) | skip) | refine K.s_guard rfl rfl (fun hc => ?_) (fun hc => ?_)))
  refine K.l_callV (Fx.cal rfl) rfl (Eval m h1 _ e _ row hx hb hw (by omega)) (K.pp [] rfl) rfl rfl ?_
  simp only [List.nil_append]
  generalize hR : evalQ row e = R
  obtain ⟨x, f⟩ := R
  rw [show rV (x, f) = .tuple #[.agg (cV x).toArray, .int .i64 f] from rfl]
  (repeat' (first | (apply K.s_pure; (first | (apply Y.mv; exact X.mv) | (apply Y.sg; exact X.sg) | (apply Y.pk; exact X.pk) | (apply Y.ex; exact X.ex) | (apply Y.fa; exact X.fa) | (apply Y.ld; exact X.ld) | (apply Y.ia; exact X.ia) | (apply Y.sl; exact X.sl) | (apply Y.len; exact X.len) | (apply Y.badd; exact X.badd) | (apply Y.beql; exact X.beql)); exact rfl) | refine X.l ?_ | refine X.w ?_ | refine X.a ?_ | (refine K.c_condD rfl (fun hc => ?_) (fun hc => ?_) <;> first | (exfalso; omega) | skip) | refine K.c_cond rfl (fun hc => ?_) (fun hc => ?_) | (refine K.s_guardD rfl rfl (fun hc => ?_) (fun hc => ?_) <;> first | (exfalso; omega) | skip) | refine K.s_guard rfl rfl (fun hc => ?_) (fun hc => ?_)))
  refine K.l_alloc (Fx.zr rfl) rfl rfl (fun B2 => ?_)
  refine X.stw ?_
  (repeat' (first | (apply K.s_pure; (first | (apply Y.mv; exact X.mv) | (apply Y.sg; exact X.sg) | (apply Y.pk; exact X.pk) | (apply Y.ex; exact X.ex) | (apply Y.fa; exact X.fa) | (apply Y.ld; exact X.ld) | (apply Y.ia; exact X.ia) | (apply Y.sl; exact X.sl) | (apply Y.len; exact X.len) | (apply Y.badd; exact X.badd) | (apply Y.beql; exact X.beql)); exact rfl) | refine X.l ?_ | refine X.w ?_ | refine X.a ?_ | (refine K.c_condD rfl (fun hc => ?_) (fun hc => ?_) <;> first | (exfalso; omega) | skip) | refine K.c_cond rfl (fun hc => ?_) (fun hc => ?_) | (refine K.s_guardD rfl rfl (fun hc => ?_) (fun hc => ?_) <;> first | (exfalso; omega) | skip) | refine K.s_guard rfl rfl (fun hc => ?_) (fun hc => ?_)))
  refine K.l_callV (Fx.cal rfl) rfl (REval m h1 _ e _ row hx hrv hw (by omega)) (K.pp [] rfl) rfl rfl ?_
  simp only [List.nil_append]
  rw [hR, show rV (x, f) = .tuple #[.agg (cV x).toArray, .int .i64 f] from rfl]
  (repeat' (first | (apply K.s_pure; (first | (apply Y.mv; exact X.mv) | (apply Y.sg; exact X.sg) | (apply Y.pk; exact X.pk) | (apply Y.ex; exact X.ex) | (apply Y.fa; exact X.fa) | (apply Y.ld; exact X.ld) | (apply Y.ia; exact X.ia) | (apply Y.sl; exact X.sl) | (apply Y.len; exact X.len) | (apply Y.badd; exact X.badd) | (apply Y.beql; exact X.beql)); exact rfl) | refine X.l ?_ | refine X.w ?_ | refine X.a ?_ | (refine K.c_condD rfl (fun hc => ?_) (fun hc => ?_) <;> first | (exfalso; omega) | skip) | refine K.c_cond rfl (fun hc => ?_) (fun hc => ?_) | (refine K.s_guardD rfl rfl (fun hc => ?_) (fun hc => ?_) <;> first | (exfalso; omega) | skip) | refine K.s_guard rfl rfl (fun hc => ?_) (fun hc => ?_)))
  refine K.l_alloc (Fx.zr rfl) rfl rfl (fun B3 => ?_)
  refine X.stw ?_
  (repeat' (first | (apply K.s_pure; (first | (apply Y.mv; exact X.mv) | (apply Y.sg; exact X.sg) | (apply Y.pk; exact X.pk) | (apply Y.ex; exact X.ex) | (apply Y.fa; exact X.fa) | (apply Y.ld; exact X.ld) | (apply Y.ia; exact X.ia) | (apply Y.sl; exact X.sl) | (apply Y.len; exact X.len) | (apply Y.badd; exact X.badd) | (apply Y.beql; exact X.beql)); exact rfl) | refine X.l ?_ | refine X.w ?_ | refine X.a ?_ | (refine K.c_condD rfl (fun hc => ?_) (fun hc => ?_) <;> first | (exfalso; omega) | skip) | refine K.c_cond rfl (fun hc => ?_) (fun hc => ?_) | (refine K.s_guardD rfl rfl (fun hc => ?_) (fun hc => ?_) <;> first | (exfalso; omega) | skip) | refine K.s_guard rfl rfl (fun hc => ?_) (fun hc => ?_)))
  have hsl2 : ((row ++ [markV]).map cV).length = row.length + 1 := by simp
  have hmk : ((row ++ [markV]).map cV)[((row.length : Nat) : Int).toNat]? = some (cV markV) := by simp
  refine X.draw ([blk B3 23 (cV x), blk B2 23 (cV x), blk B1 26 (cE op' val' tb' nm' col' (.slice ao' n' ca'))]) [] (.pu 1 (.pu 2 (.pu 5 (.pu 6 (.st 0 (.st 4 (.on 3 (.on 7 (.pu 8 (.pu 9 (.st 10 (.st 12 (.on 11 (.on 13 (.pu 14 (.pu 15 (.pu 16 (.st 17 (.st 18 (.pu 19 (.pu 20 (.pu 21 (.pu 22 (.pu 23 (.pu 24 (.pu 25 (.pu 26 (.pu 27 (.pu 28 (.on 29 (.pu 30 (.pu 31 (.pu 32 (.pu 33 (.pu 34 (.pu 35 (.pu 36 (.pu 37 (.pu 38 (.st 39 (.pu 40 (.st 41 (.pu 42 (.pu 43 (.pu 44 (.on 45 (.pu 46 (.pu 47 .nil)))))))))))))))))))))))))))))))))))))))))))))))) ?_
  refine K.d_pu rfl (fun _ _ => X.mv) rfl ?_
  refine K.d_pu rfl (fun _ _ => X.len) rfl ?_
  refine K.d_pu rfl (fun _ _ => X.mv) rfl ?_
  refine K.d_pu rfl (fun _ _ => X.len) rfl ?_
  refine K.d_st rfl (K.p_loadW 2 rfl rfl (Fx.agg rfl) (Fx.sz rfl)) rfl ?_
  refine K.d_st rfl (K.p_loadW 2 rfl rfl (Fx.agg rfl) (Fx.sz rfl)) rfl ?_
  refine K.d_on rfl (fun KK hKK => ?_)
  refine K.l_callV (Fx.cal rfl) rfl (Right m h1 _ e row.length hx) (K.pp [] rfl) rfl rfl ?_
  simp only [List.nil_append]
  refine K.l_nil ?_
  refine X.onE hKK ?_
  refine K.d_on rfl (fun KK hKK => ?_)
  refine K.l_callV (Fx.cal rfl) rfl (RRight m h1 _ e row.length hx) (K.pp [] rfl) rfl rfl ?_
  simp only [List.nil_append]
  refine K.l_nil ?_
  refine X.onE hKK ?_
  refine K.d_pu rfl (fun _ _ => X.beql) rfl ?_
  rw [beq_self_eq_true]
  refine K.d_pu rfl (fun _ _ => X.mv) rfl ?_
  refine K.d_stG rfl rfl rfl (K.p_loadW 2 rfl rfl (Fx.agg rfl) (Fx.sz rfl)) rfl ?_
  refine K.d_stG rfl rfl rfl (K.p_loadW 2 rfl rfl (Fx.agg rfl) (Fx.sz rfl)) rfl ?_
  refine K.d_on rfl (fun KK hKK => ?_)
  refine K.s_take rfl rfl ?_
  refine K.l_callV (Fx.cal rfl) rfl (Safe m h1 _ e hx) (K.pp [] rfl) rfl rfl ?_
  simp only [List.nil_append]
  refine K.l_nil ?_
  refine X.onE hKK ?_
  refine K.d_on rfl (fun KK hKK => ?_)
  refine K.s_take rfl rfl ?_
  refine K.l_callV (Fx.cal rfl) rfl (RSafe m h1 _ e hx) (K.pp [] rfl) rfl rfl ?_
  simp only [List.nil_append]
  refine K.l_nil ?_
  refine X.onE hKK ?_
  first | refine K.d_skip rfl rfl rfl rfl ?_ | refine K.d_skipU rfl rfl rfl rfl rfl ?_ | refine K.d_puG rfl rfl rfl (fun _ _ => X.beql) rfl ?_
  rw [beq_self_eq_true]
  refine K.d_pu rfl (fun _ _ => X.pk) rfl ?_
  refine K.d_pu rfl (fun _ _ => X.mv) rfl ?_
  refine K.d_stG rfl rfl rfl (K.p_loadW 1 rfl rfl (Fx.agg rfl) (Fx.sz rfl)) rfl ?_
  refine K.d_stG rfl rfl rfl (K.p_loadW 0 rfl rfl (Fx.agg rfl) (Fx.sz rfl)) rfl ?_
  first | refine K.d_skip rfl rfl rfl rfl ?_ | refine K.d_skipU rfl rfl rfl rfl rfl ?_ | refine K.d_puG rfl rfl rfl (fun _ _ => X.beql) rfl ?_
  rw [eqV_dec, decide_eq_true (rfl : x = x)]
  refine K.d_pu rfl (fun _ _ => X.pk) rfl ?_
  refine K.d_pu rfl (fun _ _ => X.mv) rfl ?_
  first | refine K.d_skip rfl rfl rfl rfl ?_ | refine K.d_skipU rfl rfl rfl rfl rfl ?_ | refine K.d_puG rfl rfl rfl (fun _ _ => X.mv) rfl ?_
  first | refine K.d_skip rfl rfl rfl rfl ?_ | refine K.d_skipU rfl rfl rfl rfl rfl ?_ | refine K.d_puG rfl rfl rfl (fun _ _ => X.mv) rfl ?_
  first | refine K.d_skip rfl rfl rfl rfl ?_ | refine K.d_skipU rfl rfl rfl rfl rfl ?_ | refine K.d_puG rfl rfl rfl (fun _ _ => X.beql) rfl ?_
  rw [decide_eq_true (rfl : f = f)]
  refine K.d_pu rfl (fun _ _ => X.pk) rfl ?_
  refine K.d_pu rfl (fun _ _ => X.mv) rfl ?_
  first | refine K.d_skip rfl rfl rfl rfl ?_ | refine K.d_skipU rfl rfl rfl rfl rfl ?_ | refine K.d_puG rfl rfl rfl (fun _ _ => X.mv) rfl ?_
  first | refine K.d_skip rfl rfl rfl rfl ?_ | refine K.d_skipU rfl rfl rfl rfl rfl ?_ | refine K.d_puG rfl rfl rfl (fun _ _ => X.mv) rfl ?_
  refine K.d_on rfl (fun KK hKK => ?_)
  refine K.s_take rfl rfl ?_
  refine K.l_callV (Fx.cal rfl) rfl (Same h1 [] _ _ row row hb.k hrv.k (by omega) (by omega)) (K.pp [] rfl) rfl rfl ?_
  rw [decide_eq_true (rfl : row = row)]
  simp only [List.nil_append]
  refine K.l_nil ?_
  refine X.onE hKK ?_
  refine K.d_pu rfl (fun _ _ => X.pk) rfl ?_
  refine K.d_pu rfl (fun _ _ => X.mv) rfl ?_
  first | refine K.d_skip rfl rfl rfl rfl ?_ | refine K.d_skipU rfl rfl rfl rfl rfl ?_ | refine K.d_puG rfl rfl rfl (fun _ _ => X.mv) rfl ?_
  first | refine K.d_skip rfl rfl rfl rfl ?_ | refine K.d_skipU rfl rfl rfl rfl rfl ?_ | refine K.d_puG rfl rfl rfl (fun _ _ => X.mv) rfl ?_
  first | refine K.d_skip rfl rfl rfl rfl ?_ | refine K.d_skipU rfl rfl rfl rfl rfl ?_ | refine K.d_puG rfl rfl rfl (fun _ _ => X.len) rfl ?_
  first | refine K.d_skip rfl rfl rfl rfl ?_ | refine K.d_skipU rfl rfl rfl rfl rfl ?_ | refine K.d_puG rfl rfl rfl (fun _ _ => X.badd) rfl ?_
  refine K.d_puG rfl rfl rfl (fun _ _ => K.p_sliceU (q := row.length + 1) (Fx.und rfl) (Fx.sz rfl) rfl rfl (by omega) (by omega)) rfl ?_
  first | refine K.d_skip rfl rfl rfl rfl ?_ | refine K.d_skipU rfl rfl rfl rfl rfl ?_ | refine K.d_puG rfl rfl rfl (fun _ _ => X.mv) rfl ?_
  first | refine K.d_skip rfl rfl rfl rfl ?_ | refine K.d_skipU rfl rfl rfl rfl rfl ?_ | refine K.d_puG rfl rfl rfl (fun _ _ => X.len) rfl ?_
  refine K.d_stGE rfl rfl rfl (K.p_indexL hsl (Fx.und rfl) (Fx.sz rfl) rfl rfl (by omega) hmk) rfl ?_
  rintro v2 ⟨b, o, rfl, hcel⟩
  first | refine K.d_skip rfl rfl rfl rfl ?_ | refine K.d_skipU rfl rfl rfl rfl rfl ?_ | refine K.d_puG rfl rfl rfl (fun _ _ => X.fa) rfl ?_
  refine K.d_stG rfl rfl rfl (K.p_load (Fx.agg rfl) rfl (Cels.up hcel).1) rfl ?_
  first | refine K.d_skip rfl rfl rfl rfl ?_ | refine K.d_skipU rfl rfl rfl rfl rfl ?_ | refine K.d_puG rfl rfl rfl (fun _ _ => X.beql) rfl ?_
  rw [decide_eq_true (by rfl : markV.kind = 77)]
  refine K.d_pu rfl (fun _ _ => X.pk) rfl ?_
  refine K.d_pu rfl (fun _ _ => X.mv) rfl ?_
  refine K.d_on rfl (fun KK hKK => ?_)
  refine K.s_take rfl rfl ?_
  refine K.l_call (Fx.cal rfl) rfl (awake h1) (K.pp [] rfl) rfl ?_
  rintro w h2 H' le2 ⟨rfl, rfl⟩
  simp only [List.nil_append]
  refine K.l_nil ?_
  refine X.onE hKK ?_
  refine K.d_pu rfl (fun _ _ => X.pk) rfl ?_
  refine K.d_pu rfl (fun _ _ => X.sg) rfl ?_
  refine K.d_nil ?_
  (repeat' (first | (apply K.s_pure; (first | (apply Y.mv; exact X.mv) | (apply Y.sg; exact X.sg) | (apply Y.pk; exact X.pk) | (apply Y.ex; exact X.ex) | (apply Y.fa; exact X.fa) | (apply Y.ld; exact X.ld) | (apply Y.ia; exact X.ia) | (apply Y.sl; exact X.sl) | (apply Y.len; exact X.len) | (apply Y.badd; exact X.badd) | (apply Y.beql; exact X.beql)); exact rfl) | refine X.l ?_ | refine X.w ?_ | refine X.a ?_ | (refine K.c_condD rfl (fun hc => ?_) (fun hc => ?_) <;> first | (exfalso; omega) | skip) | refine K.c_cond rfl (fun hc => ?_) (fun hc => ?_) | (refine K.s_guardD rfl rfl (fun hc => ?_) (fun hc => ?_) <;> first | (exfalso; omega) | skip) | refine K.s_guard rfl rfl (fun hc => ?_) (fun hc => ?_)))
  refine K.AT.sel [0, 0, 0] rfl ?_
  refine K.done (by first | exact Or.inl rfl | exact Or.inr rfl) rfl (le1.trans le2) (H' := []) rfl ⟨rfl, rfl⟩
theorem EvalHolds (m : Nat) (h : Base) (lv rv : Value) (l : List Ex) (row : List Val) (hx : LsC h m lv l) (hrv : SL h 3 rv (row.map cV)) (hw : ∀ c ∈ row, wfV c) (hl : row.length * 32 ≤ 140737488351232) :
    Tr Try.prog 4 [lv, rv] h [] (fun u h' H' => u = .bool true ∧ H' = []) := by
  have hll : row.length ≤ 9223372036854775806 := by omega
  refine K.enter Try.func4 rfl (Nat.le_of_ble_eq_true rfl) (fun F => ?_)
  simp only [List.nil_append]
  (repeat' (first | (apply K.s_pure; (first | (apply Y.mv; exact X.mv) | (apply Y.sg; exact X.sg) | (apply Y.pk; exact X.pk) | (apply Y.ex; exact X.ex) | (apply Y.beql; exact X.beql)); exact rfl) | refine X.l ?_ | refine X.w ?_ | refine X.a ?_ | (refine K.c_condD rfl (fun hc => ?_) (fun hc => ?_) <;> first | (exfalso; omega) | skip) | refine K.c_cond rfl (fun hc => ?_) (fun hc => ?_) | (refine K.s_guardD rfl rfl (fun hc => ?_) (fun hc => ?_) <;> first | (exfalso; omega) | skip) | refine K.s_guard rfl rfl (fun hc => ?_) (fun hc => ?_)))
  refine K.l_call (Fx.cal rfl) rfl (lent_cV h _ row hrv hl) (K.pp [] rfl) rfl ?_
  rintro w h1 H' le1 ⟨rfl, ao, cap, rfl, hcap, hsl⟩
  simp only [List.nil_append]
  have hx : LsC h1 m lv l := by
    obtain ⟨es, a, b, c, d⟩ := hx
    exact ⟨es, a.le le1, b, c, fun j c e h1 h2 => (d j c e h1 h2).le le1⟩
  have hrv := hrv.le le1
  have hb := lent_base hsl
  (repeat' (first | (apply K.s_pure; (first | (apply Y.mv; exact X.mv) | (apply Y.sg; exact X.sg) | (apply Y.pk; exact X.pk) | (apply Y.ex; exact X.ex) | (apply Y.beql; exact X.beql)); exact rfl) | refine X.l ?_ | refine X.w ?_ | refine X.a ?_ | (refine K.c_condD rfl (fun hc => ?_) (fun hc => ?_) <;> first | (exfalso; omega) | skip) | refine K.c_cond rfl (fun hc => ?_) (fun hc => ?_) | (refine K.s_guardD rfl rfl (fun hc => ?_) (fun hc => ?_) <;> first | (exfalso; omega) | skip) | refine K.s_guard rfl rfl (fun hc => ?_) (fun hc => ?_)))
  refine K.l_callV (Fx.cal rfl) rfl (HoldsE m h1 _ _ l row hx hb hw (by omega)) (K.pp [] rfl) rfl rfl ?_
  simp only [List.nil_append]
  generalize hR : holdsQ row l = R
  obtain ⟨x, f⟩ := R
  rw [show bV (x, f) = .tuple #[.bool x, .int .i64 f] from rfl]
  (repeat' (first | (apply K.s_pure; (first | (apply Y.mv; exact X.mv) | (apply Y.sg; exact X.sg) | (apply Y.pk; exact X.pk) | (apply Y.ex; exact X.ex) | (apply Y.beql; exact X.beql)); exact rfl) | refine X.l ?_ | refine X.w ?_ | refine X.a ?_ | (refine K.c_condD rfl (fun hc => ?_) (fun hc => ?_) <;> first | (exfalso; omega) | skip) | refine K.c_cond rfl (fun hc => ?_) (fun hc => ?_) | (refine K.s_guardD rfl rfl (fun hc => ?_) (fun hc => ?_) <;> first | (exfalso; omega) | skip) | refine K.s_guard rfl rfl (fun hc => ?_) (fun hc => ?_)))
  refine K.l_callV (Fx.cal rfl) rfl (RHoldsE m h1 _ _ l row hx hrv hw (by omega)) (K.pp [] rfl) rfl rfl ?_
  simp only [List.nil_append]
  rw [hR, show bV (x, f) = .tuple #[.bool x, .int .i64 f] from rfl]
  refine K.s_pure X.mv rfl ?_
  refine K.s_pure X.ex rfl ?_
  refine K.s_pure X.ex rfl ?_
  refine K.s_pure X.sg rfl ?_
  refine K.s_pure X.sg rfl ?_
  refine X.l ?_
  refine X.a ?_
  refine X.w ?_
  refine X.w ?_
  refine K.s_pure X.mv rfl ?_
  refine K.s_pure X.mv rfl ?_
  refine K.s_pure X.beql rfl ?_
  rw [beq_self_eq_true]
  refine K.s_pure X.mv rfl ?_
  refine X.l ?_
  refine K.s_pure X.mv rfl ?_
  refine X.l ?_
  refine K.s_pure X.mv rfl ?_
  refine X.l ?_
  refine K.s_pure X.beql rfl ?_
  rw [decide_eq_true (rfl : f = f)]
  (repeat' (first | (apply K.s_pure; (first | (apply Y.mv; exact X.mv) | (apply Y.sg; exact X.sg) | (apply Y.pk; exact X.pk) | (apply Y.ex; exact X.ex) | (apply Y.beql; exact X.beql)); exact rfl) | refine X.l ?_ | refine X.w ?_ | refine X.a ?_ | (refine K.c_condD rfl (fun hc => ?_) (fun hc => ?_) <;> first | (exfalso; omega) | skip) | refine K.c_cond rfl (fun hc => ?_) (fun hc => ?_) | (refine K.s_guardD rfl rfl (fun hc => ?_) (fun hc => ?_) <;> first | (exfalso; omega) | skip) | refine K.s_guard rfl rfl (fun hc => ?_) (fun hc => ?_)))
  refine K.l_callV (Fx.cal rfl) rfl (Same h1 [] _ _ row row hb.k hrv.k (by omega) (by omega)) (K.pp [] rfl) rfl rfl ?_
  rw [decide_eq_true (rfl : row = row)]
  simp only [List.nil_append]
  (repeat' (first | (apply K.s_pure; (first | (apply Y.mv; exact X.mv) | (apply Y.sg; exact X.sg) | (apply Y.pk; exact X.pk) | (apply Y.ex; exact X.ex) | (apply Y.beql; exact X.beql)); exact rfl) | refine X.l ?_ | refine X.w ?_ | refine X.a ?_ | (refine K.c_condD rfl (fun hc => ?_) (fun hc => ?_) <;> first | (exfalso; omega) | skip) | refine K.c_cond rfl (fun hc => ?_) (fun hc => ?_) | (refine K.s_guardD rfl rfl (fun hc => ?_) (fun hc => ?_) <;> first | (exfalso; omega) | skip) | refine K.s_guard rfl rfl (fun hc => ?_) (fun hc => ?_)))
  refine K.l_call (Fx.cal rfl) rfl (awake h1) (K.pp [] rfl) rfl ?_
  rintro w h2 H' le2 ⟨rfl, rfl⟩
  simp only [List.nil_append]
  (repeat' (first | (apply K.s_pure; (first | (apply Y.mv; exact X.mv) | (apply Y.sg; exact X.sg) | (apply Y.pk; exact X.pk) | (apply Y.ex; exact X.ex) | (apply Y.beql; exact X.beql)); exact rfl) | refine X.l ?_ | refine X.w ?_ | refine X.a ?_ | (refine K.c_condD rfl (fun hc => ?_) (fun hc => ?_) <;> first | (exfalso; omega) | skip) | refine K.c_cond rfl (fun hc => ?_) (fun hc => ?_) | (refine K.s_guardD rfl rfl (fun hc => ?_) (fun hc => ?_) <;> first | (exfalso; omega) | skip) | refine K.s_guard rfl rfl (fun hc => ?_) (fun hc => ?_)))
  refine K.done (by first | exact Or.inl rfl | exact Or.inr rfl) rfl (le1.trans le2) (H' := []) rfl ⟨rfl, rfl⟩
theorem EvalValuesW (h : Base) (m : Nat) (cs : List Value) (e : Ex) (rv : Value) (row : List Val) (hx : ExC h m cs e) (hrv : SL h 3 rv (row.map cV)) (hw : ∀ c ∈ row, wfV c) (hl : row.length * 32 ≤ 140737488351232) :
    Tr Try.prog 3 [.agg cs.toArray, rv] h [] (fun u h' H' => u = .bool true ∧ H' = []) := EvalValues m h cs e rv row hx hrv hw hl
theorem EvalHoldsW (h : Base) (m : Nat) (lv : Value) (l : List Ex) (rv : Value) (row : List Val) (hx : LsC h m lv l) (hrv : SL h 3 rv (row.map cV)) (hw : ∀ c ∈ row, wfV c) (hl : row.length * 32 ≤ 140737488351232) :
    Tr Try.prog 4 [lv, rv] h [] (fun u h' H' => u = .bool true ∧ H' = []) := EvalHolds m h lv rv l row hx hrv hw hl
end Go.Proofs.Yteminhinpbcepaa.Rw
