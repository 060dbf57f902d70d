/-
  Rows: a row's text, the reference's way. Conditions: each theorem's own.
-/
import Derived.Test.YthdiokdaaofebaaDj

namespace Go.Proofs.Ythdiokdaaofebaa.Rw
open Go Go.K Go.Proofs Go.Proofs.Ythdiokdaaofebaa
set_option linter.unusedVariables false
set_option linter.unusedSimpArgs false
set_option maxRecDepth 10000

/-- A function that hands back bytes of its own. -/
def Gave (h : Base) (l : List UInt8) (v : Value) (h' : Base) (H' : List Asrt) : Prop := h = h' ∧ ∃ a cap, v = bufV a l.length cap ∧ H' = [bufA 5 1 a l.length cap (l.map u8)]

theorem Small (h : Base) (x : Nat) (hx : x < 18446744073709551616) : Tr Try.prog 45 [.int .u64 x] h [] (Gave h (cu x)) := by
  refine K.enter Try.func45 rfl (Nat.le_of_ble_eq_true rfl) (fun F => ?_)
  refine K.WC.nilBuf 5 1 ?_
  (repeat' (first | (apply K.s_pure; (first | (apply Y.mv; exact X.mv) | (apply Y.sg; exact X.sg) | (apply Y.cv; exact X.cv) | (apply Y.badd; exact X.badd) | (apply Y.bgtr; exact X.bgtr) | (apply Y.bquo; exact X.bquo) | (apply Y.brem; exact X.brem)); exact rfl) | refine X.l ?_ | refine X.w ?_ | refine X.a ?_ | (refine K.c_condD rfl (fun hc => ?_) (fun hc => ?_) <;> first | (exfalso; omega) | skip) | refine K.c_cond rfl (fun hc => ?_) (fun hc => ?_)))
  refine K.c_loop (σ := Nat × Option Nat × Nat × List UInt8) (fun s => [(0, .int .u64 s.1), (3, bufV s.2.1 s.2.2.2.length s.2.2.1)]) (fun _ => h)
    (fun s => bufA 5 1 s.2.1 s.2.2.2.length s.2.2.1 (s.2.2.2.map u8) :: F) (fun s => s.1 < 18446744073709551616 ∧ s.2.2.2 ++ cu s.1 = cu x) (fun s => s.1) (x, none, 0, []) ⟨hx, rfl⟩ (by repeat (first | exact K.Sub.nil _ | refine K.Sub.cons rfl ?_)) rfl rfl ?_
  rintro ⟨y, a, cap, pre⟩ ⟨hy, hpre⟩ KL hKL
  dsimp only at hy hpre ⊢
  have hlen : pre.length ≤ 10 := by
    have h1 := congrArg List.length hpre
    have h2 := cu_len x
    rw [List.length_append] at h1
    omega
  (repeat' (first | (apply K.s_pure; (first | (apply Y.mv; exact X.mv) | (apply Y.sg; exact X.sg) | (apply Y.cv; exact X.cv) | (apply Y.badd; exact X.badd) | (apply Y.bgtr; exact X.bgtr) | (apply Y.bquo; exact X.bquo) | (apply Y.brem; exact X.brem)); exact rfl) | refine X.l ?_ | refine X.w ?_ | refine X.a ?_ | (refine K.c_condD rfl (fun hc => ?_) (fun hc => ?_) <;> first | (exfalso; omega) | skip) | refine K.c_cond rfl (fun hc => ?_) (fun hc => ?_)))
  · refine X.bs (fun B => ?_)
    refine K.l_append_at 1 rfl (Fx.und rfl) (Fx.und rfl) rfl (Fx.sz rfl) (Fx.zr rfl) rfl (Fx.byt rfl) rfl rfl (K.src_one (K.cel_own 0 rfl rfl) rfl) (by omega) (by omega) rfl (fun a' cap' => ?_)
    simp only [List.set_cons_zero, List.set_cons_succ, List.eraseIdx_cons_zero, List.eraseIdx_cons_succ, List.cons_append, List.nil_append]
    (repeat' (first | (apply K.s_pure; (first | (apply Y.mv; exact X.mv) | (apply Y.sg; exact X.sg) | (apply Y.cv; exact X.cv) | (apply Y.badd; exact X.badd) | (apply Y.bgtr; exact X.bgtr) | (apply Y.bquo; exact X.bquo) | (apply Y.brem; exact X.brem)); exact rfl) | refine X.l ?_ | refine X.w ?_ | refine X.a ?_ | (refine K.c_condD rfl (fun hc => ?_) (fun hc => ?_) <;> first | (exfalso; omega) | skip) | refine K.c_cond rfl (fun hc => ?_) (fun hc => ?_)))
    have e : pre.length + 1 = (pre ++ [UInt8.ofNat (y % 128 + 128)]).length := by simp
    rw [e]
    refine K.AT.drop (K.a_round hKL (y / 128, a', cap', pre ++ [UInt8.ofNat (y % 128 + 128)]) ⟨by omega, ?_⟩ (by repeat (first | exact K.Sub.nil _ | refine K.Sub.cons rfl ?_)) rfl ?_ (by dsimp only; omega))
    · dsimp only
      rw [← hpre, cu_ge (x := y) (by omega) hy, List.append_assoc]; rfl
    · dsimp only
      rw [List.map_append, List.map_singleton, K.u8_of (by omega), show ((y % 128 + 128 : Nat) : Int) = (y : Int) % 128 + 128 from by omega]
  · rw [cu_lt (by omega)] at hpre
    refine X.bs (fun B => ?_)
    refine K.l_append_at 1 rfl (Fx.und rfl) (Fx.und rfl) rfl (Fx.sz rfl) (Fx.zr rfl) rfl (Fx.byt rfl) rfl rfl (K.src_one (K.cel_own 0 rfl rfl) rfl) (by omega) (by omega) rfl (fun a' cap' => ?_)
    simp only [List.set_cons_zero, List.set_cons_succ, List.eraseIdx_cons_zero, List.eraseIdx_cons_succ, List.cons_append, List.nil_append]
    (repeat' (first | (apply K.s_pure; (first | (apply Y.mv; exact X.mv) | (apply Y.sg; exact X.sg) | (apply Y.cv; exact X.cv) | (apply Y.badd; exact X.badd) | (apply Y.bgtr; exact X.bgtr) | (apply Y.bquo; exact X.bquo) | (apply Y.brem; exact X.brem)); exact rfl) | refine X.l ?_ | refine X.w ?_ | refine X.a ?_ | (refine K.c_condD rfl (fun hc => ?_) (fun hc => ?_) <;> first | (exfalso; omega) | skip) | refine K.c_cond rfl (fun hc => ?_) (fun hc => ?_)))
    refine K.AT.drop ?_
    have e : pre.length + 1 = (pre ++ [UInt8.ofNat y]).length := by simp
    rw [e]
    refine K.done (by first | exact Or.inl rfl | exact Or.inr rfl) rfl (by first | exact K.Base.le.refl _ | assumption) (H' := [bufA 5 1 a' (pre ++ [UInt8.ofNat y]).length cap' (pre.map u8 ++ [.int .u8 y])]) rfl ⟨rfl, a', cap', ?_, ?_⟩
    · rw [← hpre]; rfl
    · rw [← hpre, List.map_append, List.map_singleton, K.u8_of (by omega)]

theorem One (h : Base) (v : Val) (hw : wfV v) (hok : okV v = true) (hk : v.kind ≠ 0) : Tr Try.prog 28 [.agg (cV v).toArray] h [] (Gave h (oneB v)) := by
  have hp := (okV_iff v).1 hok
  unfold okVP at hp
  have hn1 := hw.n1
  have hn2 := hw.n2
  have hsz : v.s.data.toList.length = v.s.size := by simp
  refine K.enter Try.func28 rfl (Nat.le_of_ble_eq_true rfl) (fun F => ?_)
  simp only [List.nil_append]
  by_cases h3 : v.kind = 3
  · have e : oneB v = [UInt8.ofNat v.n.toNat] := by
      rw [oneB, if_pos h3]
      show [UInt8.ofNat (v.n.toNat % 256)] = _
      rw [Nat.mod_eq_of_lt (by omega)]
    rw [e]
    (repeat' (first | (apply K.s_pure; (first | (apply Y.mv; exact X.mv) | (apply Y.sg; exact X.sg) | (apply Y.cv; exact X.cv) | (apply Y.fa; exact X.fa) | (apply Y.ld; exact X.ld) | (apply Y.len; exact X.len) | (apply Y.ng; exact X.ng) | (apply Y.badd; exact X.badd) | (apply Y.bmul; exact X.bmul) | (apply Y.beql; exact X.beql) | (apply Y.blss; exact X.blss)); exact rfl) | refine X.l ?_ | refine X.w ?_ | refine X.a ?_ | (refine K.c_condD rfl (fun hc => ?_) (fun hc => ?_) <;> first | (exfalso; omega) | skip) | refine K.c_cond rfl (fun hc => ?_) (fun hc => ?_)))
    refine K.l_box rfl rfl rfl (fun B => ?_)
    (repeat' (first | (apply K.s_pure; (first | (apply Y.mv; exact X.mv) | (apply Y.sg; exact X.sg) | (apply Y.cv; exact X.cv) | (apply Y.fa; exact X.fa) | (apply Y.ld; exact X.ld) | (apply Y.len; exact X.len) | (apply Y.ng; exact X.ng) | (apply Y.badd; exact X.badd) | (apply Y.bmul; exact X.bmul) | (apply Y.beql; exact X.beql) | (apply Y.blss; exact X.blss)); exact rfl) | refine X.l ?_ | refine X.w ?_ | refine X.a ?_ | (refine K.c_condD rfl (fun hc => ?_) (fun hc => ?_) <;> first | (exfalso; omega) | skip) | refine K.c_cond rfl (fun hc => ?_) (fun hc => ?_)))
    refine X.bs (fun B => ?_)
    refine K.WL.bufOf (m := 1) (s := 1) rfl (by unfold maxLen; omega) ?_
    (repeat' (first | (apply K.s_pure; (first | (apply Y.mv; exact X.mv) | (apply Y.sg; exact X.sg) | (apply Y.cv; exact X.cv) | (apply Y.fa; exact X.fa) | (apply Y.ld; exact X.ld) | (apply Y.len; exact X.len) | (apply Y.ng; exact X.ng) | (apply Y.badd; exact X.badd) | (apply Y.bmul; exact X.bmul) | (apply Y.beql; exact X.beql) | (apply Y.blss; exact X.blss)); exact rfl) | refine X.l ?_ | refine X.w ?_ | refine X.a ?_ | (refine K.c_condD rfl (fun hc => ?_) (fun hc => ?_) <;> first | (exfalso; omega) | skip) | refine K.c_cond rfl (fun hc => ?_) (fun hc => ?_)))
    refine K.AT.sel [1] rfl ?_
    refine K.done (by first | exact Or.inl rfl | exact Or.inr rfl) rfl (by first | exact K.Base.le.refl _ | assumption) (H' := [_]) rfl ⟨rfl, some _, 1, rfl, by rw [List.map_singleton, K.u8_of (by omega), Int.toNat_of_nonneg (by omega)]; rfl⟩
  · by_cases h2 : v.kind = 2
    · have e : oneB v = cu v.s.size ++ v.s.data.toList := by rw [oneB, if_neg h3, if_pos h2]
      rw [e]
      have hcl := cu_len v.s.size
      (repeat' (first | (apply K.s_pure; (first | (apply Y.mv; exact X.mv) | (apply Y.sg; exact X.sg) | (apply Y.cv; exact X.cv) | (apply Y.fa; exact X.fa) | (apply Y.ld; exact X.ld) | (apply Y.len; exact X.len) | (apply Y.ng; exact X.ng) | (apply Y.badd; exact X.badd) | (apply Y.bmul; exact X.bmul) | (apply Y.beql; exact X.beql) | (apply Y.blss; exact X.blss)); exact rfl) | refine X.l ?_ | refine X.w ?_ | refine X.a ?_ | (refine K.c_condD rfl (fun hc => ?_) (fun hc => ?_) <;> first | (exfalso; omega) | skip) | refine K.c_cond rfl (fun hc => ?_) (fun hc => ?_)))
      refine K.l_box rfl rfl rfl (fun B => ?_)
      (repeat' (first | (apply K.s_pure; (first | (apply Y.mv; exact X.mv) | (apply Y.sg; exact X.sg) | (apply Y.cv; exact X.cv) | (apply Y.fa; exact X.fa) | (apply Y.ld; exact X.ld) | (apply Y.len; exact X.len) | (apply Y.ng; exact X.ng) | (apply Y.badd; exact X.badd) | (apply Y.bmul; exact X.bmul) | (apply Y.beql; exact X.beql) | (apply Y.blss; exact X.blss)); exact rfl) | refine X.l ?_ | refine X.w ?_ | refine X.a ?_ | (refine K.c_condD rfl (fun hc => ?_) (fun hc => ?_) <;> first | (exfalso; omega) | skip) | refine K.c_cond rfl (fun hc => ?_) (fun hc => ?_)))
      refine K.l_call (Fx.cal rfl) rfl (Small h v.s.size (by omega)) (K.pp [] rfl) rfl ?_
      rintro u h' H' - ⟨rfl, a, cap, rfl, rfl⟩
      simp only [List.set_cons_zero, List.set_cons_succ, List.eraseIdx_cons_zero, List.eraseIdx_cons_succ, List.cons_append, List.nil_append]
      (repeat' (first | (apply K.s_pure; (first | (apply Y.mv; exact X.mv) | (apply Y.sg; exact X.sg) | (apply Y.cv; exact X.cv) | (apply Y.fa; exact X.fa) | (apply Y.ld; exact X.ld) | (apply Y.len; exact X.len) | (apply Y.ng; exact X.ng) | (apply Y.badd; exact X.badd) | (apply Y.bmul; exact X.bmul) | (apply Y.beql; exact X.beql) | (apply Y.blss; exact X.blss)); exact rfl) | refine X.l ?_ | refine X.w ?_ | refine X.a ?_ | (refine K.c_condD rfl (fun hc => ?_) (fun hc => ?_) <;> first | (exfalso; omega) | skip) | refine K.c_cond rfl (fun hc => ?_) (fun hc => ?_)))
      refine K.l_append_at 0 rfl (Fx.und rfl) (Fx.und rfl) rfl (Fx.sz rfl) (Fx.zr rfl) rfl (Fx.byt rfl) rfl rfl K.src_text (by omega) (by omega) rfl (fun a' cap' => ?_)
      simp only [List.set_cons_zero, List.set_cons_succ, List.eraseIdx_cons_zero, List.eraseIdx_cons_succ, List.cons_append, List.nil_append]
      (repeat' (first | (apply K.s_pure; (first | (apply Y.mv; exact X.mv) | (apply Y.sg; exact X.sg) | (apply Y.cv; exact X.cv) | (apply Y.fa; exact X.fa) | (apply Y.ld; exact X.ld) | (apply Y.len; exact X.len) | (apply Y.ng; exact X.ng) | (apply Y.badd; exact X.badd) | (apply Y.bmul; exact X.bmul) | (apply Y.beql; exact X.beql) | (apply Y.blss; exact X.blss)); exact rfl) | refine X.l ?_ | refine X.w ?_ | refine X.a ?_ | (refine K.c_condD rfl (fun hc => ?_) (fun hc => ?_) <;> first | (exfalso; omega) | skip) | refine K.c_cond rfl (fun hc => ?_) (fun hc => ?_)))
      refine K.AT.sel [1] rfl ?_
      refine K.done (by first | exact Or.inl rfl | exact Or.inr rfl) rfl (by first | exact K.Base.le.refl _ | assumption) (H' := [_]) rfl ⟨rfl, a', cap', by rw [List.length_append, hsz]; rfl, by rw [List.length_append, hsz, List.map_append]⟩
    · have e : oneB v = cu (zig v.n) := by rw [oneB, if_neg h3, if_neg h2]
      rw [e]
      have hz := zig_lt hn1 hn2
      by_cases hneg : v.n < 0
      · have ez : zig v.n = (2 * (-(v.n + 1)) + 1).toNat := by rw [zig, if_neg (by omega)]
        (repeat' (first | (apply K.s_pure; (first | (apply Y.mv; exact X.mv) | (apply Y.sg; exact X.sg) | (apply Y.cv; exact X.cv) | (apply Y.fa; exact X.fa) | (apply Y.ld; exact X.ld) | (apply Y.len; exact X.len) | (apply Y.ng; exact X.ng) | (apply Y.badd; exact X.badd) | (apply Y.bmul; exact X.bmul) | (apply Y.beql; exact X.beql) | (apply Y.blss; exact X.blss)); exact rfl) | refine X.l ?_ | refine X.w ?_ | refine X.a ?_ | (refine K.c_condD rfl (fun hc => ?_) (fun hc => ?_) <;> first | (exfalso; omega) | skip) | refine K.c_cond rfl (fun hc => ?_) (fun hc => ?_)))
        refine K.l_box rfl rfl rfl (fun B => ?_)
        (repeat' (first | (apply K.s_pure; (first | (apply Y.mv; exact X.mv) | (apply Y.sg; exact X.sg) | (apply Y.cv; exact X.cv) | (apply Y.fa; exact X.fa) | (apply Y.ld; exact X.ld) | (apply Y.len; exact X.len) | (apply Y.ng; exact X.ng) | (apply Y.badd; exact X.badd) | (apply Y.bmul; exact X.bmul) | (apply Y.beql; exact X.beql) | (apply Y.blss; exact X.blss)); exact rfl) | refine X.l ?_ | refine X.w ?_ | refine X.a ?_ | (refine K.c_condD rfl (fun hc => ?_) (fun hc => ?_) <;> first | (exfalso; omega) | skip) | refine K.c_cond rfl (fun hc => ?_) (fun hc => ?_)))
        refine K.l_call (vals := [.int .u64 (zig v.n : Nat)]) (Fx.cal rfl) (by rw [ez, Int.toNat_of_nonneg (by omega), show 2 * -(v.n + 1) + 1 = 2 * (0 - (v.n + 1)) + 1 from by omega]; rfl) (Small h (zig v.n) hz) (K.pp [] rfl) rfl ?_
        rintro u h' H' - ⟨rfl, a, cap, rfl, rfl⟩
        simp only [List.set_cons_zero, List.set_cons_succ, List.eraseIdx_cons_zero, List.eraseIdx_cons_succ, List.cons_append, List.nil_append]
        (repeat' (first | (apply K.s_pure; (first | (apply Y.mv; exact X.mv) | (apply Y.sg; exact X.sg) | (apply Y.cv; exact X.cv) | (apply Y.fa; exact X.fa) | (apply Y.ld; exact X.ld) | (apply Y.len; exact X.len) | (apply Y.ng; exact X.ng) | (apply Y.badd; exact X.badd) | (apply Y.bmul; exact X.bmul) | (apply Y.beql; exact X.beql) | (apply Y.blss; exact X.blss)); exact rfl) | refine X.l ?_ | refine X.w ?_ | refine X.a ?_ | (refine K.c_condD rfl (fun hc => ?_) (fun hc => ?_) <;> first | (exfalso; omega) | skip) | refine K.c_cond rfl (fun hc => ?_) (fun hc => ?_)))
        refine K.AT.sel [1] rfl ?_
        refine K.done (by first | exact Or.inl rfl | exact Or.inr rfl) rfl (by first | exact K.Base.le.refl _ | assumption) (H' := [_]) rfl ⟨rfl, a, cap, rfl, rfl⟩
      · have ez : zig v.n = (2 * v.n).toNat := by rw [zig, if_pos (by omega)]
        (repeat' (first | (apply K.s_pure; (first | (apply Y.mv; exact X.mv) | (apply Y.sg; exact X.sg) | (apply Y.cv; exact X.cv) | (apply Y.fa; exact X.fa) | (apply Y.ld; exact X.ld) | (apply Y.len; exact X.len) | (apply Y.ng; exact X.ng) | (apply Y.badd; exact X.badd) | (apply Y.bmul; exact X.bmul) | (apply Y.beql; exact X.beql) | (apply Y.blss; exact X.blss)); exact rfl) | refine X.l ?_ | refine X.w ?_ | refine X.a ?_ | (refine K.c_condD rfl (fun hc => ?_) (fun hc => ?_) <;> first | (exfalso; omega) | skip) | refine K.c_cond rfl (fun hc => ?_) (fun hc => ?_)))
        refine K.l_box rfl rfl rfl (fun B => ?_)
        (repeat' (first | (apply K.s_pure; (first | (apply Y.mv; exact X.mv) | (apply Y.sg; exact X.sg) | (apply Y.cv; exact X.cv) | (apply Y.fa; exact X.fa) | (apply Y.ld; exact X.ld) | (apply Y.len; exact X.len) | (apply Y.ng; exact X.ng) | (apply Y.badd; exact X.badd) | (apply Y.bmul; exact X.bmul) | (apply Y.beql; exact X.beql) | (apply Y.blss; exact X.blss)); exact rfl) | refine X.l ?_ | refine X.w ?_ | refine X.a ?_ | (refine K.c_condD rfl (fun hc => ?_) (fun hc => ?_) <;> first | (exfalso; omega) | skip) | refine K.c_cond rfl (fun hc => ?_) (fun hc => ?_)))
        refine K.l_call (vals := [.int .u64 (zig v.n : Nat)]) (Fx.cal rfl) (by rw [ez, Int.toNat_of_nonneg (by omega)]; rfl) (Small h (zig v.n) hz) (K.pp [] rfl) rfl ?_
        rintro u h' H' - ⟨rfl, a, cap, rfl, rfl⟩
        simp only [List.set_cons_zero, List.set_cons_succ, List.eraseIdx_cons_zero, List.eraseIdx_cons_succ, List.cons_append, List.nil_append]
        (repeat' (first | (apply K.s_pure; (first | (apply Y.mv; exact X.mv) | (apply Y.sg; exact X.sg) | (apply Y.cv; exact X.cv) | (apply Y.fa; exact X.fa) | (apply Y.ld; exact X.ld) | (apply Y.len; exact X.len) | (apply Y.ng; exact X.ng) | (apply Y.badd; exact X.badd) | (apply Y.bmul; exact X.bmul) | (apply Y.beql; exact X.beql) | (apply Y.blss; exact X.blss)); exact rfl) | refine X.l ?_ | refine X.w ?_ | refine X.a ?_ | (refine K.c_condD rfl (fun hc => ?_) (fun hc => ?_) <;> first | (exfalso; omega) | skip) | refine K.c_cond rfl (fun hc => ?_) (fun hc => ?_)))
        refine K.AT.sel [1] rfl ?_
        refine K.done (by first | exact Or.inl rfl | exact Or.inr rfl) rfl (by first | exact K.Base.le.refl _ | assumption) (H' := [_]) rfl ⟨rfl, a, cap, rfl, rfl⟩

/-- The bits of what is Null among the first so many. -/
def chunk (r : List Val) (j c : Nat) : List Val := ((r.take j).drop (8 * c)).take 8
def nullAt (r : List Val) (m j : Nat) : List UInt8 := (List.range m).map fun c => UInt8.ofNat (nullNum (chunk r j c))
theorem nullAt_len (r : List Val) (m j : Nat) : (nullAt r m j).length = m := by simp [nullAt]
theorem nullAt_end (r : List Val) : nullAt r ((r.length + 7) / 8) r.length = nullB r := by
  unfold nullAt nullB chunk
  rw [List.take_length]
theorem chunk_len {r : List Val} {j : Nat} (hj : j ≤ r.length) : (chunk r j (j / 8)).length = j % 8 := by
  unfold chunk
  rw [List.length_take, List.length_drop, List.length_take]
  omega
theorem chunk_succ {r : List Val} {j : Nat} (hj : j < r.length) (c : Nat) : chunk r (j + 1) c = if c = j / 8 then chunk r j c ++ [r[j]] else chunk r j c := by
  unfold chunk
  rw [List.take_succ_eq_append_getElem hj]
  have hl : (r.take j).length = j := by rw [List.length_take]; omega
  split
  · rename_i hc
    subst hc
    rw [List.drop_append_of_le_length (by omega)]
    have e1 : ((r.take j).drop (8 * (j / 8))).length ≤ 7 := by rw [List.length_drop, hl]; omega
    generalize (r.take j).drop (8 * (j / 8)) = X at e1
    rw [List.take_of_length_le (l := X ++ [r[j]]) (by rw [List.length_append]; simp; omega), List.take_of_length_le (l := X) (by omega)]
  · rename_i hc
    rcases Nat.lt_or_ge c (j / 8) with hlt | hge
    · rw [List.drop_append_of_le_length (by omega), List.take_append_of_le_length (by rw [List.length_drop, hl]; omega)]
    · rw [List.drop_of_length_le (by rw [List.length_append, hl]; simp; omega), List.drop_of_length_le (by omega)]
theorem nullAt_succ1 {r : List Val} {m j : Nat} (hj : j < r.length) (hk : r[j].kind ≠ 0) : nullAt r m (j + 1) = nullAt r m j := by
  unfold nullAt
  refine List.map_congr_left fun c _ => ?_
  rw [chunk_succ hj]
  split
  · rw [nullNum_snoc, if_neg hk]; simp
  · rfl
theorem nullAt_succ0 {r : List Val} {m j : Nat} (hj : j < r.length) (hm : j / 8 < m) (hk : r[j].kind = 0) : nullAt r m (j + 1) = (nullAt r m j).set (j / 8) (UInt8.ofNat (nullNum (chunk r j (j / 8)) + 2 ^ (j % 8))) := by
  refine List.ext_getElem (by rw [List.length_set, nullAt_len, nullAt_len]) fun i h1 h2 => ?_
  rw [List.getElem_set]
  simp only [nullAt, List.getElem_map, List.getElem_range]
  rw [chunk_succ hj]
  split
  · rename_i hi
    subst hi
    rw [if_pos rfl, nullNum_snoc, if_pos hk, Nat.one_mul, chunk_len (by omega)]
  · rename_i hi
    rw [if_neg (fun e => hi e.symm)]
theorem add_bit : ∀ m : Nat, m < 8 → ∀ b : Nat, b < 2 ^ m → IntKind.u8.wrap ((b : Int) + IntKind.u8.wrap ((1 : Int) * 2 ^ (min ((m : Nat) : Int).toNat IntKind.u8.bits))) = ((b + 2 ^ m : Nat) : Int) := by decide +kernel
theorem zeros (k : Nat) : (madeCells (Value.int .u8 0).cells k).toList = (List.replicate k (0 : UInt8)).map u8 := by
  simp only [madeCells, Array.toList_map, Array.toList_range, List.map_replicate]
  refine List.ext_getElem (by simp) fun i h1 h2 => ?_
  simp [K.u8, Value.cells, Nat.mod_one]
theorem nullAt_0 (r : List Val) (m : Nat) : nullAt r m 0 = List.replicate m 0 := by
  refine List.ext_getElem (by simp [nullAt]) fun i h1 h2 => ?_
  simp [nullAt, chunk, nullNum]

set_option maxHeartbeats 4000000 in
theorem RefEncode (h : Base) (v u : Value) (l : List Col) (r : List Val) (hv : SL h 3 v (l.map cC)) (hu : SL h 3 u (r.map cV)) (hw : ∀ c ∈ l, wfC c) (hx : ∀ c ∈ r, wfV c) (hl : l.length ≤ 9223372036854775807) (hr : r.length ≤ 9223372036854775807) :
    TrV Try.prog 16 [v, u] h [] (.tuple #[.string ⟨(encR l r).1.toArray⟩, eV (encR l r).2]) [] := by
  have hlen2 : (r.map cV).length = r.length := List.length_map ..
  obtain ⟨ao2, ca2, rfl⟩ := hu.len
  rw [hlen2] at hu ⊢
  refine K.enter Try.func16 rfl (Nat.le_of_ble_eq_true rfl) (fun F => ?_)
  simp only [List.nil_append]
  (repeat' (first | (apply K.s_pure; (first | (apply Y.mv; exact X.mv) | (apply Y.sg; exact X.sg) | (apply Y.cv; exact X.cv) | (apply Y.fa; exact X.fa) | (apply Y.ld; exact X.ld) | (apply Y.ia; exact X.ia) | (apply Y.len; exact X.len) | (apply Y.badd; exact X.badd) | (apply Y.beql; exact X.beql) | (apply Y.bneq; exact X.bneq) | (apply Y.blss; exact X.blss) | (apply Y.bgtr; exact X.bgtr) | (apply Y.bshl; exact X.bshl) | (apply Y.bquo; exact X.bquo) | (apply Y.brem; exact X.brem)); exact rfl) | refine X.l ?_ | refine X.w ?_ | refine X.a ?_ | (refine K.c_condD rfl (fun hc => ?_) (fun hc => ?_) <;> first | (exfalso; omega) | skip) | refine K.c_cond rfl (fun hc => ?_) (fun hc => ?_)))
  refine K.l_callV (Fx.cal rfl) rfl (RefFits h [] v _ l r hv hu.k hw hx hl hr) (K.pp [] rfl) rfl rfl ?_
  simp only [List.nil_append, eV]
  by_cases hf : fitsE l r = 0
  · obtain ⟨hm, hlr, hr16, hall⟩ := fits_ok hf
    have her : encR l r = if 160 < (encB r).length then ([], 51) else (encB r, 0) := by rw [encR, if_neg (fun e => e hf)]
    rw [hf]
    (repeat' (first | (apply K.s_pure; (first | (apply Y.mv; exact X.mv) | (apply Y.sg; exact X.sg) | (apply Y.cv; exact X.cv) | (apply Y.fa; exact X.fa) | (apply Y.ld; exact X.ld) | (apply Y.ia; exact X.ia) | (apply Y.len; exact X.len) | (apply Y.badd; exact X.badd) | (apply Y.beql; exact X.beql) | (apply Y.bneq; exact X.bneq) | (apply Y.blss; exact X.blss) | (apply Y.bgtr; exact X.bgtr) | (apply Y.bshl; exact X.bshl) | (apply Y.bquo; exact X.bquo) | (apply Y.brem; exact X.brem)); exact rfl) | refine X.l ?_ | refine X.w ?_ | refine X.a ?_ | (refine K.c_condD rfl (fun hc => ?_) (fun hc => ?_) <;> first | (exfalso; omega) | skip) | refine K.c_cond rfl (fun hc => ?_) (fun hc => ?_)))
    rw [show (((r.length : Nat) : Int) + 7) / 8 = (((r.length + 7) / 8 : Nat) : Int) from by omega]
    refine K.l_makeSlice (m := (r.length + 7) / 8) (c := (r.length + 7) / 8) (Fx.und rfl) (Fx.sz rfl) (Fx.zr rfl) rfl (Fx.byt rfl) rfl rfl (by omega) (by omega) (by unfold maxLen; omega) rfl (fun Br => ?_)
    rw [Nat.mul_one, List.take_of_length_le (by rw [Array.length_toList, size_madeCells]; omega), zeros, ← nullAt_0 r]
    (repeat' (first | (apply K.s_pure; (first | (apply Y.mv; exact X.mv) | (apply Y.sg; exact X.sg) | (apply Y.cv; exact X.cv) | (apply Y.fa; exact X.fa) | (apply Y.ld; exact X.ld) | (apply Y.ia; exact X.ia) | (apply Y.len; exact X.len) | (apply Y.badd; exact X.badd) | (apply Y.beql; exact X.beql) | (apply Y.bneq; exact X.bneq) | (apply Y.blss; exact X.blss) | (apply Y.bgtr; exact X.bgtr) | (apply Y.bshl; exact X.bshl) | (apply Y.bquo; exact X.bquo) | (apply Y.brem; exact X.brem)); exact rfl) | refine X.l ?_ | refine X.w ?_ | refine X.a ?_ | (refine K.c_condD rfl (fun hc => ?_) (fun hc => ?_) <;> first | (exfalso; omega) | skip) | refine K.c_cond rfl (fun hc => ?_) (fun hc => ?_)))
    have hm1 : (r.length + 7) / 8 ≤ 2 := by omega
    generalize hmm : (r.length + 7) / 8 = m at hm1
    refine K.c_loop (σ := Nat) (fun j => [(1, .slice ao2 r.length ca2), (7, bufV (some Br) m m), (8, .int .i64 j)]) (fun _ => h) (fun j => bufA 5 1 (some Br) m m ((nullAt r m j).map u8) :: F)
      (fun j => j ≤ r.length) (fun j => r.length - j) 0 (Nat.zero_le _) (by repeat (first | exact K.Sub.nil _ | refine K.Sub.cons rfl ?_)) rfl rfl ?_
    rintro j hj KL hKL
    by_cases hjl : j < r.length
    · have hd0 : (r.map cV)[((j : Nat) : Int).toNat]? = some (cV r[j]) := by rw [Int.toNat_natCast, List.getElem?_map, List.getElem?_eq_getElem hjl]; rfl
      have hbl : nullNum (chunk r j (j / 8)) < 2 ^ (j % 8) := by
        have := nullNum_lt (chunk r j (j / 8))
        rwa [chunk_len hj] at this
      have h0 := nullAt_succ0 (r := r) (m := m) hjl (by omega)
      have h1 := nullAt_succ1 (r := r) (m := m) hjl
      generalize r[j] = d at hd0 h0 h1
      (repeat' (first | (apply K.s_pure; (first | (apply Y.mv; exact X.mv) | (apply Y.sg; exact X.sg) | (apply Y.cv; exact X.cv) | (apply Y.fa; exact X.fa) | (apply Y.ld; exact X.ld) | (apply Y.ia; exact X.ia) | (apply Y.len; exact X.len) | (apply Y.badd; exact X.badd) | (apply Y.beql; exact X.beql) | (apply Y.bneq; exact X.bneq) | (apply Y.blss; exact X.blss) | (apply Y.bgtr; exact X.bgtr) | (apply Y.bshl; exact X.bshl) | (apply Y.bquo; exact X.bquo) | (apply Y.brem; exact X.brem)); exact rfl) | refine X.l ?_ | refine X.w ?_ | refine X.a ?_ | (refine K.c_condD rfl (fun hc => ?_) (fun hc => ?_) <;> first | (exfalso; omega) | skip) | refine K.c_cond rfl (fun hc => ?_) (fun hc => ?_)))
      refine K.s_pureE (K.p_indexL hu (Fx.und rfl) (Fx.sz rfl) rfl rfl (by omega) hd0) rfl ?_
      rintro v2 ⟨b, o, rfl, hcel⟩
      have hq := (Cels.up (K := bufA 5 1 (some Br) m m ((nullAt r m j).map u8) :: F) hcel).1
      by_cases hk0 : d.kind = 0
      · have hp2 : 2 ^ (j % 8) ≤ 128 := Nat.pow_le_pow_right (n := 2) (j := 7) (by omega) (by omega)
        (repeat' (first | (apply K.s_pure; (first | (apply Y.mv; exact X.mv) | (apply Y.sg; exact X.sg) | (apply Y.cv; exact X.cv) | (apply Y.fa; exact X.fa) | (apply Y.ld; exact X.ld) | (apply Y.ia; exact X.ia) | (apply Y.len; exact X.len) | (apply Y.badd; exact X.badd) | (apply Y.beql; exact X.beql) | (apply Y.bneq; exact X.bneq) | (apply Y.blss; exact X.blss) | (apply Y.bgtr; exact X.bgtr) | (apply Y.bshl; exact X.bshl) | (apply Y.bquo; exact X.bquo) | (apply Y.brem; exact X.brem)); exact rfl) | refine X.l ?_ | refine X.w ?_ | refine X.a ?_ | (refine K.c_condD rfl (fun hc => ?_) (fun hc => ?_) <;> first | (exfalso; omega) | skip) | refine K.c_cond rfl (fun hc => ?_) (fun hc => ?_)))
        refine K.oc_buf (fun e => by cases e) ?_
        rintro bb sp fz e1 g2 g3 g4 g5 g6
        cases e1
        have hbx : nullNum (chunk r j (j / 8)) + 2 ^ (j % 8) < 2 ^ 8 := by omega
        have hce : Cel h [blkF Br 5 ((nullAt r m j).map u8 ++ sp) fz] Br (j / 8) (.int .u8 (nullNum (chunk r j (j / 8)) : Nat)) := K.cel_own 0 rfl (by
          rw [List.getElem?_append_left (by rw [List.length_map, nullAt_len]; omega), List.getElem?_map, List.getElem?_eq_getElem (by rw [nullAt_len]; omega)]
          simp only [nullAt, List.getElem_map, List.getElem_range, Option.map_some]
          rw [K.u8_of (by omega)])
        refine X.draw ([blkF Br 5 ((nullAt r m j).map u8 ++ sp) fz]) [13] (.pu 0 (.pu 1 (.pu 2 (.pu 3 (.pu 4 (.pu 5 (.pu 6 (.pu 8 (.pu 9 (.pu 10 (.st 7 (.pu 11 (.pu 12 (.cl 13 .nil)))))))))))))) ?_
        refine K.d_pu rfl (fun _ _ => X.mv) rfl ?_
        refine K.d_pu rfl (fun _ _ => X.mv) rfl ?_
        refine K.d_pu rfl (fun _ _ => X.bquo) rfl ?_
        rw [show ((j : Int) / 8) = ((j / 8 : Nat) : Int) from by omega]
        refine K.d_pu rfl (fun _ _ => X.mv) rfl ?_
        refine K.d_pu rfl (fun _ _ => X.mv) rfl ?_
        refine K.d_pu rfl (fun _ _ => X.bquo) rfl ?_
        rw [show ((j : Int) / 8) = ((j / 8 : Nat) : Int) from by omega]
        refine K.d_pu rfl (fun _ _ => X.ia) rfl ?_
        refine K.d_pu rfl (fun _ _ => X.mv) rfl ?_
        refine K.d_pu rfl (fun _ _ => X.brem) rfl ?_
        rw [show ((j : Int) % 8) = ((j % 8 : Nat) : Int) from by omega]
        refine K.d_pu rfl (fun _ _ => X.bshl) rfl ?_
        refine K.d_st rfl X.ld rfl ?_
        refine K.d_pu rfl (fun _ _ => X.badd) rfl ?_
        rw [add_bit (j % 8) (by omega) _ hbl]
        refine K.d_pu rfl (fun _ _ => X.ia) rfl ?_
        refine K.d_cl rfl (fun KK hKK => ?_)
        refine K.l_storeB (c := UInt8.ofNat (nullNum (chunk r j (j / 8)) + 2 ^ (j % 8))) (Fx.sz rfl) rfl rfl (by rw [UInt8.toNat_ofNat', Nat.mod_eq_of_lt hbx]) (by rw [nullAt_len]; omega) (fun o ho => g6 o (by rw [nullAt_len] at ho; omega)) ?_
        rw [← h0 hk0]
        refine K.l_nil ?_
        refine K.d_clE hKK ?_
        refine K.d_nil ?_
        (repeat' (first | (apply K.s_pure; (first | (apply Y.mv; exact X.mv) | (apply Y.sg; exact X.sg) | (apply Y.cv; exact X.cv) | (apply Y.fa; exact X.fa) | (apply Y.ld; exact X.ld) | (apply Y.ia; exact X.ia) | (apply Y.len; exact X.len) | (apply Y.badd; exact X.badd) | (apply Y.beql; exact X.beql) | (apply Y.bneq; exact X.bneq) | (apply Y.blss; exact X.blss) | (apply Y.bgtr; exact X.bgtr) | (apply Y.bshl; exact X.bshl) | (apply Y.bquo; exact X.bquo) | (apply Y.brem; exact X.brem)); exact rfl) | refine X.l ?_ | refine X.w ?_ | refine X.a ?_ | (refine K.c_condD rfl (fun hc => ?_) (fun hc => ?_) <;> first | (exfalso; omega) | skip) | refine K.c_cond rfl (fun hc => ?_) (fun hc => ?_)))
        refine K.AT.shut (s := 1) (m := m) (cap := m) (by simp [nullAt_len]) (by simpa [nullAt_len] using g3) g4 g5 g6 ?_
        refine K.a_round hKL (j + 1) (by omega) (by repeat (first | exact K.Sub.nil _ | refine K.Sub.cons rfl ?_)) rfl rfl (by omega)
      · (repeat' (first | (apply K.s_pure; (first | (apply Y.mv; exact X.mv) | (apply Y.sg; exact X.sg) | (apply Y.cv; exact X.cv) | (apply Y.fa; exact X.fa) | (apply Y.ld; exact X.ld) | (apply Y.ia; exact X.ia) | (apply Y.len; exact X.len) | (apply Y.badd; exact X.badd) | (apply Y.beql; exact X.beql) | (apply Y.bneq; exact X.bneq) | (apply Y.blss; exact X.blss) | (apply Y.bgtr; exact X.bgtr) | (apply Y.bshl; exact X.bshl) | (apply Y.bquo; exact X.bquo) | (apply Y.brem; exact X.brem)); exact rfl) | refine X.l ?_ | refine X.w ?_ | refine X.a ?_ | (refine K.c_condD rfl (fun hc => ?_) (fun hc => ?_) <;> first | (exfalso; omega) | skip) | refine K.c_cond rfl (fun hc => ?_) (fun hc => ?_)))
        rw [← h1 hk0]
        refine K.a_round hKL (j + 1) (by omega) (by repeat (first | exact K.Sub.nil _ | refine K.Sub.cons rfl ?_)) rfl rfl (by omega)
    · obtain rfl : j = r.length := by omega
      rw [← hmm, nullAt_end, hmm]
      (repeat' (first | (apply K.s_pure; (first | (apply Y.mv; exact X.mv) | (apply Y.sg; exact X.sg) | (apply Y.cv; exact X.cv) | (apply Y.fa; exact X.fa) | (apply Y.ld; exact X.ld) | (apply Y.ia; exact X.ia) | (apply Y.len; exact X.len) | (apply Y.badd; exact X.badd) | (apply Y.beql; exact X.beql) | (apply Y.bneq; exact X.bneq) | (apply Y.blss; exact X.blss) | (apply Y.bgtr; exact X.bgtr) | (apply Y.bshl; exact X.bshl) | (apply Y.bquo; exact X.bquo) | (apply Y.brem; exact X.brem)); exact rfl) | refine X.l ?_ | refine X.w ?_ | refine X.a ?_ | (refine K.c_condD rfl (fun hc => ?_) (fun hc => ?_) <;> first | (exfalso; omega) | skip) | refine K.c_cond rfl (fun hc => ?_) (fun hc => ?_)))
      have hnl : (nullB r).length = m := by simp [nullB, hmm]
      rw [← hnl]
      refine K.c_loop (σ := Nat × Option Nat × Nat) (fun q => [(1, .slice ao2 r.length ca2), (7, bufV q.2.1 (nullB r ++ (r.take q.1).flatMap valB).length q.2.2), (9, .int .i64 q.1)]) (fun _ => h)
        (fun q => bufA 5 1 q.2.1 (nullB r ++ (r.take q.1).flatMap valB).length q.2.2 ((nullB r ++ (r.take q.1).flatMap valB).map u8) :: F) (fun q => q.1 ≤ r.length) (fun q => r.length - q.1) (0, some Br, (nullB r).length) (Nat.zero_le _) ?_ rfl ?_ ?_
      · simp only [List.take_zero, List.flatMap_nil, List.append_nil]
        exact (by repeat (first | exact K.Sub.nil _ | refine K.Sub.cons rfl ?_))
      · simp only [List.take_zero, List.flatMap_nil, List.append_nil]
      rintro ⟨j, a, cap⟩ hj KM hKM
      dsimp only at hj ⊢
      have hwl : (nullB r ++ (r.take j).flatMap valB).length ≤ 1400 := by
        have h1 := flat_len (r.take j) fun x hx => hall x (List.mem_of_mem_take hx)
        rw [List.length_take] at h1
        rw [List.length_append]
        omega
      by_cases hjl : j < r.length
      · have hd0 : (r.map cV)[((j : Nat) : Int).toNat]? = some (cV r[j]) := by rw [Int.toNat_natCast, List.getElem?_map, List.getElem?_eq_getElem hjl]; rfl
        have htk : (r.take (j + 1)).flatMap valB = (r.take j).flatMap valB ++ valB r[j] := by
          rw [List.take_succ_eq_append_getElem hjl, List.flatMap_append]; simp
        have hok : okV r[j] = true := hall _ (List.getElem_mem hjl)
        have hwv : wfV r[j] := hx _ (List.getElem_mem hjl)
        generalize r[j] = d at hd0 htk hok hwv
        have hvl := valB_len hok
        have hbs : nullB r ++ (r.take (j + 1)).flatMap valB = (nullB r ++ (r.take j).flatMap valB) ++ valB d := by rw [htk, List.append_assoc]
        have hk1 := hwv.k1
        have hk2 := hwv.k2
        (repeat' (first | (apply K.s_pure; (first | (apply Y.mv; exact X.mv) | (apply Y.sg; exact X.sg) | (apply Y.cv; exact X.cv) | (apply Y.fa; exact X.fa) | (apply Y.ld; exact X.ld) | (apply Y.ia; exact X.ia) | (apply Y.len; exact X.len) | (apply Y.badd; exact X.badd) | (apply Y.beql; exact X.beql) | (apply Y.bneq; exact X.bneq) | (apply Y.blss; exact X.blss) | (apply Y.bgtr; exact X.bgtr) | (apply Y.bshl; exact X.bshl) | (apply Y.bquo; exact X.bquo) | (apply Y.brem; exact X.brem)); exact rfl) | refine X.l ?_ | refine X.w ?_ | refine X.a ?_ | (refine K.c_condD rfl (fun hc => ?_) (fun hc => ?_) <;> first | (exfalso; omega) | skip) | refine K.c_cond rfl (fun hc => ?_) (fun hc => ?_)))
        refine K.s_pureE (K.p_indexL hu (Fx.und rfl) (Fx.sz rfl) rfl rfl (by omega) hd0) rfl ?_
        rintro v2 ⟨b, o, rfl, hcel⟩
        have hq := (Cels.up (K := bufA 5 1 a (nullB r ++ (r.take j).flatMap valB).length cap ((nullB r ++ (r.take j).flatMap valB).map u8) :: F) hcel).1
        by_cases hk0 : d.kind = 0
        · rw [show valB d = [] from by rw [valB, if_pos hk0], List.append_nil] at hbs
          (repeat' (first | (apply K.s_pure; (first | (apply Y.mv; exact X.mv) | (apply Y.sg; exact X.sg) | (apply Y.cv; exact X.cv) | (apply Y.fa; exact X.fa) | (apply Y.ld; exact X.ld) | (apply Y.ia; exact X.ia) | (apply Y.len; exact X.len) | (apply Y.badd; exact X.badd) | (apply Y.beql; exact X.beql) | (apply Y.bneq; exact X.bneq) | (apply Y.blss; exact X.blss) | (apply Y.bgtr; exact X.bgtr) | (apply Y.bshl; exact X.bshl) | (apply Y.bquo; exact X.bquo) | (apply Y.brem; exact X.brem)); exact rfl) | refine X.l ?_ | refine X.w ?_ | refine X.a ?_ | (refine K.c_condD rfl (fun hc => ?_) (fun hc => ?_) <;> first | (exfalso; omega) | skip) | refine K.c_cond rfl (fun hc => ?_) (fun hc => ?_)))
          rw [← hbs]
          refine K.a_round hKM (j + 1, a, cap) (by dsimp only; omega) (by repeat (first | exact K.Sub.nil _ | refine K.Sub.cons rfl ?_)) rfl rfl (by dsimp only; omega)
        · have hvo : valB d = oneB d := by rw [valB, if_neg hk0]
          (repeat' (first | (apply K.s_pure; (first | (apply Y.mv; exact X.mv) | (apply Y.sg; exact X.sg) | (apply Y.cv; exact X.cv) | (apply Y.fa; exact X.fa) | (apply Y.ld; exact X.ld) | (apply Y.ia; exact X.ia) | (apply Y.len; exact X.len) | (apply Y.badd; exact X.badd) | (apply Y.beql; exact X.beql) | (apply Y.bneq; exact X.bneq) | (apply Y.blss; exact X.blss) | (apply Y.bgtr; exact X.bgtr) | (apply Y.bshl; exact X.bshl) | (apply Y.bquo; exact X.bquo) | (apply Y.brem; exact X.brem)); exact rfl) | refine X.l ?_ | refine X.w ?_ | refine X.a ?_ | (refine K.c_condD rfl (fun hc => ?_) (fun hc => ?_) <;> first | (exfalso; omega) | skip) | refine K.c_cond rfl (fun hc => ?_) (fun hc => ?_)))
          refine K.s_pureE (K.p_indexL hu (Fx.und rfl) (Fx.sz rfl) rfl rfl (by omega) hd0) rfl ?_
          rintro v3 ⟨b3, o3, rfl, hcel3⟩
          refine K.s_pure (K.p_loadM (Fx.agg rfl) rfl (Cels.up hcel3) (Fx.sz rfl) rfl) rfl ?_
          refine K.l_call (Fx.cal rfl) rfl (One h d hwv hok hk0) (K.pp [] rfl) rfl ?_
          rintro u h' H' - ⟨rfl, a1, cap1, rfl, rfl⟩
          rw [← hvo]
          simp only [List.set_cons_zero, List.set_cons_succ, List.eraseIdx_cons_zero, List.eraseIdx_cons_succ, List.cons_append, List.nil_append]
          refine K.l_append_at 1 rfl (Fx.und rfl) (Fx.und rfl) rfl (Fx.sz rfl) (Fx.zr rfl) rfl (Fx.byt rfl) rfl rfl (K.src_buf 0 rfl (by simp [K.u8_one]) (by simp)) (by omega) (by omega) rfl (fun a' cap' => ?_)
          simp only [List.set_cons_zero, List.set_cons_succ, List.eraseIdx_cons_zero, List.eraseIdx_cons_succ, List.cons_append, List.nil_append]
          rw [← List.map_append, ← List.length_append, ← hbs]
          (repeat' (first | (apply K.s_pure; (first | (apply Y.mv; exact X.mv) | (apply Y.sg; exact X.sg) | (apply Y.cv; exact X.cv) | (apply Y.fa; exact X.fa) | (apply Y.ld; exact X.ld) | (apply Y.ia; exact X.ia) | (apply Y.len; exact X.len) | (apply Y.badd; exact X.badd) | (apply Y.beql; exact X.beql) | (apply Y.bneq; exact X.bneq) | (apply Y.blss; exact X.blss) | (apply Y.bgtr; exact X.bgtr) | (apply Y.bshl; exact X.bshl) | (apply Y.bquo; exact X.bquo) | (apply Y.brem; exact X.brem)); exact rfl) | refine X.l ?_ | refine X.w ?_ | refine X.a ?_ | (refine K.c_condD rfl (fun hc => ?_) (fun hc => ?_) <;> first | (exfalso; omega) | skip) | refine K.c_cond rfl (fun hc => ?_) (fun hc => ?_)))
          refine K.AT.drop ?_
          refine K.a_round hKM (j + 1, a', cap') (by dsimp only; omega) (by repeat (first | exact K.Sub.nil _ | refine K.Sub.cons rfl ?_)) rfl rfl (by dsimp only; omega)
      · obtain rfl : j = r.length := by omega
        rw [List.take_length, show nullB r ++ r.flatMap valB = encB r from rfl] at hwl ⊢
        by_cases hwide : 160 < (encB r).length
        · rw [her, if_pos hwide]
          (repeat' (first | (apply K.s_pure; (first | (apply Y.mv; exact X.mv) | (apply Y.sg; exact X.sg) | (apply Y.cv; exact X.cv) | (apply Y.fa; exact X.fa) | (apply Y.ld; exact X.ld) | (apply Y.ia; exact X.ia) | (apply Y.len; exact X.len) | (apply Y.badd; exact X.badd) | (apply Y.beql; exact X.beql) | (apply Y.bneq; exact X.bneq) | (apply Y.blss; exact X.blss) | (apply Y.bgtr; exact X.bgtr) | (apply Y.bshl; exact X.bshl) | (apply Y.bquo; exact X.bquo) | (apply Y.brem; exact X.brem)); exact rfl) | refine X.l ?_ | refine X.w ?_ | refine X.a ?_ | (refine K.c_condD rfl (fun hc => ?_) (fun hc => ?_) <;> first | (exfalso; omega) | skip) | refine K.c_cond rfl (fun hc => ?_) (fun hc => ?_)))
          refine K.AT.drop ?_
          refine K.done (by first | exact Or.inl rfl | exact Or.inr rfl) rfl (by first | exact K.Base.le.refl _ | assumption) (H' := []) rfl ⟨rfl, rfl, rfl⟩
        · rw [her, if_neg hwide]
          (repeat' (first | (apply K.s_pure; (first | (apply Y.mv; exact X.mv) | (apply Y.sg; exact X.sg) | (apply Y.cv; exact X.cv) | (apply Y.fa; exact X.fa) | (apply Y.ld; exact X.ld) | (apply Y.ia; exact X.ia) | (apply Y.len; exact X.len) | (apply Y.badd; exact X.badd) | (apply Y.beql; exact X.beql) | (apply Y.bneq; exact X.bneq) | (apply Y.blss; exact X.blss) | (apply Y.bgtr; exact X.bgtr) | (apply Y.bshl; exact X.bshl) | (apply Y.bquo; exact X.bquo) | (apply Y.brem; exact X.brem)); exact rfl) | refine X.l ?_ | refine X.w ?_ | refine X.a ?_ | (refine K.c_condD rfl (fun hc => ?_) (fun hc => ?_) <;> first | (exfalso; omega) | skip) | refine K.c_cond rfl (fun hc => ?_) (fun hc => ?_)))
          refine K.AT.drop ?_
          refine K.done (by first | exact Or.inl rfl | exact Or.inr rfl) rfl (by first | exact K.Base.le.refl _ | assumption) (H' := []) rfl ⟨rfl, rfl, rfl⟩
  · rw [encR, if_pos hf]
    (repeat' (first | (apply K.s_pure; (first | (apply Y.mv; exact X.mv) | (apply Y.sg; exact X.sg) | (apply Y.cv; exact X.cv) | (apply Y.fa; exact X.fa) | (apply Y.ld; exact X.ld) | (apply Y.ia; exact X.ia) | (apply Y.len; exact X.len) | (apply Y.badd; exact X.badd) | (apply Y.beql; exact X.beql) | (apply Y.bneq; exact X.bneq) | (apply Y.blss; exact X.blss) | (apply Y.bgtr; exact X.bgtr) | (apply Y.bshl; exact X.bshl) | (apply Y.bquo; exact X.bquo) | (apply Y.brem; exact X.brem)); exact rfl) | refine X.l ?_ | refine X.w ?_ | refine X.a ?_ | (refine K.c_condD rfl (fun hc => ?_) (fun hc => ?_) <;> first | (exfalso; omega) | skip) | refine K.c_cond rfl (fun hc => ?_) (fun hc => ?_)))
    refine K.done (by first | exact Or.inl rfl | exact Or.inr rfl) rfl (by first | exact K.Base.le.refl _ | assumption) (H' := []) rfl ⟨rfl, rfl, rfl⟩
end Go.Proofs.Ythdiokdaaofebaa.Rw
