/-
  Rows: the row of a text, the package's way. Conditions: each theorem's own.
-/
import Derived.Test.YthdiokdaaofebaaDf

namespace Go.Proofs.Ythdiokdaaofebaa.Rw
open Go Go.K Go.Proofs Go.Proofs.Ythdiokdaaofebaa
set_option linter.unusedVariables false
set_option linter.unusedSimpArgs false
set_option maxRecDepth 10000

/-- Bytes that are read one by one. -/
def bytesN : Nat → Bool → List UInt8 → List UInt8 × Bool × List UInt8
  | 0, ok, rem => ([], ok, rem)
  | m + 1, ok, rem => ((bytesN m ok rem).1 ++ [UInt8.ofNat (Cc.getN (bytesN m ok rem).2.1 1 (bytesN m ok rem).2.2)], Cc.getOk (bytesN m ok rem).2.1 1 (bytesN m ok rem).2.2, Cc.getRem (bytesN m ok rem).2.1 1 (bytesN m ok rem).2.2)
/-- Is the bit of a place set? -/
def isNull (b : List UInt8) (i : Nat) : Bool := decide ((b.getD (i / 8) 0).toNat / 2 ^ (i % 8) % 2 = 1)
def zeroV : Val := ⟨0, 0, ⟨#[]⟩⟩
/-- The values that are read, column by column. -/
def rowP (b : List UInt8) (l : List Col) : Nat → Bool → List UInt8 → List Val × Bool × List UInt8
  | 0, ok, rem => ([], ok, rem)
  | j + 1, ok, rem => match l[j]? with
    | none => rowP b l j ok rem
    | some c => if isNull b j = true then ((rowP b l j ok rem).1 ++ [zeroV], (rowP b l j ok rem).2)
      else ((rowP b l j ok rem).1 ++ [(rdV c.kind (rowP b l j ok rem).2.1 (rowP b l j ok rem).2.2).1], (rdV c.kind (rowP b l j ok rem).2.1 (rowP b l j ok rem).2.2).2)
/-- The row that is read of a text, or why there is none. -/
def decP (l : List Col) (t : List UInt8) : List Val × Int :=
  if mayB l = false then ([], 1) else if 160 < t.length then ([], 5) else
  let b := bytesN ((l.length + 7) / 8) true t
  let q := rowP b.1 l l.length b.2.1 b.2.2
  if 0 < l.length % 8 ∧ (b.1.getD ((l.length + 7) / 8 - 1) 0).toNat / 2 ^ (l.length % 8) ≠ 0 then ([], 5)
  else if (q.2.1 && decide (q.2.2 = [])) = false ∨ fitsE l q.1 ≠ 0 then ([], 5) else (q.1, 0)

theorem bytesN_len : ∀ (m : Nat) (ok : Bool) (rem : List UInt8), (bytesN m ok rem).1.length = m ∧ (bytesN m ok rem).2.2.length ≤ rem.length
  | 0, ok, rem => ⟨rfl, Nat.le_refl _⟩
  | m + 1, ok, rem => by
    have ⟨h1, h2⟩ := bytesN_len m ok rem
    refine ⟨by rw [bytesN, List.length_append, h1]; rfl, Nat.le_trans ?_ h2⟩
    show (Cc.getRem _ 1 _).length ≤ _
    unfold Cc.getRem
    split
    · rw [List.length_drop]; omega
    · exact Nat.le_refl _
theorem rdV_len (k : Int) (ok : Bool) (rem : List UInt8) : (rdV k ok rem).2.2.length ≤ rem.length := by
  unfold rdV
  split
  · show (Cc.uRem _ rem).length ≤ _
    unfold Cc.uRem
    split
    · rw [List.length_drop]; omega
    · exact Nat.le_refl _
  split
  · show (Cc.txtRem _ rem).length ≤ _
    unfold Cc.txtRem
    split
    · rw [List.length_drop, List.length_drop]; omega
    · exact Nat.le_refl _
  · show (Cc.getRem _ 1 rem).length ≤ _
    unfold Cc.getRem
    split
    · rw [List.length_drop]; omega
    · exact Nat.le_refl _
theorem rowP_len (b : List UInt8) (l : List Col) : ∀ (j : Nat) (ok : Bool) (rem : List UInt8), j ≤ l.length → (rowP b l j ok rem).1.length = j ∧ (rowP b l j ok rem).2.2.length ≤ rem.length
  | 0, ok, rem, _ => ⟨rfl, Nat.le_refl _⟩
  | j + 1, ok, rem, hj => by
    have ⟨h1, h2⟩ := rowP_len b l j ok rem (by omega)
    rw [rowP, List.getElem?_eq_getElem (show j < l.length by omega)]
    dsimp only
    split
    · exact ⟨by rw [List.length_append, h1]; rfl, h2⟩
    · exact ⟨by rw [List.length_append, h1]; rfl, Nat.le_trans (rdV_len _ _ _) h2⟩
theorem and_bit : ∀ m : Nat, m < 8 → ∀ x : Nat, x < 256 → (bits .and .u8 (x : Int) (IntKind.u8.wrap ((1 : Int) * 2 ^ (min ((m : Nat) : Int).toNat IntKind.u8.bits))) = if x / 2 ^ m % 2 = 1 then ((2 ^ m : Nat) : Int) else 0) := by decide +kernel
theorem rdV_wf (k : Int) (ok : Bool) (rem : List UInt8) (hl : rem.length ≤ Cc.big) : wfV (rdV k ok rem).1 := by
  have hu : Cc.uN (Cc.found ok rem) < 18446744073709551616 := by
    cases ho : Cc.found ok rem with
    | none => simp [Cc.uN]
    | some xm => obtain ⟨x, m⟩ := xm; exact (Cc.found_le ho).2.2.2.2
  have hz := unzig_in hu
  have hg := getN1_lt ok rem
  unfold Cc.big at hl
  unfold rdV
  split
  · exact ⟨by simp only; omega, by simp only; omega, hz.1, hz.2, by show (0 : Nat) ≤ _; omega⟩
  split
  · refine ⟨by simp only; omega, by simp only; omega, by simp only; omega, by simp only; omega, ?_⟩
    show (Cc.txtV _ rem).toArray.size ≤ _
    rw [List.size_toArray]
    unfold Cc.txtV
    split
    · rw [List.length_take, List.length_drop]; omega
    · simp
  · exact ⟨by simp only; omega, by simp only; omega, by show (-9223372036854775808 : Int) ≤ ((Cc.getN ok 1 rem : Nat) : Int); omega, by show ((Cc.getN ok 1 rem : Nat) : Int) ≤ 9223372036854775807; omega, by show (0 : Nat) ≤ _; omega⟩

theorem rowP_wf (b : List UInt8) (l : List Col) : ∀ (j : Nat) (ok : Bool) (rem : List UInt8), j ≤ l.length → rem.length ≤ Cc.big → ∀ v ∈ (rowP b l j ok rem).1, wfV v
  | 0, ok, rem, _, _, v, hv => by simp [rowP] at hv
  | j + 1, ok, rem, hj, hl, v, hv => by
    have ih := rowP_wf b l j ok rem (by omega) hl
    have h2 := (rowP_len b l j ok rem (by omega)).2
    rw [rowP, List.getElem?_eq_getElem (show j < l.length by omega)] at hv
    dsimp only at hv
    split at hv
    · rcases List.mem_append.1 hv with hv | hv
      · exact ih v hv
      · rw [List.mem_singleton.1 hv]; exact ⟨by decide, by decide, by decide, by decide, by show (0 : Nat) ≤ _; omega⟩
    · rcases List.mem_append.1 hv with hv | hv
      · exact ih v hv
      · rw [List.mem_singleton.1 hv]; exact rdV_wf _ _ _ (Nat.le_trans h2 hl)
theorem shr_bit : ∀ m : Nat, m < 8 → ∀ x : Nat, x < 256 → ((x : Int).fdiv (2 ^ (min ((m : Nat) : Int).toNat IntKind.u8.bits))) = ((x / 2 ^ m : Nat) : Int) := by decide +kernel
theorem bit_ne (x m : Nat) : decide ((if x / 2 ^ m % 2 = 1 then ((2 ^ m : Nat) : Int) else 0) ≠ 0) = decide (x / 2 ^ m % 2 = 1) := by
  have : 0 < 2 ^ m := Nat.pow_pos (by omega)
  split
  · rename_i h; rw [decide_eq_true h]; exact decide_eq_true (by omega)
  · rename_i h; rw [decide_eq_false h]; exact decide_eq_false (by omega)
theorem mayB_ok {l : List Col} (h : mayB l = true) : ∀ c ∈ l, c.kind = 1 ∨ c.kind = 2 ∨ c.kind = 3 := fun c hc => by
  simp only [mayB, Bool.and_eq_true, List.all_eq_true] at h
  have := h.1.2 c hc
  simp only [okC, Bool.and_eq_true, decide_eq_true_eq] at this
  omega

theorem flat_map (r : List Val) : ∀ e ∈ r.map cV, e.length = 3 := fun e he => by
  obtain ⟨v, _, rfl⟩ := List.mem_map.1 he
  rfl
/-- What Decode does. -/
def DPost (r : List Val × Int) (v : Value) (h' : Base) (H' : List Asrt) : Prop := ∃ a cap, v = .tuple #[bufV a r.1.length cap, eV r.2] ∧ H' = [bufA 40 3 a r.1.length cap (r.1.map cV).flatten]

set_option maxHeartbeats 4000000 in
theorem Decode (h : Base) (v : Value) (l : List Col) (t : ByteArray) (hv : SL h 3 v (l.map cC)) (hw : ∀ c ∈ l, wfC c) (hl : l.length ≤ 9223372036854775807) (ht : t.size ≤ 9223372036854775807) :
    Tr Try.prog 19 [v, .string t] h [] (DPost (decP l t.data.toList)) := by
  have hlen : (l.map cC).length = l.length := List.length_map ..
  have htl : t.data.toList.length = t.size := by simp
  obtain ⟨ao, ca, rfl⟩ := hv.len
  rw [hlen] at hv ⊢
  refine K.enter Try.func19 rfl (Nat.le_of_ble_eq_true rfl) (fun F => ?_)
  simp only [List.nil_append]
  (repeat' (first | (apply K.s_pure; (first | (apply Y.mv; exact X.mv) | (apply Y.sg; exact X.sg) | (apply Y.pk; exact X.pk) | (apply Y.cv; exact X.cv) | (apply Y.fa; exact X.fa) | (apply Y.ld; exact X.ld) | (apply Y.ia; exact X.ia) | (apply Y.bd; exact X.bd) | (apply Y.len; exact X.len) | (apply Y.nt; exact X.nt) | (apply Y.badd; exact X.badd) | (apply Y.bsub; exact X.bsub) | (apply Y.bneq; exact X.bneq) | (apply Y.blss; exact X.blss) | (apply Y.bgtr; exact X.bgtr) | (apply Y.band; exact X.band) | (apply Y.bshr; exact X.bshr) | (apply Y.bshl; exact X.bshl) | (apply Y.bquo; exact X.bquo) | (apply Y.brem; exact X.brem)); exact rfl) | refine X.l ?_ | refine X.w ?_ | refine X.a ?_ | (refine K.c_condD rfl (fun hc => ?_) (fun hc => ?_) <;> first | (exfalso; omega) | skip) | refine K.c_cond rfl (fun hc => ?_) (fun hc => ?_) | (refine K.s_guardD rfl rfl (fun hc => ?_) (fun hc => ?_) <;> first | (exfalso; omega) | skip) | refine K.s_guard rfl rfl (fun hc => ?_) (fun hc => ?_)))
  refine K.l_callV (Fx.cal rfl) rfl (May h _ l hv hw hl) (K.pp [] rfl) rfl rfl ?_
  simp only [List.nil_append]
  cases hm : mayB l with
  | false =>
    rw [decP, if_pos hm]
    (repeat' (first | (apply K.s_pure; (first | (apply Y.mv; exact X.mv) | (apply Y.sg; exact X.sg) | (apply Y.pk; exact X.pk) | (apply Y.cv; exact X.cv) | (apply Y.fa; exact X.fa) | (apply Y.ld; exact X.ld) | (apply Y.ia; exact X.ia) | (apply Y.bd; exact X.bd) | (apply Y.len; exact X.len) | (apply Y.nt; exact X.nt) | (apply Y.badd; exact X.badd) | (apply Y.bsub; exact X.bsub) | (apply Y.bneq; exact X.bneq) | (apply Y.blss; exact X.blss) | (apply Y.bgtr; exact X.bgtr) | (apply Y.band; exact X.band) | (apply Y.bshr; exact X.bshr) | (apply Y.bshl; exact X.bshl) | (apply Y.bquo; exact X.bquo) | (apply Y.brem; exact X.brem)); exact rfl) | refine X.l ?_ | refine X.w ?_ | refine X.a ?_ | (refine K.c_condD rfl (fun hc => ?_) (fun hc => ?_) <;> first | (exfalso; omega) | skip) | refine K.c_cond rfl (fun hc => ?_) (fun hc => ?_) | (refine K.s_guardD rfl rfl (fun hc => ?_) (fun hc => ?_) <;> first | (exfalso; omega) | skip) | refine K.s_guard rfl rfl (fun hc => ?_) (fun hc => ?_)))
    refine K.AT.nilBuf 40 3 ?_
    refine K.done (by first | exact Or.inl rfl | exact Or.inr rfl) rfl (by first | exact K.Base.le.refl _ | assumption) (H' := [_]) rfl ⟨none, 0, rfl, rfl⟩
  | true =>
    obtain ⟨hl1, hl2⟩ := mayB_len16 hm
    by_cases hlong : 160 < t.data.toList.length
    · rw [decP, if_neg (by rw [hm]; decide), if_pos hlong]
      (repeat' (first | (apply K.s_pure; (first | (apply Y.mv; exact X.mv) | (apply Y.sg; exact X.sg) | (apply Y.pk; exact X.pk) | (apply Y.cv; exact X.cv) | (apply Y.fa; exact X.fa) | (apply Y.ld; exact X.ld) | (apply Y.ia; exact X.ia) | (apply Y.bd; exact X.bd) | (apply Y.len; exact X.len) | (apply Y.nt; exact X.nt) | (apply Y.badd; exact X.badd) | (apply Y.bsub; exact X.bsub) | (apply Y.bneq; exact X.bneq) | (apply Y.blss; exact X.blss) | (apply Y.bgtr; exact X.bgtr) | (apply Y.band; exact X.band) | (apply Y.bshr; exact X.bshr) | (apply Y.bshl; exact X.bshl) | (apply Y.bquo; exact X.bquo) | (apply Y.brem; exact X.brem)); exact rfl) | refine X.l ?_ | refine X.w ?_ | refine X.a ?_ | (refine K.c_condD rfl (fun hc => ?_) (fun hc => ?_) <;> first | (exfalso; omega) | skip) | refine K.c_cond rfl (fun hc => ?_) (fun hc => ?_) | (refine K.s_guardD rfl rfl (fun hc => ?_) (fun hc => ?_) <;> first | (exfalso; omega) | skip) | refine K.s_guard rfl rfl (fun hc => ?_) (fun hc => ?_)))
      refine K.AT.nilBuf 40 3 ?_
      refine K.done (by first | exact Or.inl rfl | exact Or.inr rfl) rfl (by first | exact K.Base.le.refl _ | assumption) (H' := [_]) rfl ⟨none, 0, rfl, rfl⟩
    · (repeat' (first | (apply K.s_pure; (first | (apply Y.mv; exact X.mv) | (apply Y.sg; exact X.sg) | (apply Y.pk; exact X.pk) | (apply Y.cv; exact X.cv) | (apply Y.fa; exact X.fa) | (apply Y.ld; exact X.ld) | (apply Y.ia; exact X.ia) | (apply Y.bd; exact X.bd) | (apply Y.len; exact X.len) | (apply Y.nt; exact X.nt) | (apply Y.badd; exact X.badd) | (apply Y.bsub; exact X.bsub) | (apply Y.bneq; exact X.bneq) | (apply Y.blss; exact X.blss) | (apply Y.bgtr; exact X.bgtr) | (apply Y.band; exact X.band) | (apply Y.bshr; exact X.bshr) | (apply Y.bshl; exact X.bshl) | (apply Y.bquo; exact X.bquo) | (apply Y.brem; exact X.brem)); exact rfl) | refine X.l ?_ | refine X.w ?_ | refine X.a ?_ | (refine K.c_condD rfl (fun hc => ?_) (fun hc => ?_) <;> first | (exfalso; omega) | skip) | refine K.c_cond rfl (fun hc => ?_) (fun hc => ?_) | (refine K.s_guardD rfl rfl (fun hc => ?_) (fun hc => ?_) <;> first | (exfalso; omega) | skip) | refine K.s_guard rfl rfl (fun hc => ?_) (fun hc => ?_)))
      refine K.l_toBytes (Fx.und rfl) (Fx.und rfl) (Fx.und rfl) rfl (by unfold maxLen; omega) rfl (fun Bt capt => ?_)
      (repeat' (first | (apply K.s_pure; (first | (apply Y.mv; exact X.mv) | (apply Y.sg; exact X.sg) | (apply Y.pk; exact X.pk) | (apply Y.cv; exact X.cv) | (apply Y.fa; exact X.fa) | (apply Y.ld; exact X.ld) | (apply Y.ia; exact X.ia) | (apply Y.bd; exact X.bd) | (apply Y.len; exact X.len) | (apply Y.nt; exact X.nt) | (apply Y.badd; exact X.badd) | (apply Y.bsub; exact X.bsub) | (apply Y.bneq; exact X.bneq) | (apply Y.blss; exact X.blss) | (apply Y.bgtr; exact X.bgtr) | (apply Y.band; exact X.band) | (apply Y.bshr; exact X.bshr) | (apply Y.bshl; exact X.bshl) | (apply Y.bquo; exact X.bquo) | (apply Y.brem; exact X.brem)); exact rfl) | refine X.l ?_ | refine X.w ?_ | refine X.a ?_ | (refine K.c_condD rfl (fun hc => ?_) (fun hc => ?_) <;> first | (exfalso; omega) | skip) | refine K.c_cond rfl (fun hc => ?_) (fun hc => ?_) | (refine K.s_guardD rfl rfl (fun hc => ?_) (fun hc => ?_) <;> first | (exfalso; omega) | skip) | refine K.s_guard rfl rfl (fun hc => ?_) (fun hc => ?_)))
      rw [← htl]
      refine K.l_call (Fx.cal rfl) rfl (Cc.NewReader h _ t.data.toList [bufA 5 1 (some Bt) t.data.toList.length capt (t.data.toList.map u8)] (K.src_buf 0 rfl (by simp [K.u8_one]) (by simp)) (by unfold Cc.big; omega)) (K.pp [0] rfl) rfl ?_
      rintro u h1 H' le1 ⟨p1, sv1, rfl, hr1, rfl⟩
      have hv1 := hv.le le1
      simp only [List.set_cons_zero, List.set_cons_succ, List.eraseIdx_cons_zero, List.eraseIdx_cons_succ, List.cons_append, List.nil_append]
      (repeat' (first | (apply K.s_pure; (first | (apply Y.mv; exact X.mv) | (apply Y.sg; exact X.sg) | (apply Y.pk; exact X.pk) | (apply Y.cv; exact X.cv) | (apply Y.fa; exact X.fa) | (apply Y.ld; exact X.ld) | (apply Y.ia; exact X.ia) | (apply Y.bd; exact X.bd) | (apply Y.len; exact X.len) | (apply Y.nt; exact X.nt) | (apply Y.badd; exact X.badd) | (apply Y.bsub; exact X.bsub) | (apply Y.bneq; exact X.bneq) | (apply Y.blss; exact X.blss) | (apply Y.bgtr; exact X.bgtr) | (apply Y.band; exact X.band) | (apply Y.bshr; exact X.bshr) | (apply Y.bshl; exact X.bshl) | (apply Y.bquo; exact X.bquo) | (apply Y.brem; exact X.brem)); exact rfl) | refine X.l ?_ | refine X.w ?_ | refine X.a ?_ | (refine K.c_condD rfl (fun hc => ?_) (fun hc => ?_) <;> first | (exfalso; omega) | skip) | refine K.c_cond rfl (fun hc => ?_) (fun hc => ?_) | (refine K.s_guardD rfl rfl (fun hc => ?_) (fun hc => ?_) <;> first | (exfalso; omega) | skip) | refine K.s_guard rfl rfl (fun hc => ?_) (fun hc => ?_)))
      refine K.WC.sel [1] rfl (K.WC.nilBuf 5 1 ?_)
      have hm2 : (l.length + 7) / 8 ≤ 2 := by omega
      refine K.c_loop (σ := Nat × Option Cc.RS × Option Nat × Nat) (fun q => [(0, .slice ao l.length ca), (6, .pointer (some ⟨p1, 0, none⟩)), (7, bufV q.2.2.1 q.1 q.2.2.2), (8, .int .i64 (8 * (q.1 : Int)))]) (fun _ => h1)
        (fun q => bufA 5 1 q.2.2.1 q.1 q.2.2.2 ((bytesN q.1 true t.data.toList).1.map u8) :: Cc.rA q.2.1 :: F)
        (fun q => q.1 ≤ (l.length + 7) / 8 ∧ Cc.same (some ⟨p1, true, sv1, false⟩) q.2.1 ∧ Cc.Rd h1 q.2.1 (bytesN q.1 true t.data.toList).2.1 (bytesN q.1 true t.data.toList).2.2) (fun q => 4 - q.1) (0, some ⟨p1, true, sv1, false⟩, none, 0) ⟨Nat.zero_le _, Cc.same_refl _, hr1⟩ (by repeat (first | exact K.Sub.nil _ | refine K.Sub.cons rfl ?_)) rfl rfl ?_
      rintro ⟨c, s, a, cap⟩ ⟨hc, hsm, hrd⟩ KL hKL
      dsimp only at hc hsm hrd ⊢
      have hrv : Cc.rv s = .pointer (some ⟨p1, 0, none⟩) := Cc.same_val hsm
      obtain ⟨bl1, bl2⟩ := bytesN_len c true t.data.toList
      have hbg : (bytesN c true t.data.toList).2.2.length ≤ Cc.big := by unfold Cc.big; omega
      by_cases hcl : c < (l.length + 7) / 8
      · have h8 : 8 * c < l.length := by omega
        have hg := getN1_lt (bytesN c true t.data.toList).2.1 (bytesN c true t.data.toList).2.2
        (repeat' (first | (apply K.s_pure; (first | (apply Y.mv; exact X.mv) | (apply Y.sg; exact X.sg) | (apply Y.pk; exact X.pk) | (apply Y.cv; exact X.cv) | (apply Y.fa; exact X.fa) | (apply Y.ld; exact X.ld) | (apply Y.ia; exact X.ia) | (apply Y.bd; exact X.bd) | (apply Y.len; exact X.len) | (apply Y.nt; exact X.nt) | (apply Y.badd; exact X.badd) | (apply Y.bsub; exact X.bsub) | (apply Y.bneq; exact X.bneq) | (apply Y.blss; exact X.blss) | (apply Y.bgtr; exact X.bgtr) | (apply Y.band; exact X.band) | (apply Y.bshr; exact X.bshr) | (apply Y.bshl; exact X.bshl) | (apply Y.bquo; exact X.bquo) | (apply Y.brem; exact X.brem)); exact rfl) | refine X.l ?_ | refine X.w ?_ | refine X.a ?_ | (refine K.c_condD rfl (fun hc => ?_) (fun hc => ?_) <;> first | (exfalso; omega) | skip) | refine K.c_cond rfl (fun hc => ?_) (fun hc => ?_) | (refine K.s_guardD rfl rfl (fun hc => ?_) (fun hc => ?_) <;> first | (exfalso; omega) | skip) | refine K.s_guard rfl rfl (fun hc => ?_) (fun hc => ?_)))
        refine K.l_call (vals := [Cc.rv s]) (Fx.cal rfl) (by rw [hrv]; rfl) (Cc.R_U8 h1 s _ _ hrd hbg) (K.pp [1] rfl) rfl ?_
        rintro u h' H' - ⟨rfl, rfl, s', hs', hr', rfl⟩
        have eu : Value.int .u8 ((Cc.getN (bytesN c true t.data.toList).2.1 1 (bytesN c true t.data.toList).2.2 : Nat) : Int) = u8 (UInt8.ofNat (Cc.getN (bytesN c true t.data.toList).2.1 1 (bytesN c true t.data.toList).2.2)) := (K.u8_of hg).symm
        rw [eu]
        simp only [List.set_cons_zero, List.set_cons_succ, List.eraseIdx_cons_zero, List.eraseIdx_cons_succ, List.cons_append, List.nil_append]
        refine X.bs (fun B => ?_)
        refine K.l_append_at 2 rfl (Fx.und rfl) (Fx.und rfl) rfl (Fx.sz rfl) (Fx.zr rfl) rfl (Fx.byt rfl) rfl rfl (K.src_one (K.cel_own 0 rfl rfl) rfl) (by omega) (by omega) rfl (fun a' cap' => ?_)
        simp only [List.set_cons_zero, List.set_cons_succ, List.eraseIdx_cons_zero, List.eraseIdx_cons_succ, List.cons_append, List.nil_append]
        (repeat' (first | (apply K.s_pure; (first | (apply Y.mv; exact X.mv) | (apply Y.sg; exact X.sg) | (apply Y.pk; exact X.pk) | (apply Y.cv; exact X.cv) | (apply Y.fa; exact X.fa) | (apply Y.ld; exact X.ld) | (apply Y.ia; exact X.ia) | (apply Y.bd; exact X.bd) | (apply Y.len; exact X.len) | (apply Y.nt; exact X.nt) | (apply Y.badd; exact X.badd) | (apply Y.bsub; exact X.bsub) | (apply Y.bneq; exact X.bneq) | (apply Y.blss; exact X.blss) | (apply Y.bgtr; exact X.bgtr) | (apply Y.band; exact X.band) | (apply Y.bshr; exact X.bshr) | (apply Y.bshl; exact X.bshl) | (apply Y.bquo; exact X.bquo) | (apply Y.brem; exact X.brem)); exact rfl) | refine X.l ?_ | refine X.w ?_ | refine X.a ?_ | (refine K.c_condD rfl (fun hc => ?_) (fun hc => ?_) <;> first | (exfalso; omega) | skip) | refine K.c_cond rfl (fun hc => ?_) (fun hc => ?_) | (refine K.s_guardD rfl rfl (fun hc => ?_) (fun hc => ?_) <;> first | (exfalso; omega) | skip) | refine K.s_guard rfl rfl (fun hc => ?_) (fun hc => ?_)))
        rw [show (8 * (c : Int) + 8) = 8 * ((c + 1 : Nat) : Int) from by omega]
        refine K.AT.drop (K.AT.perm (List.Perm.swap ..) ?_)
        refine K.a_round hKL (c + 1, s', a', cap') ⟨by dsimp only; omega, Cc.same_trans hsm hs', hr'⟩ (by repeat (first | exact K.Sub.nil _ | refine K.Sub.cons rfl ?_)) rfl ?_ (by dsimp only; omega)
        dsimp only
        rw [bytesN, List.map_append]
        rfl
      · obtain rfl : c = (l.length + 7) / 8 := by omega
        (repeat' (first | (apply K.s_pure; (first | (apply Y.mv; exact X.mv) | (apply Y.sg; exact X.sg) | (apply Y.pk; exact X.pk) | (apply Y.cv; exact X.cv) | (apply Y.fa; exact X.fa) | (apply Y.ld; exact X.ld) | (apply Y.ia; exact X.ia) | (apply Y.bd; exact X.bd) | (apply Y.len; exact X.len) | (apply Y.nt; exact X.nt) | (apply Y.badd; exact X.badd) | (apply Y.bsub; exact X.bsub) | (apply Y.bneq; exact X.bneq) | (apply Y.blss; exact X.blss) | (apply Y.bgtr; exact X.bgtr) | (apply Y.band; exact X.band) | (apply Y.bshr; exact X.bshr) | (apply Y.bshl; exact X.bshl) | (apply Y.bquo; exact X.bquo) | (apply Y.brem; exact X.brem)); exact rfl) | refine X.l ?_ | refine X.w ?_ | refine X.a ?_ | (refine K.c_condD rfl (fun hc => ?_) (fun hc => ?_) <;> first | (exfalso; omega) | skip) | refine K.c_cond rfl (fun hc => ?_) (fun hc => ?_) | (refine K.s_guardD rfl rfl (fun hc => ?_) (fun hc => ?_) <;> first | (exfalso; omega) | skip) | refine K.s_guard rfl rfl (fun hc => ?_) (fun hc => ?_)))
        refine K.l_callV (Fx.cal rfl) rfl (Ways h1) (K.pp [] rfl) rfl rfl ?_
        (repeat' (first | (apply K.s_pure; (first | (apply Y.mv; exact X.mv) | (apply Y.sg; exact X.sg) | (apply Y.pk; exact X.pk) | (apply Y.cv; exact X.cv) | (apply Y.fa; exact X.fa) | (apply Y.ld; exact X.ld) | (apply Y.ia; exact X.ia) | (apply Y.bd; exact X.bd) | (apply Y.len; exact X.len) | (apply Y.nt; exact X.nt) | (apply Y.badd; exact X.badd) | (apply Y.bsub; exact X.bsub) | (apply Y.bneq; exact X.bneq) | (apply Y.blss; exact X.blss) | (apply Y.bgtr; exact X.bgtr) | (apply Y.band; exact X.band) | (apply Y.bshr; exact X.bshr) | (apply Y.bshl; exact X.bshl) | (apply Y.bquo; exact X.bquo) | (apply Y.brem; exact X.brem)); exact rfl) | refine X.l ?_ | refine X.w ?_ | refine X.a ?_ | (refine K.c_condD rfl (fun hc => ?_) (fun hc => ?_) <;> first | (exfalso; omega) | skip) | refine K.c_cond rfl (fun hc => ?_) (fun hc => ?_) | (refine K.s_guardD rfl rfl (fun hc => ?_) (fun hc => ?_) <;> first | (exfalso; omega) | skip) | refine K.s_guard rfl rfl (fun hc => ?_) (fun hc => ?_)))
        refine K.l_alloc (Fx.zr rfl) rfl rfl (fun B => ?_)
        refine X.stw ?_
        (repeat' (first | (apply K.s_pure; (first | (apply Y.mv; exact X.mv) | (apply Y.sg; exact X.sg) | (apply Y.pk; exact X.pk) | (apply Y.cv; exact X.cv) | (apply Y.fa; exact X.fa) | (apply Y.ld; exact X.ld) | (apply Y.ia; exact X.ia) | (apply Y.bd; exact X.bd) | (apply Y.len; exact X.len) | (apply Y.nt; exact X.nt) | (apply Y.badd; exact X.badd) | (apply Y.bsub; exact X.bsub) | (apply Y.bneq; exact X.bneq) | (apply Y.blss; exact X.blss) | (apply Y.bgtr; exact X.bgtr) | (apply Y.band; exact X.band) | (apply Y.bshr; exact X.bshr) | (apply Y.bshl; exact X.bshl) | (apply Y.bquo; exact X.bquo) | (apply Y.brem; exact X.brem)); exact rfl) | refine X.l ?_ | refine X.w ?_ | refine X.a ?_ | (refine K.c_condD rfl (fun hc => ?_) (fun hc => ?_) <;> first | (exfalso; omega) | skip) | refine K.c_cond rfl (fun hc => ?_) (fun hc => ?_) | (refine K.s_guardD rfl rfl (fun hc => ?_) (fun hc => ?_) <;> first | (exfalso; omega) | skip) | refine K.s_guard rfl rfl (fun hc => ?_) (fun hc => ?_)))
        refine K.l_makeSlice (m := 0) (c := l.length) (Fx.und rfl) (Fx.sz rfl) (Fx.zr rfl) rfl (Fx.byt rfl) rfl rfl (by omega) (by omega) (by unfold maxLen; omega) rfl (fun Br => ?_)
        rw [Nat.zero_mul, List.take_zero]
        (repeat' (first | (apply K.s_pure; (first | (apply Y.mv; exact X.mv) | (apply Y.sg; exact X.sg) | (apply Y.pk; exact X.pk) | (apply Y.cv; exact X.cv) | (apply Y.fa; exact X.fa) | (apply Y.ld; exact X.ld) | (apply Y.ia; exact X.ia) | (apply Y.bd; exact X.bd) | (apply Y.len; exact X.len) | (apply Y.nt; exact X.nt) | (apply Y.badd; exact X.badd) | (apply Y.bsub; exact X.bsub) | (apply Y.bneq; exact X.bneq) | (apply Y.blss; exact X.blss) | (apply Y.bgtr; exact X.bgtr) | (apply Y.band; exact X.band) | (apply Y.bshr; exact X.bshr) | (apply Y.bshl; exact X.bshl) | (apply Y.bquo; exact X.bquo) | (apply Y.brem; exact X.brem)); exact rfl) | refine X.l ?_ | refine X.w ?_ | refine X.a ?_ | (refine K.c_condD rfl (fun hc => ?_) (fun hc => ?_) <;> first | (exfalso; omega) | skip) | refine K.c_cond rfl (fun hc => ?_) (fun hc => ?_) | (refine K.s_guardD rfl rfl (fun hc => ?_) (fun hc => ?_) <;> first | (exfalso; omega) | skip) | refine K.s_guard rfl rfl (fun hc => ?_) (fun hc => ?_)))
        simp only [List.set_cons_zero, List.set_cons_succ, List.eraseIdx_cons_zero, List.eraseIdx_cons_succ, List.cons_append, List.nil_append]
        refine K.WC.perm (K.pp [2] rfl) (K.oc_buf (fun _ e _ _ => by omega) ?_)
        rintro bb sp fz rfl g2 g3 g4 g5 g6
        simp only [List.set_cons_zero, List.set_cons_succ, List.eraseIdx_cons_zero, List.eraseIdx_cons_succ, List.cons_append, List.nil_append]
        generalize hbs : bytesN ((l.length + 7) / 8) true t.data.toList = bs at hrd bl1 bl2 hbg
        obtain ⟨bn, ok0, rem0⟩ := bs
        dsimp only at hrd bl1 bl2 hbg ⊢
        have hcel : ∀ i, i < (l.length + 7) / 8 → ∀ F', Cel h1 (blkF bb 5 (bn.map u8 ++ sp) fz :: F') bb i (.int .u8 ((bn.getD i 0).toNat : Nat)) := fun i hi F' => K.cel_own 0 rfl (by
          rw [List.getElem?_append_left (by rw [List.length_map, bl1]; exact hi), List.getElem?_map, List.getElem?_eq_getElem (by rw [bl1]; exact hi)]
          simp [K.u8, List.getD_eq_getElem?_getD, List.getElem?_eq_getElem (show i < bn.length by rw [bl1]; exact hi)])
        refine K.c_loop (σ := Nat × Option Cc.RS × Option Nat × Nat) (fun q => [(0, .slice ao l.length ca), (38, .slice ao l.length ca), (39, .int .i64 l.length), (40, .int .i64 q.1), (6, .pointer (some ⟨p1, 0, none⟩)), (7, bufV (some bb) ((l.length + 7) / 8) cap), (9, .pointer (some ⟨B, 0, none⟩)), (10, bufV q.2.2.1 q.1 q.2.2.2)]) (fun _ => h1)
          (fun q => blkF bb 5 (bn.map u8 ++ sp) fz :: bufA 40 3 q.2.2.1 q.1 q.2.2.2 ((rowP bn l q.1 ok0 rem0).1.map cV).flatten :: blk B 53 waysC :: Cc.rA q.2.1 :: F)
          (fun q => q.1 ≤ l.length ∧ Cc.same (some ⟨p1, true, sv1, false⟩) q.2.1 ∧ Cc.Rd h1 q.2.1 (rowP bn l q.1 ok0 rem0).2.1 (rowP bn l q.1 ok0 rem0).2.2) (fun q => l.length - q.1) (0, s, some Br, l.length) ⟨Nat.zero_le _, hsm, hrd⟩ (by repeat (first | exact K.Sub.nil _ | refine K.Sub.cons rfl ?_)) rfl rfl ?_
        rintro ⟨j, s, a, capr⟩ ⟨hj, hsm, hrd⟩ KM hKM
        dsimp only at hj hsm hrd ⊢
        have hrv : Cc.rv s = .pointer (some ⟨p1, 0, none⟩) := Cc.same_val hsm
        obtain ⟨rl1, rl2⟩ := rowP_len bn l j ok0 rem0 hj
        have hbg2 : (rowP bn l j ok0 rem0).2.2.length ≤ Cc.big := by unfold Cc.big at hbg ⊢; omega
        by_cases hjl : j < l.length
        · have hc0 : (l.map cC)[((j : Nat) : Int).toNat]? = some (cC l[j]) := by rw [Int.toNat_natCast, List.getElem?_map, List.getElem?_eq_getElem hjl]; rfl
          have hrp : rowP bn l (j + 1) ok0 rem0 = if isNull bn j = true then ((rowP bn l j ok0 rem0).1 ++ [zeroV], (rowP bn l j ok0 rem0).2) else ((rowP bn l j ok0 rem0).1 ++ [(rdV l[j].kind (rowP bn l j ok0 rem0).2.1 (rowP bn l j ok0 rem0).2.2).1], (rdV l[j].kind (rowP bn l j ok0 rem0).2.1 (rowP bn l j ok0 rem0).2.2).2) := by
            rw [rowP, List.getElem?_eq_getElem hjl]
          have hkd := mayB_ok hm l[j] (List.getElem_mem hjl)
          generalize l[j] = d at hc0 hrp hkd
          have hx256 : (bn.getD (j / 8) 0).toNat < 256 := (bn.getD (j / 8) 0).toNat_lt
          (repeat' (first | (apply K.s_pure; (first | (apply Y.mv; exact X.mv) | (apply Y.sg; exact X.sg) | (apply Y.pk; exact X.pk) | (apply Y.cv; exact X.cv) | (apply Y.fa; exact X.fa) | (apply Y.ld; exact X.ld) | (apply Y.ia; exact X.ia) | (apply Y.bd; exact X.bd) | (apply Y.len; exact X.len) | (apply Y.nt; exact X.nt) | (apply Y.badd; exact X.badd) | (apply Y.bsub; exact X.bsub) | (apply Y.bneq; exact X.bneq) | (apply Y.blss; exact X.blss) | (apply Y.bgtr; exact X.bgtr) | (apply Y.band; exact X.band) | (apply Y.bshr; exact X.bshr) | (apply Y.bshl; exact X.bshl) | (apply Y.bquo; exact X.bquo) | (apply Y.brem; exact X.brem)); exact rfl) | refine X.l ?_ | refine X.w ?_ | refine X.a ?_ | (refine K.c_condD rfl (fun hc => ?_) (fun hc => ?_) <;> first | (exfalso; omega) | skip) | refine K.c_cond rfl (fun hc => ?_) (fun hc => ?_) | (refine K.s_guardD rfl rfl (fun hc => ?_) (fun hc => ?_) <;> first | (exfalso; omega) | skip) | refine K.s_guard rfl rfl (fun hc => ?_) (fun hc => ?_)))
          refine K.s_pureE (K.p_indexL hv1 (Fx.und rfl) (Fx.sz rfl) rfl rfl (by omega) hc0) rfl ?_
          rintro v2 ⟨b, o, rfl, hcl2⟩
          refine K.s_pure (K.p_loadM (Fx.agg rfl) rfl (Cels.up hcl2) (Fx.sz rfl) rfl) rfl ?_
          refine K.l_alloc (Fx.zr rfl) rfl rfl (fun B2 => ?_)
          (repeat' (first | (apply K.s_pure; (first | (apply Y.mv; exact X.mv) | (apply Y.sg; exact X.sg) | (apply Y.pk; exact X.pk) | (apply Y.cv; exact X.cv) | (apply Y.fa; exact X.fa) | (apply Y.ld; exact X.ld) | (apply Y.ia; exact X.ia) | (apply Y.bd; exact X.bd) | (apply Y.len; exact X.len) | (apply Y.nt; exact X.nt) | (apply Y.badd; exact X.badd) | (apply Y.bsub; exact X.bsub) | (apply Y.bneq; exact X.bneq) | (apply Y.blss; exact X.blss) | (apply Y.bgtr; exact X.bgtr) | (apply Y.band; exact X.band) | (apply Y.bshr; exact X.bshr) | (apply Y.bshl; exact X.bshl) | (apply Y.bquo; exact X.bquo) | (apply Y.brem; exact X.brem)); exact rfl) | refine X.l ?_ | refine X.w ?_ | refine X.a ?_ | (refine K.c_condD rfl (fun hc => ?_) (fun hc => ?_) <;> first | (exfalso; omega) | skip) | refine K.c_cond rfl (fun hc => ?_) (fun hc => ?_) | (refine K.s_guardD rfl rfl (fun hc => ?_) (fun hc => ?_) <;> first | (exfalso; omega) | skip) | refine K.s_guard rfl rfl (fun hc => ?_) (fun hc => ?_)))
          refine X.stw ?_
          (repeat' (first | (apply K.s_pure; (first | (apply Y.mv; exact X.mv) | (apply Y.sg; exact X.sg) | (apply Y.pk; exact X.pk) | (apply Y.cv; exact X.cv) | (apply Y.fa; exact X.fa) | (apply Y.ld; exact X.ld) | (apply Y.ia; exact X.ia) | (apply Y.bd; exact X.bd) | (apply Y.len; exact X.len) | (apply Y.nt; exact X.nt) | (apply Y.badd; exact X.badd) | (apply Y.bsub; exact X.bsub) | (apply Y.bneq; exact X.bneq) | (apply Y.blss; exact X.blss) | (apply Y.bgtr; exact X.bgtr) | (apply Y.band; exact X.band) | (apply Y.bshr; exact X.bshr) | (apply Y.bshl; exact X.bshl) | (apply Y.bquo; exact X.bquo) | (apply Y.brem; exact X.brem)); exact rfl) | refine X.l ?_ | refine X.w ?_ | refine X.a ?_ | (refine K.c_condD rfl (fun hc => ?_) (fun hc => ?_) <;> first | (exfalso; omega) | skip) | refine K.c_cond rfl (fun hc => ?_) (fun hc => ?_) | (refine K.s_guardD rfl rfl (fun hc => ?_) (fun hc => ?_) <;> first | (exfalso; omega) | skip) | refine K.s_guard rfl rfl (fun hc => ?_) (fun hc => ?_)))
          have hce := hcel (j / 8) (by omega) []
          refine X.draw ([blkF bb 5 (bn.map u8 ++ sp) fz]) [] (.pu 0 (.pu 1 (.pu 2 (.pu 3 (.pu 5 (.pu 6 (.pu 7 (.st 4 (.pu 8 (.pu 9 .nil)))))))))) ?_
          refine K.d_pu rfl (fun _ _ => X.mv) rfl ?_
          refine K.d_pu rfl (fun _ _ => X.mv) rfl ?_
          refine K.d_pu rfl (fun _ _ => X.bquo) rfl ?_
          rw [show ((j : Int) / 8) = ((j / 8 : Nat) : Int) from by omega]
          refine K.d_pu rfl (fun _ _ => X.ia) rfl ?_
          refine K.d_pu rfl (fun _ _ => X.mv) rfl ?_
          refine K.d_pu rfl (fun _ _ => X.brem) rfl ?_
          rw [show ((j : Int) % 8) = ((j % 8 : Nat) : Int) from by omega]
          refine K.d_pu rfl (fun _ _ => X.bshl) rfl ?_
          refine K.d_st rfl X.ld rfl ?_
          refine K.d_pu rfl (fun _ _ => X.band) rfl ?_
          rw [and_bit (j % 8) (by omega) _ hx256]
          refine K.d_pu rfl (fun _ _ => X.bneq) rfl ?_
          rw [bit_ne, show decide ((bn.getD (j / 8) 0).toNat / 2 ^ (j % 8) % 2 = 1) = isNull bn j from rfl]
          refine K.d_nil ?_
          cases hnl : isNull bn j with
          | true =>
            rw [if_pos hnl] at hrp
            (repeat' (first | (apply K.s_pure; (first | (apply Y.mv; exact X.mv) | (apply Y.sg; exact X.sg) | (apply Y.pk; exact X.pk) | (apply Y.cv; exact X.cv) | (apply Y.fa; exact X.fa) | (apply Y.ld; exact X.ld) | (apply Y.ia; exact X.ia) | (apply Y.bd; exact X.bd) | (apply Y.len; exact X.len) | (apply Y.nt; exact X.nt) | (apply Y.badd; exact X.badd) | (apply Y.bsub; exact X.bsub) | (apply Y.bneq; exact X.bneq) | (apply Y.blss; exact X.blss) | (apply Y.bgtr; exact X.bgtr) | (apply Y.band; exact X.band) | (apply Y.bshr; exact X.bshr) | (apply Y.bshl; exact X.bshl) | (apply Y.bquo; exact X.bquo) | (apply Y.brem; exact X.brem)); exact rfl) | refine X.l ?_ | refine X.w ?_ | refine X.a ?_ | (refine K.c_condD rfl (fun hc => ?_) (fun hc => ?_) <;> first | (exfalso; omega) | skip) | refine K.c_cond rfl (fun hc => ?_) (fun hc => ?_) | (refine K.s_guardD rfl rfl (fun hc => ?_) (fun hc => ?_) <;> first | (exfalso; omega) | skip) | refine K.s_guard rfl rfl (fun hc => ?_) (fun hc => ?_)))
            refine K.l_buildSlice (Fx.und rfl) (Fx.sz rfl) rfl (Fx.zr rfl) rfl rfl rfl (cs := cV zeroV) rfl rfl (fun B4 => ?_)
            refine K.l_append_at 3 rfl (Fx.und rfl) (Fx.und rfl) rfl (Fx.sz rfl) (Fx.zr rfl) rfl (Fx.byt rfl) rfl rfl (K.src_cells (K.cels_own (pre := []) (cs := cV zeroV) (post := []) 0 rfl rfl) rfl (by simp [cV, oneCell])) (by omega) (by omega) rfl (fun a' cap' => ?_)
            simp only [List.set_cons_zero, List.set_cons_succ, List.eraseIdx_cons_zero, List.eraseIdx_cons_succ, List.cons_append, List.nil_append]
            (repeat' (first | (apply K.s_pure; (first | (apply Y.mv; exact X.mv) | (apply Y.sg; exact X.sg) | (apply Y.pk; exact X.pk) | (apply Y.cv; exact X.cv) | (apply Y.fa; exact X.fa) | (apply Y.ld; exact X.ld) | (apply Y.ia; exact X.ia) | (apply Y.bd; exact X.bd) | (apply Y.len; exact X.len) | (apply Y.nt; exact X.nt) | (apply Y.badd; exact X.badd) | (apply Y.bsub; exact X.bsub) | (apply Y.bneq; exact X.bneq) | (apply Y.blss; exact X.blss) | (apply Y.bgtr; exact X.bgtr) | (apply Y.band; exact X.band) | (apply Y.bshr; exact X.bshr) | (apply Y.bshl; exact X.bshl) | (apply Y.bquo; exact X.bquo) | (apply Y.brem; exact X.brem)); exact rfl) | refine X.l ?_ | refine X.w ?_ | refine X.a ?_ | (refine K.c_condD rfl (fun hc => ?_) (fun hc => ?_) <;> first | (exfalso; omega) | skip) | refine K.c_cond rfl (fun hc => ?_) (fun hc => ?_) | (refine K.s_guardD rfl rfl (fun hc => ?_) (fun hc => ?_) <;> first | (exfalso; omega) | skip) | refine K.s_guard rfl rfl (fun hc => ?_) (fun hc => ?_)))
            refine K.AT.sel [0, 0] rfl ?_
            refine K.a_round hKM (j + 1, s, a', cap') ⟨by dsimp only; omega, hsm, by dsimp only; rw [hrp]; exact hrd⟩ (by repeat (first | exact K.Sub.nil _ | refine K.Sub.cons rfl ?_)) rfl ?_ (by dsimp only; omega)
            dsimp only
            rw [hrp, List.map_append, List.flatten_append]
            simp
          | false =>
            rw [if_neg (by rw [hnl]; decide)] at hrp
            rcases hkd with hkd | hkd | hkd
            all_goals rw [hkd] at hrp
            · (repeat' (first | (apply K.s_pure; (first | (apply Y.mv; exact X.mv) | (apply Y.sg; exact X.sg) | (apply Y.pk; exact X.pk) | (apply Y.cv; exact X.cv) | (apply Y.fa; exact X.fa) | (apply Y.ld; exact X.ld) | (apply Y.ia; exact X.ia) | (apply Y.bd; exact X.bd) | (apply Y.len; exact X.len) | (apply Y.nt; exact X.nt) | (apply Y.badd; exact X.badd) | (apply Y.bsub; exact X.bsub) | (apply Y.bneq; exact X.bneq) | (apply Y.blss; exact X.blss) | (apply Y.bgtr; exact X.bgtr) | (apply Y.band; exact X.band) | (apply Y.bshr; exact X.bshr) | (apply Y.bshl; exact X.bshl) | (apply Y.bquo; exact X.bquo) | (apply Y.brem; exact X.brem)); exact rfl) | refine X.l ?_ | refine X.w ?_ | refine X.a ?_ | (refine K.c_condD rfl (fun hc => ?_) (fun hc => ?_) <;> first | (exfalso; omega) | skip) | refine K.c_cond rfl (fun hc => ?_) (fun hc => ?_) | (refine K.s_guardD rfl rfl (fun hc => ?_) (fun hc => ?_) <;> first | (exfalso; omega) | skip) | refine K.s_guard rfl rfl (fun hc => ?_) (fun hc => ?_)))
              rw [hkd]
              (repeat' (first | (apply K.s_pure; (first | (apply Y.mv; exact X.mv) | (apply Y.sg; exact X.sg) | (apply Y.pk; exact X.pk) | (apply Y.cv; exact X.cv) | (apply Y.fa; exact X.fa) | (apply Y.ld; exact X.ld) | (apply Y.ia; exact X.ia) | (apply Y.bd; exact X.bd) | (apply Y.len; exact X.len) | (apply Y.nt; exact X.nt) | (apply Y.badd; exact X.badd) | (apply Y.bsub; exact X.bsub) | (apply Y.bneq; exact X.bneq) | (apply Y.blss; exact X.blss) | (apply Y.bgtr; exact X.bgtr) | (apply Y.band; exact X.band) | (apply Y.bshr; exact X.bshr) | (apply Y.bshl; exact X.bshl) | (apply Y.bquo; exact X.bquo) | (apply Y.brem; exact X.brem)); exact rfl) | refine X.l ?_ | refine X.w ?_ | refine X.a ?_ | (refine K.c_condD rfl (fun hc => ?_) (fun hc => ?_) <;> first | (exfalso; omega) | skip) | refine K.c_cond rfl (fun hc => ?_) (fun hc => ?_) | (refine K.s_guardD rfl rfl (fun hc => ?_) (fun hc => ?_) <;> first | (exfalso; omega) | skip) | refine K.s_guard rfl rfl (fun hc => ?_) (fun hc => ?_)))
              refine K.l_callF (vals := [Cc.rv s]) (caps := []) (f := 37) (Fx.cal rfl) rfl (by rw [hrv]; rfl) (Way2 h1 s _ _ hrd hbg2) (K.pp [4] rfl) rfl ?_
              rintro u h' H' - ⟨rfl, rfl, s', hs', hr', rfl⟩
              simp only [List.set_cons_zero, List.set_cons_succ, List.eraseIdx_cons_zero, List.eraseIdx_cons_succ, List.cons_append, List.nil_append]
              refine K.l_buildSlice (Fx.und rfl) (Fx.sz rfl) rfl (Fx.zr rfl) rfl rfl rfl (cs := cV (rdV 1 (rowP bn l j ok0 rem0).2.1 (rowP bn l j ok0 rem0).2.2).1) rfl rfl (fun B4 => ?_)
              refine K.l_append_at 4 rfl (Fx.und rfl) (Fx.und rfl) rfl (Fx.sz rfl) (Fx.zr rfl) rfl (Fx.byt rfl) rfl rfl (K.src_cells (K.cels_own (pre := []) (cs := cV (rdV 1 (rowP bn l j ok0 rem0).2.1 (rowP bn l j ok0 rem0).2.2).1) (post := []) 0 rfl rfl) rfl (by simp [cV, oneCell])) (by omega) (by omega) rfl (fun a' cap' => ?_)
              simp only [List.set_cons_zero, List.set_cons_succ, List.eraseIdx_cons_zero, List.eraseIdx_cons_succ, List.cons_append, List.nil_append]
              (repeat' (first | (apply K.s_pure; (first | (apply Y.mv; exact X.mv) | (apply Y.sg; exact X.sg) | (apply Y.pk; exact X.pk) | (apply Y.cv; exact X.cv) | (apply Y.fa; exact X.fa) | (apply Y.ld; exact X.ld) | (apply Y.ia; exact X.ia) | (apply Y.bd; exact X.bd) | (apply Y.len; exact X.len) | (apply Y.nt; exact X.nt) | (apply Y.badd; exact X.badd) | (apply Y.bsub; exact X.bsub) | (apply Y.bneq; exact X.bneq) | (apply Y.blss; exact X.blss) | (apply Y.bgtr; exact X.bgtr) | (apply Y.band; exact X.band) | (apply Y.bshr; exact X.bshr) | (apply Y.bshl; exact X.bshl) | (apply Y.bquo; exact X.bquo) | (apply Y.brem; exact X.brem)); exact rfl) | refine X.l ?_ | refine X.w ?_ | refine X.a ?_ | (refine K.c_condD rfl (fun hc => ?_) (fun hc => ?_) <;> first | (exfalso; omega) | skip) | refine K.c_cond rfl (fun hc => ?_) (fun hc => ?_) | (refine K.s_guardD rfl rfl (fun hc => ?_) (fun hc => ?_) <;> first | (exfalso; omega) | skip) | refine K.s_guard rfl rfl (fun hc => ?_) (fun hc => ?_)))
              refine K.AT.sel [0, 1] rfl (K.AT.perm (K.pp [1, 1, 1, 0] rfl) ?_)
              simp only [List.set_cons_zero, List.set_cons_succ, List.eraseIdx_cons_zero, List.eraseIdx_cons_succ, List.cons_append, List.nil_append]
              refine K.a_round hKM (j + 1, s', a', cap') ⟨by dsimp only; omega, Cc.same_trans hsm hs', by dsimp only; rw [hrp]; exact hr'⟩ (by repeat (first | exact K.Sub.nil _ | refine K.Sub.cons rfl ?_)) rfl ?_ (by dsimp only; omega)
              dsimp only
              rw [hrp, List.map_append, List.flatten_append]
              simp
            · (repeat' (first | (apply K.s_pure; (first | (apply Y.mv; exact X.mv) | (apply Y.sg; exact X.sg) | (apply Y.pk; exact X.pk) | (apply Y.cv; exact X.cv) | (apply Y.fa; exact X.fa) | (apply Y.ld; exact X.ld) | (apply Y.ia; exact X.ia) | (apply Y.bd; exact X.bd) | (apply Y.len; exact X.len) | (apply Y.nt; exact X.nt) | (apply Y.badd; exact X.badd) | (apply Y.bsub; exact X.bsub) | (apply Y.bneq; exact X.bneq) | (apply Y.blss; exact X.blss) | (apply Y.bgtr; exact X.bgtr) | (apply Y.band; exact X.band) | (apply Y.bshr; exact X.bshr) | (apply Y.bshl; exact X.bshl) | (apply Y.bquo; exact X.bquo) | (apply Y.brem; exact X.brem)); exact rfl) | refine X.l ?_ | refine X.w ?_ | refine X.a ?_ | (refine K.c_condD rfl (fun hc => ?_) (fun hc => ?_) <;> first | (exfalso; omega) | skip) | refine K.c_cond rfl (fun hc => ?_) (fun hc => ?_) | (refine K.s_guardD rfl rfl (fun hc => ?_) (fun hc => ?_) <;> first | (exfalso; omega) | skip) | refine K.s_guard rfl rfl (fun hc => ?_) (fun hc => ?_)))
              rw [hkd]
              (repeat' (first | (apply K.s_pure; (first | (apply Y.mv; exact X.mv) | (apply Y.sg; exact X.sg) | (apply Y.pk; exact X.pk) | (apply Y.cv; exact X.cv) | (apply Y.fa; exact X.fa) | (apply Y.ld; exact X.ld) | (apply Y.ia; exact X.ia) | (apply Y.bd; exact X.bd) | (apply Y.len; exact X.len) | (apply Y.nt; exact X.nt) | (apply Y.badd; exact X.badd) | (apply Y.bsub; exact X.bsub) | (apply Y.bneq; exact X.bneq) | (apply Y.blss; exact X.blss) | (apply Y.bgtr; exact X.bgtr) | (apply Y.band; exact X.band) | (apply Y.bshr; exact X.bshr) | (apply Y.bshl; exact X.bshl) | (apply Y.bquo; exact X.bquo) | (apply Y.brem; exact X.brem)); exact rfl) | refine X.l ?_ | refine X.w ?_ | refine X.a ?_ | (refine K.c_condD rfl (fun hc => ?_) (fun hc => ?_) <;> first | (exfalso; omega) | skip) | refine K.c_cond rfl (fun hc => ?_) (fun hc => ?_) | (refine K.s_guardD rfl rfl (fun hc => ?_) (fun hc => ?_) <;> first | (exfalso; omega) | skip) | refine K.s_guard rfl rfl (fun hc => ?_) (fun hc => ?_)))
              refine K.l_callF (vals := [Cc.rv s]) (caps := []) (f := 41) (Fx.cal rfl) rfl (by rw [hrv]; rfl) (Way4 h1 s _ _ hrd hbg2) (K.pp [4] rfl) rfl ?_
              rintro u h' H' - ⟨rfl, rfl, s', hs', hr', rfl⟩
              simp only [List.set_cons_zero, List.set_cons_succ, List.eraseIdx_cons_zero, List.eraseIdx_cons_succ, List.cons_append, List.nil_append]
              refine K.l_buildSlice (Fx.und rfl) (Fx.sz rfl) rfl (Fx.zr rfl) rfl rfl rfl (cs := cV (rdV 2 (rowP bn l j ok0 rem0).2.1 (rowP bn l j ok0 rem0).2.2).1) rfl rfl (fun B4 => ?_)
              refine K.l_append_at 4 rfl (Fx.und rfl) (Fx.und rfl) rfl (Fx.sz rfl) (Fx.zr rfl) rfl (Fx.byt rfl) rfl rfl (K.src_cells (K.cels_own (pre := []) (cs := cV (rdV 2 (rowP bn l j ok0 rem0).2.1 (rowP bn l j ok0 rem0).2.2).1) (post := []) 0 rfl rfl) rfl (by simp [cV, oneCell])) (by omega) (by omega) rfl (fun a' cap' => ?_)
              simp only [List.set_cons_zero, List.set_cons_succ, List.eraseIdx_cons_zero, List.eraseIdx_cons_succ, List.cons_append, List.nil_append]
              (repeat' (first | (apply K.s_pure; (first | (apply Y.mv; exact X.mv) | (apply Y.sg; exact X.sg) | (apply Y.pk; exact X.pk) | (apply Y.cv; exact X.cv) | (apply Y.fa; exact X.fa) | (apply Y.ld; exact X.ld) | (apply Y.ia; exact X.ia) | (apply Y.bd; exact X.bd) | (apply Y.len; exact X.len) | (apply Y.nt; exact X.nt) | (apply Y.badd; exact X.badd) | (apply Y.bsub; exact X.bsub) | (apply Y.bneq; exact X.bneq) | (apply Y.blss; exact X.blss) | (apply Y.bgtr; exact X.bgtr) | (apply Y.band; exact X.band) | (apply Y.bshr; exact X.bshr) | (apply Y.bshl; exact X.bshl) | (apply Y.bquo; exact X.bquo) | (apply Y.brem; exact X.brem)); exact rfl) | refine X.l ?_ | refine X.w ?_ | refine X.a ?_ | (refine K.c_condD rfl (fun hc => ?_) (fun hc => ?_) <;> first | (exfalso; omega) | skip) | refine K.c_cond rfl (fun hc => ?_) (fun hc => ?_) | (refine K.s_guardD rfl rfl (fun hc => ?_) (fun hc => ?_) <;> first | (exfalso; omega) | skip) | refine K.s_guard rfl rfl (fun hc => ?_) (fun hc => ?_)))
              refine K.AT.sel [0, 1] rfl (K.AT.perm (K.pp [1, 1, 1, 0] rfl) ?_)
              simp only [List.set_cons_zero, List.set_cons_succ, List.eraseIdx_cons_zero, List.eraseIdx_cons_succ, List.cons_append, List.nil_append]
              refine K.a_round hKM (j + 1, s', a', cap') ⟨by dsimp only; omega, Cc.same_trans hsm hs', by dsimp only; rw [hrp]; exact hr'⟩ (by repeat (first | exact K.Sub.nil _ | refine K.Sub.cons rfl ?_)) rfl ?_ (by dsimp only; omega)
              dsimp only
              rw [hrp, List.map_append, List.flatten_append]
              simp
            · (repeat' (first | (apply K.s_pure; (first | (apply Y.mv; exact X.mv) | (apply Y.sg; exact X.sg) | (apply Y.pk; exact X.pk) | (apply Y.cv; exact X.cv) | (apply Y.fa; exact X.fa) | (apply Y.ld; exact X.ld) | (apply Y.ia; exact X.ia) | (apply Y.bd; exact X.bd) | (apply Y.len; exact X.len) | (apply Y.nt; exact X.nt) | (apply Y.badd; exact X.badd) | (apply Y.bsub; exact X.bsub) | (apply Y.bneq; exact X.bneq) | (apply Y.blss; exact X.blss) | (apply Y.bgtr; exact X.bgtr) | (apply Y.band; exact X.band) | (apply Y.bshr; exact X.bshr) | (apply Y.bshl; exact X.bshl) | (apply Y.bquo; exact X.bquo) | (apply Y.brem; exact X.brem)); exact rfl) | refine X.l ?_ | refine X.w ?_ | refine X.a ?_ | (refine K.c_condD rfl (fun hc => ?_) (fun hc => ?_) <;> first | (exfalso; omega) | skip) | refine K.c_cond rfl (fun hc => ?_) (fun hc => ?_) | (refine K.s_guardD rfl rfl (fun hc => ?_) (fun hc => ?_) <;> first | (exfalso; omega) | skip) | refine K.s_guard rfl rfl (fun hc => ?_) (fun hc => ?_)))
              rw [hkd]
              (repeat' (first | (apply K.s_pure; (first | (apply Y.mv; exact X.mv) | (apply Y.sg; exact X.sg) | (apply Y.pk; exact X.pk) | (apply Y.cv; exact X.cv) | (apply Y.fa; exact X.fa) | (apply Y.ld; exact X.ld) | (apply Y.ia; exact X.ia) | (apply Y.bd; exact X.bd) | (apply Y.len; exact X.len) | (apply Y.nt; exact X.nt) | (apply Y.badd; exact X.badd) | (apply Y.bsub; exact X.bsub) | (apply Y.bneq; exact X.bneq) | (apply Y.blss; exact X.blss) | (apply Y.bgtr; exact X.bgtr) | (apply Y.band; exact X.band) | (apply Y.bshr; exact X.bshr) | (apply Y.bshl; exact X.bshl) | (apply Y.bquo; exact X.bquo) | (apply Y.brem; exact X.brem)); exact rfl) | refine X.l ?_ | refine X.w ?_ | refine X.a ?_ | (refine K.c_condD rfl (fun hc => ?_) (fun hc => ?_) <;> first | (exfalso; omega) | skip) | refine K.c_cond rfl (fun hc => ?_) (fun hc => ?_) | (refine K.s_guardD rfl rfl (fun hc => ?_) (fun hc => ?_) <;> first | (exfalso; omega) | skip) | refine K.s_guard rfl rfl (fun hc => ?_) (fun hc => ?_)))
              refine K.l_callF (vals := [Cc.rv s]) (caps := []) (f := 44) (Fx.cal rfl) rfl (by rw [hrv]; rfl) (Way6 h1 s _ _ hrd hbg2) (K.pp [4] rfl) rfl ?_
              rintro u h' H' - ⟨rfl, rfl, s', hs', hr', rfl⟩
              simp only [List.set_cons_zero, List.set_cons_succ, List.eraseIdx_cons_zero, List.eraseIdx_cons_succ, List.cons_append, List.nil_append]
              refine K.l_buildSlice (Fx.und rfl) (Fx.sz rfl) rfl (Fx.zr rfl) rfl rfl rfl (cs := cV (rdV 3 (rowP bn l j ok0 rem0).2.1 (rowP bn l j ok0 rem0).2.2).1) rfl rfl (fun B4 => ?_)
              refine K.l_append_at 4 rfl (Fx.und rfl) (Fx.und rfl) rfl (Fx.sz rfl) (Fx.zr rfl) rfl (Fx.byt rfl) rfl rfl (K.src_cells (K.cels_own (pre := []) (cs := cV (rdV 3 (rowP bn l j ok0 rem0).2.1 (rowP bn l j ok0 rem0).2.2).1) (post := []) 0 rfl rfl) rfl (by simp [cV, oneCell])) (by omega) (by omega) rfl (fun a' cap' => ?_)
              simp only [List.set_cons_zero, List.set_cons_succ, List.eraseIdx_cons_zero, List.eraseIdx_cons_succ, List.cons_append, List.nil_append]
              (repeat' (first | (apply K.s_pure; (first | (apply Y.mv; exact X.mv) | (apply Y.sg; exact X.sg) | (apply Y.pk; exact X.pk) | (apply Y.cv; exact X.cv) | (apply Y.fa; exact X.fa) | (apply Y.ld; exact X.ld) | (apply Y.ia; exact X.ia) | (apply Y.bd; exact X.bd) | (apply Y.len; exact X.len) | (apply Y.nt; exact X.nt) | (apply Y.badd; exact X.badd) | (apply Y.bsub; exact X.bsub) | (apply Y.bneq; exact X.bneq) | (apply Y.blss; exact X.blss) | (apply Y.bgtr; exact X.bgtr) | (apply Y.band; exact X.band) | (apply Y.bshr; exact X.bshr) | (apply Y.bshl; exact X.bshl) | (apply Y.bquo; exact X.bquo) | (apply Y.brem; exact X.brem)); exact rfl) | refine X.l ?_ | refine X.w ?_ | refine X.a ?_ | (refine K.c_condD rfl (fun hc => ?_) (fun hc => ?_) <;> first | (exfalso; omega) | skip) | refine K.c_cond rfl (fun hc => ?_) (fun hc => ?_) | (refine K.s_guardD rfl rfl (fun hc => ?_) (fun hc => ?_) <;> first | (exfalso; omega) | skip) | refine K.s_guard rfl rfl (fun hc => ?_) (fun hc => ?_)))
              refine K.AT.sel [0, 1] rfl (K.AT.perm (K.pp [1, 1, 1, 0] rfl) ?_)
              simp only [List.set_cons_zero, List.set_cons_succ, List.eraseIdx_cons_zero, List.eraseIdx_cons_succ, List.cons_append, List.nil_append]
              refine K.a_round hKM (j + 1, s', a', cap') ⟨by dsimp only; omega, Cc.same_trans hsm hs', by dsimp only; rw [hrp]; exact hr'⟩ (by repeat (first | exact K.Sub.nil _ | refine K.Sub.cons rfl ?_)) rfl ?_ (by dsimp only; omega)
              dsimp only
              rw [hrp, List.map_append, List.flatten_append]
              simp
        · obtain rfl : j = l.length := by omega
          generalize hq : rowP bn l l.length ok0 rem0 = q at hrd rl1 rl2 hbg2
          obtain ⟨row, ok1, rem1⟩ := q
          dsimp only at hrd rl1 rl2 hbg2 ⊢
          have hrw : ∀ x ∈ row, wfV x := fun x hx => rowP_wf bn l l.length ok0 rem0 (Nat.le_refl _) hbg x (by rw [hq]; exact hx)
          have hdec : decP l t.data.toList = if 0 < l.length % 8 ∧ (bn.getD ((l.length + 7) / 8 - 1) 0).toNat / 2 ^ (l.length % 8) ≠ 0 then ([], 5) else if (ok1 && decide (rem1 = [])) = false ∨ fitsE l row ≠ 0 then ([], 5) else (row, 0) := by
            rw [decP, if_neg (by rw [hm]; decide), if_neg hlong]
            simp only [hbs, hq]
          have hfit := TrV.row (P := Try.prog) (f := 14) (args := [.slice ao l.length ca, bufV a l.length capr]) (h := h1) (v := eV (fitsE l row)) (T := 40) (sz := 3) (a := a) (cap := capr) (es := row.map cV) (R' := []) (flat_map row) (fun K hK => by
            rw [List.append_nil]
            rw [List.length_map, rl1] at hK
            exact Fits h1 K _ _ l row hv1 hK hw hrw hl (by omega))
          rw [List.length_map, rl1] at hfit
          by_cases h8 : 0 < l.length % 8
          · have hco : ((((l.length + 7) / 8 : Nat) : Int) - 1).toNat = (l.length + 7) / 8 - 1 := by omega
            have hx256 : (bn.getD ((l.length + 7) / 8 - 1) 0).toNat < 256 := (bn.getD ((l.length + 7) / 8 - 1) 0).toNat_lt
            have hce2 : Cel h1 (blkF bb 5 (bn.map u8 ++ sp) fz :: bufA 40 3 a l.length capr (row.map cV).flatten :: blk B 53 waysC :: Cc.rA s :: F) bb ((((l.length + 7) / 8 : Nat) : Int) - 1).toNat (.int .u8 ((bn.getD ((l.length + 7) / 8 - 1) 0).toNat : Nat)) := by
              rw [hco]; exact hcel _ (by omega) _
            generalize (bn.getD ((l.length + 7) / 8 - 1) 0).toNat = x at hx256 hce2 hdec
            have hsh := shr_bit (l.length % 8) (by omega) x hx256
            rw [show ((l.length % 8 : Nat) : Int) = (l.length : Int) % 8 from by omega] at hsh
            (repeat' (first | (apply K.s_pure; (first | (apply Y.mv; exact X.mv) | (apply Y.sg; exact X.sg) | (apply Y.pk; exact X.pk) | (apply Y.cv; exact X.cv) | (apply Y.fa; exact X.fa) | (apply Y.ld; exact X.ld) | (apply Y.ia; exact X.ia) | (apply Y.bd; exact X.bd) | (apply Y.len; exact X.len) | (apply Y.nt; exact X.nt) | (apply Y.badd; exact X.badd) | (apply Y.bsub; exact X.bsub) | (apply Y.bneq; exact X.bneq) | (apply Y.blss; exact X.blss) | (apply Y.bgtr; exact X.bgtr) | (apply Y.band; exact X.band) | (apply Y.bshr; exact X.bshr) | (apply Y.bshl; exact X.bshl) | (apply Y.bquo; exact X.bquo) | (apply Y.brem; exact X.brem)); exact rfl) | refine X.l ?_ | refine X.w ?_ | refine X.a ?_ | (refine K.c_condD rfl (fun hc => ?_) (fun hc => ?_) <;> first | (exfalso; omega) | skip) | refine K.c_cond rfl (fun hc => ?_) (fun hc => ?_) | (refine K.s_guardD rfl rfl (fun hc => ?_) (fun hc => ?_) <;> first | (exfalso; omega) | skip) | refine K.s_guard rfl rfl (fun hc => ?_) (fun hc => ?_)))
            · rw [hsh] at hc
              rw [hdec, if_pos ⟨h8, by omega⟩]
              refine K.AT.sel [0, 0, 0, 0] rfl (K.AT.nilBuf 40 3 ?_)
              refine K.done (by first | exact Or.inl rfl | exact Or.inr rfl) rfl le1 (H' := [_]) rfl ⟨none, 0, rfl, rfl⟩
            · rw [hsh] at hc
              rw [hdec, if_neg (fun e => e.2 (by omega))]
              refine K.l_call (vals := [Cc.rv s]) (Fx.cal rfl) (by rw [hrv]; rfl) (Cc.R_End h1 s ok1 rem1 hrd hbg2) (K.pp [3] rfl) rfl ?_
              rintro u h' H' - ⟨rfl, rfl, s', hs', hr', rfl⟩
              simp only [List.set_cons_zero, List.set_cons_succ, List.eraseIdx_cons_zero, List.eraseIdx_cons_succ, List.cons_append, List.nil_append]
              cases hoe : (ok1 && decide (rem1 = [])) with
              | false =>
                rw [if_pos (.inl rfl)]
                (repeat' (first | (apply K.s_pure; (first | (apply Y.mv; exact X.mv) | (apply Y.sg; exact X.sg) | (apply Y.pk; exact X.pk) | (apply Y.cv; exact X.cv) | (apply Y.fa; exact X.fa) | (apply Y.ld; exact X.ld) | (apply Y.ia; exact X.ia) | (apply Y.bd; exact X.bd) | (apply Y.len; exact X.len) | (apply Y.nt; exact X.nt) | (apply Y.badd; exact X.badd) | (apply Y.bsub; exact X.bsub) | (apply Y.bneq; exact X.bneq) | (apply Y.blss; exact X.blss) | (apply Y.bgtr; exact X.bgtr) | (apply Y.band; exact X.band) | (apply Y.bshr; exact X.bshr) | (apply Y.bshl; exact X.bshl) | (apply Y.bquo; exact X.bquo) | (apply Y.brem; exact X.brem)); exact rfl) | refine X.l ?_ | refine X.w ?_ | refine X.a ?_ | (refine K.c_condD rfl (fun hc => ?_) (fun hc => ?_) <;> first | (exfalso; omega) | skip) | refine K.c_cond rfl (fun hc => ?_) (fun hc => ?_) | (refine K.s_guardD rfl rfl (fun hc => ?_) (fun hc => ?_) <;> first | (exfalso; omega) | skip) | refine K.s_guard rfl rfl (fun hc => ?_) (fun hc => ?_)))
                refine K.AT.sel [0, 0, 0, 0] rfl (K.AT.nilBuf 40 3 ?_)
                refine K.done (by first | exact Or.inl rfl | exact Or.inr rfl) rfl le1 (H' := [_]) rfl ⟨none, 0, rfl, rfl⟩
              | true =>
                (repeat' (first | (apply K.s_pure; (first | (apply Y.mv; exact X.mv) | (apply Y.sg; exact X.sg) | (apply Y.pk; exact X.pk) | (apply Y.cv; exact X.cv) | (apply Y.fa; exact X.fa) | (apply Y.ld; exact X.ld) | (apply Y.ia; exact X.ia) | (apply Y.bd; exact X.bd) | (apply Y.len; exact X.len) | (apply Y.nt; exact X.nt) | (apply Y.badd; exact X.badd) | (apply Y.bsub; exact X.bsub) | (apply Y.bneq; exact X.bneq) | (apply Y.blss; exact X.blss) | (apply Y.bgtr; exact X.bgtr) | (apply Y.band; exact X.band) | (apply Y.bshr; exact X.bshr) | (apply Y.bshl; exact X.bshl) | (apply Y.bquo; exact X.bquo) | (apply Y.brem; exact X.brem)); exact rfl) | refine X.l ?_ | refine X.w ?_ | refine X.a ?_ | (refine K.c_condD rfl (fun hc => ?_) (fun hc => ?_) <;> first | (exfalso; omega) | skip) | refine K.c_cond rfl (fun hc => ?_) (fun hc => ?_) | (refine K.s_guardD rfl rfl (fun hc => ?_) (fun hc => ?_) <;> first | (exfalso; omega) | skip) | refine K.s_guard rfl rfl (fun hc => ?_) (fun hc => ?_)))
                refine K.l_callV (vals := [.slice ao l.length ca, bufV a l.length capr]) (Fx.cal rfl) rfl hfit (K.pp [2] rfl) rfl rfl ?_
                by_cases hfz : fitsE l row = 0
                · rw [if_neg (by rintro (e | e); cases e; exact e hfz), hfz]
                  simp only [List.set_cons_zero, List.set_cons_succ, List.eraseIdx_cons_zero, List.eraseIdx_cons_succ, List.cons_append, List.nil_append]
                  (repeat' (first | (apply K.s_pure; (first | (apply Y.mv; exact X.mv) | (apply Y.sg; exact X.sg) | (apply Y.pk; exact X.pk) | (apply Y.cv; exact X.cv) | (apply Y.fa; exact X.fa) | (apply Y.ld; exact X.ld) | (apply Y.ia; exact X.ia) | (apply Y.bd; exact X.bd) | (apply Y.len; exact X.len) | (apply Y.nt; exact X.nt) | (apply Y.badd; exact X.badd) | (apply Y.bsub; exact X.bsub) | (apply Y.bneq; exact X.bneq) | (apply Y.blss; exact X.blss) | (apply Y.bgtr; exact X.bgtr) | (apply Y.band; exact X.band) | (apply Y.bshr; exact X.bshr) | (apply Y.bshl; exact X.bshl) | (apply Y.bquo; exact X.bquo) | (apply Y.brem; exact X.brem)); exact rfl) | refine X.l ?_ | refine X.w ?_ | refine X.a ?_ | (refine K.c_condD rfl (fun hc => ?_) (fun hc => ?_) <;> first | (exfalso; omega) | skip) | refine K.c_cond rfl (fun hc => ?_) (fun hc => ?_) | (refine K.s_guardD rfl rfl (fun hc => ?_) (fun hc => ?_) <;> first | (exfalso; omega) | skip) | refine K.s_guard rfl rfl (fun hc => ?_) (fun hc => ?_)))
                  refine K.AT.sel [1, 1, 1] rfl ?_
                  refine K.done (by first | exact Or.inl rfl | exact Or.inr rfl) rfl le1 (H' := [_]) rfl ⟨a, capr, by dsimp only; rw [rl1]; rfl, by dsimp only; rw [rl1]⟩
                · rw [if_pos (.inr hfz)]
                  simp only [List.set_cons_zero, List.set_cons_succ, List.eraseIdx_cons_zero, List.eraseIdx_cons_succ, List.cons_append, List.nil_append]
                  (repeat' (first | (apply K.s_pure; (first | (apply Y.mv; exact X.mv) | (apply Y.sg; exact X.sg) | (apply Y.pk; exact X.pk) | (apply Y.cv; exact X.cv) | (apply Y.fa; exact X.fa) | (apply Y.ld; exact X.ld) | (apply Y.ia; exact X.ia) | (apply Y.bd; exact X.bd) | (apply Y.len; exact X.len) | (apply Y.nt; exact X.nt) | (apply Y.badd; exact X.badd) | (apply Y.bsub; exact X.bsub) | (apply Y.bneq; exact X.bneq) | (apply Y.blss; exact X.blss) | (apply Y.bgtr; exact X.bgtr) | (apply Y.band; exact X.band) | (apply Y.bshr; exact X.bshr) | (apply Y.bshl; exact X.bshl) | (apply Y.bquo; exact X.bquo) | (apply Y.brem; exact X.brem)); exact rfl) | refine X.l ?_ | refine X.w ?_ | refine X.a ?_ | (refine K.c_condD rfl (fun hc => ?_) (fun hc => ?_) <;> first | (exfalso; omega) | skip) | refine K.c_cond rfl (fun hc => ?_) (fun hc => ?_) | (refine K.s_guardD rfl rfl (fun hc => ?_) (fun hc => ?_) <;> first | (exfalso; omega) | skip) | refine K.s_guard rfl rfl (fun hc => ?_) (fun hc => ?_)))
                  refine K.AT.sel [0, 0, 0, 0] rfl (K.AT.nilBuf 40 3 ?_)
                  refine K.done (by first | exact Or.inl rfl | exact Or.inr rfl) rfl le1 (H' := [_]) rfl ⟨none, 0, rfl, rfl⟩
          · rw [hdec, if_neg (fun e => h8 e.1)]
            (repeat' (first | (apply K.s_pure; (first | (apply Y.mv; exact X.mv) | (apply Y.sg; exact X.sg) | (apply Y.pk; exact X.pk) | (apply Y.cv; exact X.cv) | (apply Y.fa; exact X.fa) | (apply Y.ld; exact X.ld) | (apply Y.ia; exact X.ia) | (apply Y.bd; exact X.bd) | (apply Y.len; exact X.len) | (apply Y.nt; exact X.nt) | (apply Y.badd; exact X.badd) | (apply Y.bsub; exact X.bsub) | (apply Y.bneq; exact X.bneq) | (apply Y.blss; exact X.blss) | (apply Y.bgtr; exact X.bgtr) | (apply Y.band; exact X.band) | (apply Y.bshr; exact X.bshr) | (apply Y.bshl; exact X.bshl) | (apply Y.bquo; exact X.bquo) | (apply Y.brem; exact X.brem)); exact rfl) | refine X.l ?_ | refine X.w ?_ | refine X.a ?_ | (refine K.c_condD rfl (fun hc => ?_) (fun hc => ?_) <;> first | (exfalso; omega) | skip) | refine K.c_cond rfl (fun hc => ?_) (fun hc => ?_) | (refine K.s_guardD rfl rfl (fun hc => ?_) (fun hc => ?_) <;> first | (exfalso; omega) | skip) | refine K.s_guard rfl rfl (fun hc => ?_) (fun hc => ?_)))
            refine K.l_call (vals := [Cc.rv s]) (Fx.cal rfl) (by rw [hrv]; rfl) (Cc.R_End h1 s ok1 rem1 hrd hbg2) (K.pp [3] rfl) rfl ?_
            rintro u h' H' - ⟨rfl, rfl, s', hs', hr', rfl⟩
            simp only [List.set_cons_zero, List.set_cons_succ, List.eraseIdx_cons_zero, List.eraseIdx_cons_succ, List.cons_append, List.nil_append]
            cases hoe : (ok1 && decide (rem1 = [])) with
            | false =>
              rw [if_pos (.inl rfl)]
              (repeat' (first | (apply K.s_pure; (first | (apply Y.mv; exact X.mv) | (apply Y.sg; exact X.sg) | (apply Y.pk; exact X.pk) | (apply Y.cv; exact X.cv) | (apply Y.fa; exact X.fa) | (apply Y.ld; exact X.ld) | (apply Y.ia; exact X.ia) | (apply Y.bd; exact X.bd) | (apply Y.len; exact X.len) | (apply Y.nt; exact X.nt) | (apply Y.badd; exact X.badd) | (apply Y.bsub; exact X.bsub) | (apply Y.bneq; exact X.bneq) | (apply Y.blss; exact X.blss) | (apply Y.bgtr; exact X.bgtr) | (apply Y.band; exact X.band) | (apply Y.bshr; exact X.bshr) | (apply Y.bshl; exact X.bshl) | (apply Y.bquo; exact X.bquo) | (apply Y.brem; exact X.brem)); exact rfl) | refine X.l ?_ | refine X.w ?_ | refine X.a ?_ | (refine K.c_condD rfl (fun hc => ?_) (fun hc => ?_) <;> first | (exfalso; omega) | skip) | refine K.c_cond rfl (fun hc => ?_) (fun hc => ?_) | (refine K.s_guardD rfl rfl (fun hc => ?_) (fun hc => ?_) <;> first | (exfalso; omega) | skip) | refine K.s_guard rfl rfl (fun hc => ?_) (fun hc => ?_)))
              refine K.AT.sel [0, 0, 0, 0] rfl (K.AT.nilBuf 40 3 ?_)
              refine K.done (by first | exact Or.inl rfl | exact Or.inr rfl) rfl le1 (H' := [_]) rfl ⟨none, 0, rfl, rfl⟩
            | true =>
              (repeat' (first | (apply K.s_pure; (first | (apply Y.mv; exact X.mv) | (apply Y.sg; exact X.sg) | (apply Y.pk; exact X.pk) | (apply Y.cv; exact X.cv) | (apply Y.fa; exact X.fa) | (apply Y.ld; exact X.ld) | (apply Y.ia; exact X.ia) | (apply Y.bd; exact X.bd) | (apply Y.len; exact X.len) | (apply Y.nt; exact X.nt) | (apply Y.badd; exact X.badd) | (apply Y.bsub; exact X.bsub) | (apply Y.bneq; exact X.bneq) | (apply Y.blss; exact X.blss) | (apply Y.bgtr; exact X.bgtr) | (apply Y.band; exact X.band) | (apply Y.bshr; exact X.bshr) | (apply Y.bshl; exact X.bshl) | (apply Y.bquo; exact X.bquo) | (apply Y.brem; exact X.brem)); exact rfl) | refine X.l ?_ | refine X.w ?_ | refine X.a ?_ | (refine K.c_condD rfl (fun hc => ?_) (fun hc => ?_) <;> first | (exfalso; omega) | skip) | refine K.c_cond rfl (fun hc => ?_) (fun hc => ?_) | (refine K.s_guardD rfl rfl (fun hc => ?_) (fun hc => ?_) <;> first | (exfalso; omega) | skip) | refine K.s_guard rfl rfl (fun hc => ?_) (fun hc => ?_)))
              refine K.l_callV (vals := [.slice ao l.length ca, bufV a l.length capr]) (Fx.cal rfl) rfl hfit (K.pp [2] rfl) rfl rfl ?_
              by_cases hfz : fitsE l row = 0
              · rw [if_neg (by rintro (e | e); cases e; exact e hfz), hfz]
                simp only [List.set_cons_zero, List.set_cons_succ, List.eraseIdx_cons_zero, List.eraseIdx_cons_succ, List.cons_append, List.nil_append]
                (repeat' (first | (apply K.s_pure; (first | (apply Y.mv; exact X.mv) | (apply Y.sg; exact X.sg) | (apply Y.pk; exact X.pk) | (apply Y.cv; exact X.cv) | (apply Y.fa; exact X.fa) | (apply Y.ld; exact X.ld) | (apply Y.ia; exact X.ia) | (apply Y.bd; exact X.bd) | (apply Y.len; exact X.len) | (apply Y.nt; exact X.nt) | (apply Y.badd; exact X.badd) | (apply Y.bsub; exact X.bsub) | (apply Y.bneq; exact X.bneq) | (apply Y.blss; exact X.blss) | (apply Y.bgtr; exact X.bgtr) | (apply Y.band; exact X.band) | (apply Y.bshr; exact X.bshr) | (apply Y.bshl; exact X.bshl) | (apply Y.bquo; exact X.bquo) | (apply Y.brem; exact X.brem)); exact rfl) | refine X.l ?_ | refine X.w ?_ | refine X.a ?_ | (refine K.c_condD rfl (fun hc => ?_) (fun hc => ?_) <;> first | (exfalso; omega) | skip) | refine K.c_cond rfl (fun hc => ?_) (fun hc => ?_) | (refine K.s_guardD rfl rfl (fun hc => ?_) (fun hc => ?_) <;> first | (exfalso; omega) | skip) | refine K.s_guard rfl rfl (fun hc => ?_) (fun hc => ?_)))
                refine K.AT.sel [1, 1, 1] rfl ?_
                refine K.done (by first | exact Or.inl rfl | exact Or.inr rfl) rfl le1 (H' := [_]) rfl ⟨a, capr, by dsimp only; rw [rl1]; rfl, by dsimp only; rw [rl1]⟩
              · rw [if_pos (.inr hfz)]
                simp only [List.set_cons_zero, List.set_cons_succ, List.eraseIdx_cons_zero, List.eraseIdx_cons_succ, List.cons_append, List.nil_append]
                (repeat' (first | (apply K.s_pure; (first | (apply Y.mv; exact X.mv) | (apply Y.sg; exact X.sg) | (apply Y.pk; exact X.pk) | (apply Y.cv; exact X.cv) | (apply Y.fa; exact X.fa) | (apply Y.ld; exact X.ld) | (apply Y.ia; exact X.ia) | (apply Y.bd; exact X.bd) | (apply Y.len; exact X.len) | (apply Y.nt; exact X.nt) | (apply Y.badd; exact X.badd) | (apply Y.bsub; exact X.bsub) | (apply Y.bneq; exact X.bneq) | (apply Y.blss; exact X.blss) | (apply Y.bgtr; exact X.bgtr) | (apply Y.band; exact X.band) | (apply Y.bshr; exact X.bshr) | (apply Y.bshl; exact X.bshl) | (apply Y.bquo; exact X.bquo) | (apply Y.brem; exact X.brem)); exact rfl) | refine X.l ?_ | refine X.w ?_ | refine X.a ?_ | (refine K.c_condD rfl (fun hc => ?_) (fun hc => ?_) <;> first | (exfalso; omega) | skip) | refine K.c_cond rfl (fun hc => ?_) (fun hc => ?_) | (refine K.s_guardD rfl rfl (fun hc => ?_) (fun hc => ?_) <;> first | (exfalso; omega) | skip) | refine K.s_guard rfl rfl (fun hc => ?_) (fun hc => ?_)))
                refine K.AT.sel [0, 0, 0, 0] rfl (K.AT.nilBuf 40 3 ?_)
                refine K.done (by first | exact Or.inl rfl | exact Or.inr rfl) rfl le1 (H' := [_]) rfl ⟨none, 0, rfl, rfl⟩
end Go.Proofs.Ythdiokdaaofebaa.Rw
