/-
  Rows: a row's text, the package's way. Conditions: each theorem's own.
-/
import Derived.Test.YthdiokdaaofebaaDe

namespace Go.Proofs.Ythdiokdaaofebaa.Rw
open Go Go.K Go.Proofs Go.Proofs.Ythdiokdaaofebaa
set_option linter.unusedVariables false
set_option linter.unusedSimpArgs false
set_option maxRecDepth 10000

def nullNum : List Val → Nat
  | [] => 0
  | v :: r => (if v.kind = 0 then 1 else 0) + 2 * nullNum r
theorem nullNum_lt : ∀ l : List Val, nullNum l < 2 ^ l.length
  | [] => by simp [nullNum]
  | v :: r => by have := nullNum_lt r; rw [nullNum, List.length_cons, Nat.pow_succ]; split <;> omega
theorem nullNum_snoc : ∀ (l : List Val) (v : Val), nullNum (l ++ [v]) = nullNum l + (if v.kind = 0 then 1 else 0) * 2 ^ l.length
  | [], v => by simp [nullNum]
  | x :: r, v => by
    rw [List.cons_append, nullNum, nullNum_snoc r v, nullNum, List.length_cons, Nat.pow_succ]
    generalize 2 ^ r.length = p
    split <;> split <;> omega
/-- The bits of what is Null. -/
def nullB (r : List Val) : List UInt8 := (List.range ((r.length + 7) / 8)).map fun c => UInt8.ofNat (nullNum ((r.drop (8 * c)).take 8))
def valB (v : Val) : List UInt8 := if v.kind = 0 then [] else oneB v
/-- A row's bytes. -/
def encB (r : List Val) : List UInt8 := nullB r ++ r.flatMap valB
/-- A row's text, or why there is none. -/
def encR (l : List Col) (r : List Val) : List UInt8 × Int := if fitsE l r ≠ 0 then ([], fitsE l r) else if 160 < (encB r).length then ([], 51) else (encB r, 0)

theorem okV_kind {v : Val} (h : okV v = true) : v.kind = 0 ∨ v.kind = 1 ∨ v.kind = 2 ∨ v.kind = 3 := by
  have := (okV_iff v).1 h
  unfold okVP at this
  omega
theorem fitsL_ok : ∀ (l : List Col) (r : List Val), r.length = l.length → fitsL l r = 0 → ∀ (j : Nat) (v : Val) (c : Col), r[j]? = some v → l[j]? = some c → okV v = true ∧ (v.kind = 0 ∨ v.kind = c.kind)
  | [], [], _, _, j, v, c, h1, _ => by simp at h1
  | c0 :: l, v0 :: r, hl, hf, j, v, c, h1, h2 => by
    rw [fitsL] at hf
    split at hf
    · cases hf
    · rename_i hok
      split at hf
      · cases hf
      · rename_i hk
        split at hf
        · cases hf
        · cases j with
          | zero =>
            simp at h1 h2
            subst h1 h2
            exact ⟨by simpa using hok, by omega⟩
          | succ j => exact fitsL_ok l r (by simpa using hl) hf j v c (by simpa using h1) (by simpa using h2)
  | [], _ :: _, hl, _, _, _, _, _, _ => by simp at hl
  | _ :: _, [], hl, _, _, _, _, _, _ => by simp at hl
theorem fits_ok {l : List Col} {r : List Val} (h : fitsE l r = 0) : mayB l = true ∧ r.length = l.length ∧ r.length ≤ 16 ∧ ∀ v ∈ r, okV v = true := by
  unfold fitsE at h
  split at h
  · cases h
  · rename_i hc
    have h1 : mayB l = true := by
      cases hm : mayB l with
      | true => rfl
      | false => exact absurd (Or.inl hm) hc
    have h2 : r.length = l.length := by
      rcases Nat.decEq r.length l.length with e | e
      · exact absurd (Or.inr e) hc
      · exact e
    refine ⟨h1, h2, by have := mayB_len16 h1; omega, fun v hv => ?_⟩
    obtain ⟨j, hj, e⟩ := List.getElem_of_mem hv
    exact (fitsL_ok l r h2 h j v (l[j]'(by omega)) (by rw [List.getElem?_eq_getElem hj, e]) (List.getElem?_eq_getElem (by omega))).1
theorem valB_len {v : Val} (h : okV v = true) : (valB v).length ≤ 80 := by
  have hp := (okV_iff v).1 h
  unfold okVP at hp
  unfold valB
  split
  · simp
  · unfold oneB
    split
    · rw [lebs_length]; omega
    · have c1 := cu_len v.s.size
      have c2 := cu_len (zig v.n)
      split
      · rw [List.length_append]
        have : v.s.data.toList.length = v.s.size := by simp
        omega
      · omega
theorem flat_len : ∀ (r : List Val), (∀ v ∈ r, okV v = true) → (r.flatMap valB).length ≤ r.length * 80
  | [], _ => by simp
  | v :: r, h => by
    have h1 := valB_len (h v (List.mem_cons_self ..))
    have h2 := flat_len r fun x hx => h x (List.mem_cons_of_mem _ hx)
    rw [List.flatMap_cons, List.length_append, List.length_cons, Nat.add_mul]; omega
theorem or_bit : ∀ m : Nat, m < 8 → ∀ b : Nat, b < 2 ^ m → bits .or .u8 (b : Int) (IntKind.u8.wrap ((1 : Int) * 2 ^ (min ((m : Nat) : Int).toNat IntKind.u8.bits))) = ((b + 2 ^ m : Nat) : Int) := by decide +kernel
/-- A writer that somebody made. -/
def mk : Ca.WSt → Prop
  | some (_, some _) => True
  | _ => False
theorem mk_add {bs : List UInt8} : ∀ {s s' : Ca.WSt}, mk s → Ca.wadd bs s s' → mk s' ∧ Ca.wb s' = Ca.wb s ++ bs
  | some (_, some (_, _, _)), some (_, some (_, _, _)), _, h => ⟨trivial, h.2⟩
  | none, _, h, _ => h.elim
  | some (_, none), _, h, _ => h.elim
  | some (_, some _), none, _, h => h.elim
  | some (_, some _), some (_, none), _, h => h.elim

set_option maxHeartbeats 4000000 in
theorem Encode (h : Base) (v u : Value) (l : List Col) (r : List Val) (hv : SL h 3 v (l.map cC)) (hu : SL h 3 u (r.map cV)) (hw : ∀ c ∈ l, wfC c) (hx : ∀ c ∈ r, wfV c) (hl : l.length ≤ 9223372036854775807) (hr : r.length ≤ 9223372036854775807) :
    TrV Try.prog 15 [v, u] h [] (.tuple #[.string ⟨(encR l r).1.toArray⟩, eV (encR l r).2]) [] := by
  have hlen2 : (r.map cV).length = r.length := List.length_map ..
  obtain ⟨ao2, ca2, rfl⟩ := hu.len
  rw [hlen2] at hu ⊢
  refine K.enter Try.func15 rfl (Nat.le_of_ble_eq_true rfl) (fun F => ?_)
  simp only [List.nil_append]
  (repeat' (first | (apply K.s_pure; (first | (apply Y.mv; exact X.mv) | (apply Y.sg; exact X.sg) | (apply Y.pk; exact X.pk) | (apply Y.cv; exact X.cv) | (apply Y.fa; exact X.fa) | (apply Y.ld; exact X.ld) | (apply Y.ia; exact X.ia) | (apply Y.len; exact X.len) | (apply Y.badd; exact X.badd) | (apply Y.bsub; exact X.bsub) | (apply Y.beql; exact X.beql) | (apply Y.bneq; exact X.bneq) | (apply Y.blss; exact X.blss) | (apply Y.bgtr; exact X.bgtr) | (apply Y.bor; exact X.bor) | (apply Y.bshl; exact X.bshl)); exact rfl) | refine X.l ?_ | refine X.w ?_ | refine X.a ?_ | (refine K.c_condD rfl (fun hc => ?_) (fun hc => ?_) <;> first | (exfalso; omega) | skip) | refine K.c_cond rfl (fun hc => ?_) (fun hc => ?_) | (refine K.s_guardD rfl rfl (fun hc => ?_) (fun hc => ?_) <;> first | (exfalso; omega) | skip) | refine K.s_guard rfl rfl (fun hc => ?_) (fun hc => ?_)))
  refine K.l_callV (Fx.cal rfl) rfl (Fits h [] v _ l r hv hu.k hw hx hl hr) (K.pp [] rfl) rfl rfl ?_
  simp only [List.nil_append, eV]
  by_cases hf : fitsE l r = 0
  · obtain ⟨hm, hlr, hr16, hall⟩ := fits_ok hf
    have her : encR l r = if 160 < (encB r).length then ([], 51) else (encB r, 0) := by rw [encR, if_neg (fun e => e hf)]
    rw [hf]
    (repeat' (first | (apply K.s_pure; (first | (apply Y.mv; exact X.mv) | (apply Y.sg; exact X.sg) | (apply Y.pk; exact X.pk) | (apply Y.cv; exact X.cv) | (apply Y.fa; exact X.fa) | (apply Y.ld; exact X.ld) | (apply Y.ia; exact X.ia) | (apply Y.len; exact X.len) | (apply Y.badd; exact X.badd) | (apply Y.bsub; exact X.bsub) | (apply Y.beql; exact X.beql) | (apply Y.bneq; exact X.bneq) | (apply Y.blss; exact X.blss) | (apply Y.bgtr; exact X.bgtr) | (apply Y.bor; exact X.bor) | (apply Y.bshl; exact X.bshl)); exact rfl) | refine X.l ?_ | refine X.w ?_ | refine X.a ?_ | (refine K.c_condD rfl (fun hc => ?_) (fun hc => ?_) <;> first | (exfalso; omega) | skip) | refine K.c_cond rfl (fun hc => ?_) (fun hc => ?_) | (refine K.s_guardD rfl rfl (fun hc => ?_) (fun hc => ?_) <;> first | (exfalso; omega) | skip) | refine K.s_guard rfl rfl (fun hc => ?_) (fun hc => ?_)))
    refine K.l_call (Fx.cal rfl) rfl (Ca.NewWriter h) (K.pp [] rfl) rfl ?_
    rintro w h' H' - ⟨rfl, p, rfl, rfl⟩
    simp only [List.set_cons_zero, List.set_cons_succ, List.eraseIdx_cons_zero, List.eraseIdx_cons_succ, List.cons_append, List.nil_append]
    (repeat' (first | (apply K.s_pure; (first | (apply Y.mv; exact X.mv) | (apply Y.sg; exact X.sg) | (apply Y.pk; exact X.pk) | (apply Y.cv; exact X.cv) | (apply Y.fa; exact X.fa) | (apply Y.ld; exact X.ld) | (apply Y.ia; exact X.ia) | (apply Y.len; exact X.len) | (apply Y.badd; exact X.badd) | (apply Y.bsub; exact X.bsub) | (apply Y.beql; exact X.beql) | (apply Y.bneq; exact X.bneq) | (apply Y.blss; exact X.blss) | (apply Y.bgtr; exact X.bgtr) | (apply Y.bor; exact X.bor) | (apply Y.bshl; exact X.bshl)); exact rfl) | refine X.l ?_ | refine X.w ?_ | refine X.a ?_ | (refine K.c_condD rfl (fun hc => ?_) (fun hc => ?_) <;> first | (exfalso; omega) | skip) | refine K.c_cond rfl (fun hc => ?_) (fun hc => ?_) | (refine K.s_guardD rfl rfl (fun hc => ?_) (fun hc => ?_) <;> first | (exfalso; omega) | skip) | refine K.s_guard rfl rfl (fun hc => ?_) (fun hc => ?_)))
    refine K.c_loop (σ := Nat × Ca.WSt) (fun q => [(1, .slice ao2 r.length ca2), (7, Ca.wv q.2), (8, .int .i64 (8 * (q.1 : Int)))]) (fun _ => h) (fun q => Ca.wA q.2 :: F)
      (fun q => q.1 ≤ (r.length + 7) / 8 ∧ mk q.2 ∧ Ca.wb q.2 = (nullB r).take q.1) (fun q => 4 - q.1) (0, _) ⟨Nat.zero_le _, (show mk (some (p, some (none, 0, []))) from trivial), rfl⟩ (by repeat (first | exact K.Sub.nil _ | refine K.Sub.cons rfl ?_)) rfl rfl ?_
    rintro ⟨c, s⟩ ⟨hc, hmk, hwb⟩ KL hKL
    dsimp only at hc hmk hwb ⊢
    have hwl : (Ca.wb s).length ≤ 16 := by rw [hwb, List.length_take]; omega
    by_cases hcl : c < (r.length + 7) / 8
    · have h8 : 8 * c < r.length := by omega
      have hnb : (nullB r).take (c + 1) = (nullB r).take c ++ [UInt8.ofNat (nullNum ((r.drop (8 * c)).take 8))] := by
        have hlt : c < (nullB r).length := by simp [nullB]; omega
        rw [List.take_succ_eq_append_getElem hlt]
        congr 2
        simp [nullB]
      (repeat' (first | (apply K.s_pure; (first | (apply Y.mv; exact X.mv) | (apply Y.sg; exact X.sg) | (apply Y.pk; exact X.pk) | (apply Y.cv; exact X.cv) | (apply Y.fa; exact X.fa) | (apply Y.ld; exact X.ld) | (apply Y.ia; exact X.ia) | (apply Y.len; exact X.len) | (apply Y.badd; exact X.badd) | (apply Y.bsub; exact X.bsub) | (apply Y.beql; exact X.beql) | (apply Y.bneq; exact X.bneq) | (apply Y.blss; exact X.blss) | (apply Y.bgtr; exact X.bgtr) | (apply Y.bor; exact X.bor) | (apply Y.bshl; exact X.bshl)); exact rfl) | refine X.l ?_ | refine X.w ?_ | refine X.a ?_ | (refine K.c_condD rfl (fun hc => ?_) (fun hc => ?_) <;> first | (exfalso; omega) | skip) | refine K.c_cond rfl (fun hc => ?_) (fun hc => ?_) | (refine K.s_guardD rfl rfl (fun hc => ?_) (fun hc => ?_) <;> first | (exfalso; omega) | skip) | refine K.s_guard rfl rfl (fun hc => ?_) (fun hc => ?_)))
      refine K.c_loop (σ := Nat) (fun m => [(1, .slice ao2 r.length ca2), (7, Ca.wv s), (8, .int .i64 (8 * (c : Int))), (9, .int .u8 (nullNum ((r.drop (8 * c)).take m) : Nat)), (10, .int .i64 (8 * (c : Int) + (m : Int)))]) (fun _ => h) (fun _ => Ca.wA s :: F)
        (fun m => m ≤ 8 ∧ 8 * c + m ≤ r.length) (fun m => 8 - m) 0 ⟨by omega, by omega⟩ ?_ rfl rfl ?_
      · rw [List.take_zero, show (8 * (c : Int) + ((0 : Nat) : Int)) = 8 * (c : Int) from by omega]
        exact (by repeat (first | exact K.Sub.nil _ | refine K.Sub.cons rfl ?_))
      rintro m ⟨hm8, hmr⟩ KM hKM
      have hbl : nullNum ((r.drop (8 * c)).take m) < 2 ^ m := by
        have := nullNum_lt ((r.drop (8 * c)).take m)
        rwa [List.length_take, List.length_drop, Nat.min_eq_left (by omega)] at this
      have hb256 : nullNum ((r.drop (8 * c)).take m) < 256 := Nat.lt_of_lt_of_le hbl (Nat.pow_le_pow_right (n := 2) (j := 8) (by omega) hm8)
      by_cases hin : m < 8 ∧ 8 * c + m < r.length
      · obtain ⟨hi1, hi2⟩ := hin
        have hd0 : (r.map cV)[(8 * (c : Int) + (m : Int)).toNat]? = some (cV r[8 * c + m]) := by
          rw [show (8 * (c : Int) + (m : Int)).toNat = 8 * c + m from by omega, List.getElem?_map, List.getElem?_eq_getElem hi2]; rfl
        have htk : (r.drop (8 * c)).take (m + 1) = (r.drop (8 * c)).take m ++ [r[8 * c + m]] := by
          rw [List.take_succ_eq_append_getElem (by rw [List.length_drop]; omega), List.getElem_drop]
        have hns := nullNum_snoc ((r.drop (8 * c)).take m) r[8 * c + m]
        rw [← htk, List.length_take, List.length_drop, Nat.min_eq_left (by omega)] at hns
        generalize r[8 * c + m] = d at hd0 hns
        (repeat' (first | (apply K.s_pure; (first | (apply Y.mv; exact X.mv) | (apply Y.sg; exact X.sg) | (apply Y.pk; exact X.pk) | (apply Y.cv; exact X.cv) | (apply Y.fa; exact X.fa) | (apply Y.ld; exact X.ld) | (apply Y.ia; exact X.ia) | (apply Y.len; exact X.len) | (apply Y.badd; exact X.badd) | (apply Y.bsub; exact X.bsub) | (apply Y.beql; exact X.beql) | (apply Y.bneq; exact X.bneq) | (apply Y.blss; exact X.blss) | (apply Y.bgtr; exact X.bgtr) | (apply Y.bor; exact X.bor) | (apply Y.bshl; exact X.bshl)); exact rfl) | refine X.l ?_ | refine X.w ?_ | refine X.a ?_ | (refine K.c_condD rfl (fun hc => ?_) (fun hc => ?_) <;> first | (exfalso; omega) | skip) | refine K.c_cond rfl (fun hc => ?_) (fun hc => ?_) | (refine K.s_guardD rfl rfl (fun hc => ?_) (fun hc => ?_) <;> first | (exfalso; omega) | skip) | refine K.s_guard rfl rfl (fun hc => ?_) (fun hc => ?_)))
        refine K.s_pureE (K.p_indexL hu (Fx.und rfl) (Fx.sz rfl) rfl rfl (by omega) hd0) rfl ?_
        rintro v2 ⟨b, o, rfl, hcel⟩
        have hq := (Cels.up (K := Ca.wA s :: F) hcel).1
        by_cases hk0 : d.kind = 0
        · rw [if_pos hk0, Nat.one_mul] at hns
          (repeat' (first | (apply K.s_pure; (first | (apply Y.mv; exact X.mv) | (apply Y.sg; exact X.sg) | (apply Y.pk; exact X.pk) | (apply Y.cv; exact X.cv) | (apply Y.fa; exact X.fa) | (apply Y.ld; exact X.ld) | (apply Y.ia; exact X.ia) | (apply Y.len; exact X.len) | (apply Y.badd; exact X.badd) | (apply Y.bsub; exact X.bsub) | (apply Y.beql; exact X.beql) | (apply Y.bneq; exact X.bneq) | (apply Y.blss; exact X.blss) | (apply Y.bgtr; exact X.bgtr) | (apply Y.bor; exact X.bor) | (apply Y.bshl; exact X.bshl)); exact rfl) | refine X.l ?_ | refine X.w ?_ | refine X.a ?_ | (refine K.c_condD rfl (fun hc => ?_) (fun hc => ?_) <;> first | (exfalso; omega) | skip) | refine K.c_cond rfl (fun hc => ?_) (fun hc => ?_) | (refine K.s_guardD rfl rfl (fun hc => ?_) (fun hc => ?_) <;> first | (exfalso; omega) | skip) | refine K.s_guard rfl rfl (fun hc => ?_) (fun hc => ?_)))
          rw [show (8 * (c : Int) + (m : Int) - 8 * (c : Int)) = (m : Int) from by omega, or_bit m hi1 _ hbl, ← hns, show (8 * (c : Int) + (m : Int) + 1) = 8 * (c : Int) + ((m + 1 : Nat) : Int) from by omega]
          refine K.a_round hKM (m + 1) ⟨by omega, by omega⟩ (by repeat (first | exact K.Sub.nil _ | refine K.Sub.cons rfl ?_)) rfl rfl (by omega)
        · have hns : nullNum ((r.drop (8 * c)).take (m + 1)) = nullNum ((r.drop (8 * c)).take m) := by rw [hns, if_neg hk0]; simp
          (repeat' (first | (apply K.s_pure; (first | (apply Y.mv; exact X.mv) | (apply Y.sg; exact X.sg) | (apply Y.pk; exact X.pk) | (apply Y.cv; exact X.cv) | (apply Y.fa; exact X.fa) | (apply Y.ld; exact X.ld) | (apply Y.ia; exact X.ia) | (apply Y.len; exact X.len) | (apply Y.badd; exact X.badd) | (apply Y.bsub; exact X.bsub) | (apply Y.beql; exact X.beql) | (apply Y.bneq; exact X.bneq) | (apply Y.blss; exact X.blss) | (apply Y.bgtr; exact X.bgtr) | (apply Y.bor; exact X.bor) | (apply Y.bshl; exact X.bshl)); exact rfl) | refine X.l ?_ | refine X.w ?_ | refine X.a ?_ | (refine K.c_condD rfl (fun hc => ?_) (fun hc => ?_) <;> first | (exfalso; omega) | skip) | refine K.c_cond rfl (fun hc => ?_) (fun hc => ?_) | (refine K.s_guardD rfl rfl (fun hc => ?_) (fun hc => ?_) <;> first | (exfalso; omega) | skip) | refine K.s_guard rfl rfl (fun hc => ?_) (fun hc => ?_)))
          rw [← hns, show (8 * (c : Int) + (m : Int) + 1) = 8 * (c : Int) + ((m + 1 : Nat) : Int) from by omega]
          refine K.a_round hKM (m + 1) ⟨by omega, by omega⟩ (by repeat (first | exact K.Sub.nil _ | refine K.Sub.cons rfl ?_)) rfl rfl (by omega)
      · have e8 : (r.drop (8 * c)).take m = (r.drop (8 * c)).take 8 := by
          by_cases hm : m = 8
          · rw [hm]
          · rw [List.take_of_length_le (by rw [List.length_drop]; omega), List.take_of_length_le (by rw [List.length_drop]; omega)]
        have el : lebs (nullNum ((r.drop (8 * c)).take m)) 1 = [UInt8.ofNat (nullNum ((r.drop (8 * c)).take 8))] := by
          rw [← e8]
          show [UInt8.ofNat (nullNum ((r.drop (8 * c)).take m) % 256)] = _
          rw [Nat.mod_eq_of_lt hb256]
        (repeat' (first | (apply K.s_pure; (first | (apply Y.mv; exact X.mv) | (apply Y.sg; exact X.sg) | (apply Y.pk; exact X.pk) | (apply Y.cv; exact X.cv) | (apply Y.fa; exact X.fa) | (apply Y.ld; exact X.ld) | (apply Y.ia; exact X.ia) | (apply Y.len; exact X.len) | (apply Y.badd; exact X.badd) | (apply Y.bsub; exact X.bsub) | (apply Y.beql; exact X.beql) | (apply Y.bneq; exact X.bneq) | (apply Y.blss; exact X.blss) | (apply Y.bgtr; exact X.bgtr) | (apply Y.bor; exact X.bor) | (apply Y.bshl; exact X.bshl)); exact rfl) | refine X.l ?_ | refine X.w ?_ | refine X.a ?_ | (refine K.c_condD rfl (fun hc => ?_) (fun hc => ?_) <;> first | (exfalso; omega) | skip) | refine K.c_cond rfl (fun hc => ?_) (fun hc => ?_) | (refine K.s_guardD rfl rfl (fun hc => ?_) (fun hc => ?_) <;> first | (exfalso; omega) | skip) | refine K.s_guard rfl rfl (fun hc => ?_) (fun hc => ?_)))
        all_goals
          refine K.l_call (Fx.cal rfl) rfl (Ca.W_U8 h s _ hb256 (by unfold Ca.big; omega)) (K.pp [0] rfl) rfl ?_
          rintro w h' H' - ⟨rfl, rfl, s', hs', rfl⟩
          rw [el] at hs'
          obtain ⟨hmk', hwb'⟩ := mk_add hmk hs'
          rw [← Ca.wadd_val hs']
          (repeat' (first | (apply K.s_pure; (first | (apply Y.mv; exact X.mv) | (apply Y.sg; exact X.sg) | (apply Y.pk; exact X.pk) | (apply Y.cv; exact X.cv) | (apply Y.fa; exact X.fa) | (apply Y.ld; exact X.ld) | (apply Y.ia; exact X.ia) | (apply Y.len; exact X.len) | (apply Y.badd; exact X.badd) | (apply Y.bsub; exact X.bsub) | (apply Y.beql; exact X.beql) | (apply Y.bneq; exact X.bneq) | (apply Y.blss; exact X.blss) | (apply Y.bgtr; exact X.bgtr) | (apply Y.bor; exact X.bor) | (apply Y.bshl; exact X.bshl)); exact rfl) | refine X.l ?_ | refine X.w ?_ | refine X.a ?_ | (refine K.c_condD rfl (fun hc => ?_) (fun hc => ?_) <;> first | (exfalso; omega) | skip) | refine K.c_cond rfl (fun hc => ?_) (fun hc => ?_) | (refine K.s_guardD rfl rfl (fun hc => ?_) (fun hc => ?_) <;> first | (exfalso; omega) | skip) | refine K.s_guard rfl rfl (fun hc => ?_) (fun hc => ?_)))
          rw [show (8 * (c : Int) + 8) = 8 * ((c + 1 : Nat) : Int) from by omega]
          refine K.a_round hKL (c + 1, s') ⟨by dsimp only; omega, hmk', by rw [hwb', hwb, ← hnb]⟩ (by repeat (first | exact K.Sub.nil _ | refine K.Sub.cons rfl ?_)) rfl rfl (by dsimp only; omega)
    · obtain rfl : c = (r.length + 7) / 8 := by omega
      (repeat' (first | (apply K.s_pure; (first | (apply Y.mv; exact X.mv) | (apply Y.sg; exact X.sg) | (apply Y.pk; exact X.pk) | (apply Y.cv; exact X.cv) | (apply Y.fa; exact X.fa) | (apply Y.ld; exact X.ld) | (apply Y.ia; exact X.ia) | (apply Y.len; exact X.len) | (apply Y.badd; exact X.badd) | (apply Y.bsub; exact X.bsub) | (apply Y.beql; exact X.beql) | (apply Y.bneq; exact X.bneq) | (apply Y.blss; exact X.blss) | (apply Y.bgtr; exact X.bgtr) | (apply Y.bor; exact X.bor) | (apply Y.bshl; exact X.bshl)); exact rfl) | refine X.l ?_ | refine X.w ?_ | refine X.a ?_ | (refine K.c_condD rfl (fun hc => ?_) (fun hc => ?_) <;> first | (exfalso; omega) | skip) | refine K.c_cond rfl (fun hc => ?_) (fun hc => ?_) | (refine K.s_guardD rfl rfl (fun hc => ?_) (fun hc => ?_) <;> first | (exfalso; omega) | skip) | refine K.s_guard rfl rfl (fun hc => ?_) (fun hc => ?_)))
      refine K.l_callV (Fx.cal rfl) rfl (Ways h) (K.pp [] rfl) rfl rfl ?_
      (repeat' (first | (apply K.s_pure; (first | (apply Y.mv; exact X.mv) | (apply Y.sg; exact X.sg) | (apply Y.pk; exact X.pk) | (apply Y.cv; exact X.cv) | (apply Y.fa; exact X.fa) | (apply Y.ld; exact X.ld) | (apply Y.ia; exact X.ia) | (apply Y.len; exact X.len) | (apply Y.badd; exact X.badd) | (apply Y.bsub; exact X.bsub) | (apply Y.beql; exact X.beql) | (apply Y.bneq; exact X.bneq) | (apply Y.blss; exact X.blss) | (apply Y.bgtr; exact X.bgtr) | (apply Y.bor; exact X.bor) | (apply Y.bshl; exact X.bshl)); exact rfl) | refine X.l ?_ | refine X.w ?_ | refine X.a ?_ | (refine K.c_condD rfl (fun hc => ?_) (fun hc => ?_) <;> first | (exfalso; omega) | skip) | refine K.c_cond rfl (fun hc => ?_) (fun hc => ?_) | (refine K.s_guardD rfl rfl (fun hc => ?_) (fun hc => ?_) <;> first | (exfalso; omega) | skip) | refine K.s_guard rfl rfl (fun hc => ?_) (fun hc => ?_)))
      refine K.l_alloc (Fx.zr rfl) rfl rfl (fun B => ?_)
      refine X.stw ?_
      (repeat' (first | (apply K.s_pure; (first | (apply Y.mv; exact X.mv) | (apply Y.sg; exact X.sg) | (apply Y.pk; exact X.pk) | (apply Y.cv; exact X.cv) | (apply Y.fa; exact X.fa) | (apply Y.ld; exact X.ld) | (apply Y.ia; exact X.ia) | (apply Y.len; exact X.len) | (apply Y.badd; exact X.badd) | (apply Y.bsub; exact X.bsub) | (apply Y.beql; exact X.beql) | (apply Y.bneq; exact X.bneq) | (apply Y.blss; exact X.blss) | (apply Y.bgtr; exact X.bgtr) | (apply Y.bor; exact X.bor) | (apply Y.bshl; exact X.bshl)); exact rfl) | refine X.l ?_ | refine X.w ?_ | refine X.a ?_ | (refine K.c_condD rfl (fun hc => ?_) (fun hc => ?_) <;> first | (exfalso; omega) | skip) | refine K.c_cond rfl (fun hc => ?_) (fun hc => ?_) | (refine K.s_guardD rfl rfl (fun hc => ?_) (fun hc => ?_) <;> first | (exfalso; omega) | skip) | refine K.s_guard rfl rfl (fun hc => ?_) (fun hc => ?_)))
      have hwb : Ca.wb s = nullB r := by rw [hwb, List.take_of_length_le (by simp [nullB])]
      simp only [List.set_cons_zero, List.set_cons_succ, List.eraseIdx_cons_zero, List.eraseIdx_cons_succ, List.cons_append, List.nil_append]
      refine K.c_loop (σ := Nat × Ca.WSt) (fun q => [(56, .slice ao2 r.length ca2), (57, .int .i64 r.length), (58, .int .i64 q.1), (7, Ca.wv q.2), (11, .pointer (some ⟨B, 0, none⟩))]) (fun _ => h) (fun q => blk B 53 waysC :: Ca.wA q.2 :: F)
        (fun q => q.1 ≤ r.length ∧ mk q.2 ∧ Ca.wb q.2 = nullB r ++ (r.take q.1).flatMap valB) (fun q => r.length - q.1) (0, s) ⟨Nat.zero_le _, hmk, by rw [hwb]; simp⟩ (by repeat (first | exact K.Sub.nil _ | refine K.Sub.cons rfl ?_)) rfl rfl ?_
      rintro ⟨j, s⟩ ⟨hj, hmk, hwb⟩ KM hKM
      dsimp only at hj hmk hwb ⊢
      have hnl : (nullB r).length ≤ 16 := by simp [nullB]; omega
      have hwl : (Ca.wb s).length ≤ 1400 := by
        have h1 := flat_len (r.take j) fun x hx => hall x (List.mem_of_mem_take hx)
        rw [List.length_take] at h1
        rw [hwb, List.length_append]
        omega
      by_cases hjl : j < r.length
      · have hd0 : (r.map cV)[((j : Nat) : Int).toNat]? = some (cV r[j]) := by rw [Int.toNat_natCast, List.getElem?_map, List.getElem?_eq_getElem hjl]; rfl
        have htk : (r.take (j + 1)).flatMap valB = (r.take j).flatMap valB ++ valB r[j] := by
          rw [List.take_succ_eq_append_getElem hjl, List.flatMap_append]; simp
        have hok : okV r[j] = true := hall _ (List.getElem_mem hjl)
        have hwv : wfV r[j] := hx _ (List.getElem_mem hjl)
        generalize r[j] = d at hd0 htk hok hwv
        have hk1 := hwv.k1
        have hk2 := hwv.k2
        have hkd := okV_kind hok
        have hpd := (okV_iff d).1 hok
        unfold okVP at hpd
        (repeat' (first | (apply K.s_pure; (first | (apply Y.mv; exact X.mv) | (apply Y.sg; exact X.sg) | (apply Y.pk; exact X.pk) | (apply Y.cv; exact X.cv) | (apply Y.fa; exact X.fa) | (apply Y.ld; exact X.ld) | (apply Y.ia; exact X.ia) | (apply Y.len; exact X.len) | (apply Y.badd; exact X.badd) | (apply Y.bsub; exact X.bsub) | (apply Y.beql; exact X.beql) | (apply Y.bneq; exact X.bneq) | (apply Y.blss; exact X.blss) | (apply Y.bgtr; exact X.bgtr) | (apply Y.bor; exact X.bor) | (apply Y.bshl; exact X.bshl)); exact rfl) | refine X.l ?_ | refine X.w ?_ | refine X.a ?_ | (refine K.c_condD rfl (fun hc => ?_) (fun hc => ?_) <;> first | (exfalso; omega) | skip) | refine K.c_cond rfl (fun hc => ?_) (fun hc => ?_) | (refine K.s_guardD rfl rfl (fun hc => ?_) (fun hc => ?_) <;> first | (exfalso; omega) | skip) | refine K.s_guard rfl rfl (fun hc => ?_) (fun hc => ?_)))
        refine K.s_pureE (K.p_indexL hu (Fx.und rfl) (Fx.sz rfl) rfl rfl (by omega) hd0) rfl ?_
        rintro v2 ⟨b, o, rfl, hcel⟩
        refine K.s_pure (K.p_loadM (Fx.agg rfl) rfl (Cels.up hcel) (Fx.sz rfl) rfl) rfl ?_
        refine K.l_alloc (Fx.zr rfl) rfl rfl (fun B2 => ?_)
        refine X.stw ?_
        rcases hkd with hkd | hkd | hkd | hkd
        · (repeat' (first | (apply K.s_pure; (first | (apply Y.mv; exact X.mv) | (apply Y.sg; exact X.sg) | (apply Y.pk; exact X.pk) | (apply Y.cv; exact X.cv) | (apply Y.fa; exact X.fa) | (apply Y.ld; exact X.ld) | (apply Y.ia; exact X.ia) | (apply Y.len; exact X.len) | (apply Y.badd; exact X.badd) | (apply Y.bsub; exact X.bsub) | (apply Y.beql; exact X.beql) | (apply Y.bneq; exact X.bneq) | (apply Y.blss; exact X.blss) | (apply Y.bgtr; exact X.bgtr) | (apply Y.bor; exact X.bor) | (apply Y.bshl; exact X.bshl)); exact rfl) | refine X.l ?_ | refine X.w ?_ | refine X.a ?_ | (refine K.c_condD rfl (fun hc => ?_) (fun hc => ?_) <;> first | (exfalso; omega) | skip) | refine K.c_cond rfl (fun hc => ?_) (fun hc => ?_) | (refine K.s_guardD rfl rfl (fun hc => ?_) (fun hc => ?_) <;> first | (exfalso; omega) | skip) | refine K.s_guard rfl rfl (fun hc => ?_) (fun hc => ?_)))
          rw [show valB d = [] from by rw [valB, if_pos hkd], List.append_nil] at htk
          refine K.AT.drop ?_
          refine K.a_round hKM (j + 1, s) ⟨by dsimp only; omega, hmk, by rw [hwb, htk]⟩ (by repeat (first | exact K.Sub.nil _ | refine K.Sub.cons rfl ?_)) rfl rfl (by dsimp only; omega)
        · (repeat' (first | (apply K.s_pure; (first | (apply Y.mv; exact X.mv) | (apply Y.sg; exact X.sg) | (apply Y.pk; exact X.pk) | (apply Y.cv; exact X.cv) | (apply Y.fa; exact X.fa) | (apply Y.ld; exact X.ld) | (apply Y.ia; exact X.ia) | (apply Y.len; exact X.len) | (apply Y.badd; exact X.badd) | (apply Y.bsub; exact X.bsub) | (apply Y.beql; exact X.beql) | (apply Y.bneq; exact X.bneq) | (apply Y.blss; exact X.blss) | (apply Y.bgtr; exact X.bgtr) | (apply Y.bor; exact X.bor) | (apply Y.bshl; exact X.bshl)); exact rfl) | refine X.l ?_ | refine X.w ?_ | refine X.a ?_ | (refine K.c_condD rfl (fun hc => ?_) (fun hc => ?_) <;> first | (exfalso; omega) | skip) | refine K.c_cond rfl (fun hc => ?_) (fun hc => ?_) | (refine K.s_guardD rfl rfl (fun hc => ?_) (fun hc => ?_) <;> first | (exfalso; omega) | skip) | refine K.s_guard rfl rfl (fun hc => ?_) (fun hc => ?_)))
          refine X.draw ([blk B2 40 (cV d), blk B 53 waysC]) [] (.pu 0 (.pu 6 (.st 1 (.pu 2 (.pu 3 (.pu 4 (.st 5 (.st 7 (.on 8 .nil))))))))) ?_
          refine K.d_pu rfl (fun _ _ => X.fa) rfl ?_
          refine K.d_pu rfl (fun _ _ => X.mv) rfl ?_
          refine K.d_st rfl X.ld rfl ?_
          rw [hkd]
          refine K.d_pu rfl (fun _ _ => X.bsub) rfl ?_
          refine K.d_pu rfl (fun _ _ => X.ia) rfl ?_
          refine K.d_pu rfl (fun _ _ => X.fa) rfl ?_
          refine K.d_st rfl X.ld rfl ?_
          refine K.d_st rfl X.ld rfl ?_
          refine K.d_on rfl (fun KK hKK => ?_)
          refine K.l_callF (caps := []) (f := 35) (Fx.cal rfl) rfl rfl (Way1 h s d hwv hkd (by unfold Ca.big; omega)) (K.pp [2] rfl) rfl ?_
          rintro w h' H' - ⟨rfl, rfl, s', hs', rfl⟩
          obtain ⟨hmk', hwb'⟩ := mk_add hmk hs'
          rw [show valB d = oneB d from by rw [valB, if_neg (by omega)]] at htk
          refine K.l_nil ?_
          refine X.onE hKK ?_
          refine K.d_nil ?_
          (repeat' (first | (apply K.s_pure; (first | (apply Y.mv; exact X.mv) | (apply Y.sg; exact X.sg) | (apply Y.pk; exact X.pk) | (apply Y.cv; exact X.cv) | (apply Y.fa; exact X.fa) | (apply Y.ld; exact X.ld) | (apply Y.ia; exact X.ia) | (apply Y.len; exact X.len) | (apply Y.badd; exact X.badd) | (apply Y.bsub; exact X.bsub) | (apply Y.beql; exact X.beql) | (apply Y.bneq; exact X.bneq) | (apply Y.blss; exact X.blss) | (apply Y.bgtr; exact X.bgtr) | (apply Y.bor; exact X.bor) | (apply Y.bshl; exact X.bshl)); exact rfl) | refine X.l ?_ | refine X.w ?_ | refine X.a ?_ | (refine K.c_condD rfl (fun hc => ?_) (fun hc => ?_) <;> first | (exfalso; omega) | skip) | refine K.c_cond rfl (fun hc => ?_) (fun hc => ?_) | (refine K.s_guardD rfl rfl (fun hc => ?_) (fun hc => ?_) <;> first | (exfalso; omega) | skip) | refine K.s_guard rfl rfl (fun hc => ?_) (fun hc => ?_)))
          rw [← Ca.wadd_val hs']
          refine K.AT.sel [1] rfl (K.AT.perm (List.Perm.swap ..) ?_)
          refine K.a_round hKM (j + 1, s') ⟨by dsimp only; omega, hmk', by rw [hwb', hwb, htk, List.append_assoc]⟩ (by repeat (first | exact K.Sub.nil _ | refine K.Sub.cons rfl ?_)) rfl rfl (by dsimp only; omega)
        · (repeat' (first | (apply K.s_pure; (first | (apply Y.mv; exact X.mv) | (apply Y.sg; exact X.sg) | (apply Y.pk; exact X.pk) | (apply Y.cv; exact X.cv) | (apply Y.fa; exact X.fa) | (apply Y.ld; exact X.ld) | (apply Y.ia; exact X.ia) | (apply Y.len; exact X.len) | (apply Y.badd; exact X.badd) | (apply Y.bsub; exact X.bsub) | (apply Y.beql; exact X.beql) | (apply Y.bneq; exact X.bneq) | (apply Y.blss; exact X.blss) | (apply Y.bgtr; exact X.bgtr) | (apply Y.bor; exact X.bor) | (apply Y.bshl; exact X.bshl)); exact rfl) | refine X.l ?_ | refine X.w ?_ | refine X.a ?_ | (refine K.c_condD rfl (fun hc => ?_) (fun hc => ?_) <;> first | (exfalso; omega) | skip) | refine K.c_cond rfl (fun hc => ?_) (fun hc => ?_) | (refine K.s_guardD rfl rfl (fun hc => ?_) (fun hc => ?_) <;> first | (exfalso; omega) | skip) | refine K.s_guard rfl rfl (fun hc => ?_) (fun hc => ?_)))
          refine X.draw ([blk B2 40 (cV d), blk B 53 waysC]) [] (.pu 0 (.pu 6 (.st 1 (.pu 2 (.pu 3 (.pu 4 (.st 5 (.st 7 (.on 8 .nil))))))))) ?_
          refine K.d_pu rfl (fun _ _ => X.fa) rfl ?_
          refine K.d_pu rfl (fun _ _ => X.mv) rfl ?_
          refine K.d_st rfl X.ld rfl ?_
          rw [hkd]
          refine K.d_pu rfl (fun _ _ => X.bsub) rfl ?_
          refine K.d_pu rfl (fun _ _ => X.ia) rfl ?_
          refine K.d_pu rfl (fun _ _ => X.fa) rfl ?_
          refine K.d_st rfl X.ld rfl ?_
          refine K.d_st rfl X.ld rfl ?_
          refine K.d_on rfl (fun KK hKK => ?_)
          refine K.l_callF (caps := []) (f := 39) (Fx.cal rfl) rfl rfl (Way3 h s d hwv hkd (by unfold Ca.big; omega)) (K.pp [2] rfl) rfl ?_
          rintro w h' H' - ⟨rfl, rfl, s', hs', rfl⟩
          obtain ⟨hmk', hwb'⟩ := mk_add hmk hs'
          rw [show valB d = oneB d from by rw [valB, if_neg (by omega)]] at htk
          refine K.l_nil ?_
          refine X.onE hKK ?_
          refine K.d_nil ?_
          (repeat' (first | (apply K.s_pure; (first | (apply Y.mv; exact X.mv) | (apply Y.sg; exact X.sg) | (apply Y.pk; exact X.pk) | (apply Y.cv; exact X.cv) | (apply Y.fa; exact X.fa) | (apply Y.ld; exact X.ld) | (apply Y.ia; exact X.ia) | (apply Y.len; exact X.len) | (apply Y.badd; exact X.badd) | (apply Y.bsub; exact X.bsub) | (apply Y.beql; exact X.beql) | (apply Y.bneq; exact X.bneq) | (apply Y.blss; exact X.blss) | (apply Y.bgtr; exact X.bgtr) | (apply Y.bor; exact X.bor) | (apply Y.bshl; exact X.bshl)); exact rfl) | refine X.l ?_ | refine X.w ?_ | refine X.a ?_ | (refine K.c_condD rfl (fun hc => ?_) (fun hc => ?_) <;> first | (exfalso; omega) | skip) | refine K.c_cond rfl (fun hc => ?_) (fun hc => ?_) | (refine K.s_guardD rfl rfl (fun hc => ?_) (fun hc => ?_) <;> first | (exfalso; omega) | skip) | refine K.s_guard rfl rfl (fun hc => ?_) (fun hc => ?_)))
          rw [← Ca.wadd_val hs']
          refine K.AT.sel [1] rfl (K.AT.perm (List.Perm.swap ..) ?_)
          refine K.a_round hKM (j + 1, s') ⟨by dsimp only; omega, hmk', by rw [hwb', hwb, htk, List.append_assoc]⟩ (by repeat (first | exact K.Sub.nil _ | refine K.Sub.cons rfl ?_)) rfl rfl (by dsimp only; omega)
        · (repeat' (first | (apply K.s_pure; (first | (apply Y.mv; exact X.mv) | (apply Y.sg; exact X.sg) | (apply Y.pk; exact X.pk) | (apply Y.cv; exact X.cv) | (apply Y.fa; exact X.fa) | (apply Y.ld; exact X.ld) | (apply Y.ia; exact X.ia) | (apply Y.len; exact X.len) | (apply Y.badd; exact X.badd) | (apply Y.bsub; exact X.bsub) | (apply Y.beql; exact X.beql) | (apply Y.bneq; exact X.bneq) | (apply Y.blss; exact X.blss) | (apply Y.bgtr; exact X.bgtr) | (apply Y.bor; exact X.bor) | (apply Y.bshl; exact X.bshl)); exact rfl) | refine X.l ?_ | refine X.w ?_ | refine X.a ?_ | (refine K.c_condD rfl (fun hc => ?_) (fun hc => ?_) <;> first | (exfalso; omega) | skip) | refine K.c_cond rfl (fun hc => ?_) (fun hc => ?_) | (refine K.s_guardD rfl rfl (fun hc => ?_) (fun hc => ?_) <;> first | (exfalso; omega) | skip) | refine K.s_guard rfl rfl (fun hc => ?_) (fun hc => ?_)))
          refine X.draw ([blk B2 40 (cV d), blk B 53 waysC]) [] (.pu 0 (.pu 6 (.st 1 (.pu 2 (.pu 3 (.pu 4 (.st 5 (.st 7 (.on 8 .nil))))))))) ?_
          refine K.d_pu rfl (fun _ _ => X.fa) rfl ?_
          refine K.d_pu rfl (fun _ _ => X.mv) rfl ?_
          refine K.d_st rfl X.ld rfl ?_
          rw [hkd]
          refine K.d_pu rfl (fun _ _ => X.bsub) rfl ?_
          refine K.d_pu rfl (fun _ _ => X.ia) rfl ?_
          refine K.d_pu rfl (fun _ _ => X.fa) rfl ?_
          refine K.d_st rfl X.ld rfl ?_
          refine K.d_st rfl X.ld rfl ?_
          refine K.d_on rfl (fun KK hKK => ?_)
          refine K.l_callF (caps := []) (f := 43) (Fx.cal rfl) rfl rfl (Way5 h s d hwv hkd (by omega) (by omega) (by unfold Ca.big; omega)) (K.pp [2] rfl) rfl ?_
          rintro w h' H' - ⟨rfl, rfl, s', hs', rfl⟩
          obtain ⟨hmk', hwb'⟩ := mk_add hmk hs'
          rw [show valB d = oneB d from by rw [valB, if_neg (by omega)]] at htk
          refine K.l_nil ?_
          refine X.onE hKK ?_
          refine K.d_nil ?_
          (repeat' (first | (apply K.s_pure; (first | (apply Y.mv; exact X.mv) | (apply Y.sg; exact X.sg) | (apply Y.pk; exact X.pk) | (apply Y.cv; exact X.cv) | (apply Y.fa; exact X.fa) | (apply Y.ld; exact X.ld) | (apply Y.ia; exact X.ia) | (apply Y.len; exact X.len) | (apply Y.badd; exact X.badd) | (apply Y.bsub; exact X.bsub) | (apply Y.beql; exact X.beql) | (apply Y.bneq; exact X.bneq) | (apply Y.blss; exact X.blss) | (apply Y.bgtr; exact X.bgtr) | (apply Y.bor; exact X.bor) | (apply Y.bshl; exact X.bshl)); exact rfl) | refine X.l ?_ | refine X.w ?_ | refine X.a ?_ | (refine K.c_condD rfl (fun hc => ?_) (fun hc => ?_) <;> first | (exfalso; omega) | skip) | refine K.c_cond rfl (fun hc => ?_) (fun hc => ?_) | (refine K.s_guardD rfl rfl (fun hc => ?_) (fun hc => ?_) <;> first | (exfalso; omega) | skip) | refine K.s_guard rfl rfl (fun hc => ?_) (fun hc => ?_)))
          rw [← Ca.wadd_val hs']
          refine K.AT.sel [1] rfl (K.AT.perm (List.Perm.swap ..) ?_)
          refine K.a_round hKM (j + 1, s') ⟨by dsimp only; omega, hmk', by rw [hwb', hwb, htk, List.append_assoc]⟩ (by repeat (first | exact K.Sub.nil _ | refine K.Sub.cons rfl ?_)) rfl rfl (by dsimp only; omega)
      · obtain rfl : j = r.length := by omega
        rw [List.take_length] at hwb
        have hwe : Ca.wb s = encB r := hwb
        (repeat' (first | (apply K.s_pure; (first | (apply Y.mv; exact X.mv) | (apply Y.sg; exact X.sg) | (apply Y.pk; exact X.pk) | (apply Y.cv; exact X.cv) | (apply Y.fa; exact X.fa) | (apply Y.ld; exact X.ld) | (apply Y.ia; exact X.ia) | (apply Y.len; exact X.len) | (apply Y.badd; exact X.badd) | (apply Y.bsub; exact X.bsub) | (apply Y.beql; exact X.beql) | (apply Y.bneq; exact X.bneq) | (apply Y.blss; exact X.blss) | (apply Y.bgtr; exact X.bgtr) | (apply Y.bor; exact X.bor) | (apply Y.bshl; exact X.bshl)); exact rfl) | refine X.l ?_ | refine X.w ?_ | refine X.a ?_ | (refine K.c_condD rfl (fun hc => ?_) (fun hc => ?_) <;> first | (exfalso; omega) | skip) | refine K.c_cond rfl (fun hc => ?_) (fun hc => ?_) | (refine K.s_guardD rfl rfl (fun hc => ?_) (fun hc => ?_) <;> first | (exfalso; omega) | skip) | refine K.s_guard rfl rfl (fun hc => ?_) (fun hc => ?_)))
        refine K.l_call (Fx.cal rfl) rfl (Ca.W_Len h s) (K.pp [1] rfl) rfl ?_
        rintro w h' H' - ⟨rfl, rfl, rfl⟩
        simp only [List.set_cons_zero, List.set_cons_succ, List.eraseIdx_cons_zero, List.eraseIdx_cons_succ, List.cons_append, List.nil_append]
        rw [hwe]
        rw [hwe] at hwl
        by_cases hwide : 160 < (encB r).length
        · rw [her, if_pos hwide]
          (repeat' (first | (apply K.s_pure; (first | (apply Y.mv; exact X.mv) | (apply Y.sg; exact X.sg) | (apply Y.pk; exact X.pk) | (apply Y.cv; exact X.cv) | (apply Y.fa; exact X.fa) | (apply Y.ld; exact X.ld) | (apply Y.ia; exact X.ia) | (apply Y.len; exact X.len) | (apply Y.badd; exact X.badd) | (apply Y.bsub; exact X.bsub) | (apply Y.beql; exact X.beql) | (apply Y.bneq; exact X.bneq) | (apply Y.blss; exact X.blss) | (apply Y.bgtr; exact X.bgtr) | (apply Y.bor; exact X.bor) | (apply Y.bshl; exact X.bshl)); exact rfl) | refine X.l ?_ | refine X.w ?_ | refine X.a ?_ | (refine K.c_condD rfl (fun hc => ?_) (fun hc => ?_) <;> first | (exfalso; omega) | skip) | refine K.c_cond rfl (fun hc => ?_) (fun hc => ?_) | (refine K.s_guardD rfl rfl (fun hc => ?_) (fun hc => ?_) <;> first | (exfalso; omega) | skip) | refine K.s_guard rfl rfl (fun hc => ?_) (fun hc => ?_)))
          refine K.AT.sel [0, 0] rfl ?_
          refine K.done (by first | exact Or.inl rfl | exact Or.inr rfl) rfl (by first | exact K.Base.le.refl _ | assumption) (H' := []) rfl ⟨rfl, rfl, rfl⟩
        · rw [her, if_neg hwide]
          (repeat' (first | (apply K.s_pure; (first | (apply Y.mv; exact X.mv) | (apply Y.sg; exact X.sg) | (apply Y.pk; exact X.pk) | (apply Y.cv; exact X.cv) | (apply Y.fa; exact X.fa) | (apply Y.ld; exact X.ld) | (apply Y.ia; exact X.ia) | (apply Y.len; exact X.len) | (apply Y.badd; exact X.badd) | (apply Y.bsub; exact X.bsub) | (apply Y.beql; exact X.beql) | (apply Y.bneq; exact X.bneq) | (apply Y.blss; exact X.blss) | (apply Y.bgtr; exact X.bgtr) | (apply Y.bor; exact X.bor) | (apply Y.bshl; exact X.bshl)); exact rfl) | refine X.l ?_ | refine X.w ?_ | refine X.a ?_ | (refine K.c_condD rfl (fun hc => ?_) (fun hc => ?_) <;> first | (exfalso; omega) | skip) | refine K.c_cond rfl (fun hc => ?_) (fun hc => ?_) | (refine K.s_guardD rfl rfl (fun hc => ?_) (fun hc => ?_) <;> first | (exfalso; omega) | skip) | refine K.s_guard rfl rfl (fun hc => ?_) (fun hc => ?_)))
          refine K.l_call (Fx.cal rfl) rfl (Ca.W_Bytes h s (by rw [hwe]; unfold Ca.big; omega)) (K.pp [0] rfl) rfl ?_
          rintro w h' H' - ⟨rfl, a2, cap2, rfl, rfl⟩
          rw [hwe]
          simp only [List.set_cons_zero, List.set_cons_succ, List.eraseIdx_cons_zero, List.eraseIdx_cons_succ, List.cons_append, List.nil_append]
          (repeat' (first | (apply K.s_pure; (first | (apply Y.mv; exact X.mv) | (apply Y.sg; exact X.sg) | (apply Y.pk; exact X.pk) | (apply Y.cv; exact X.cv) | (apply Y.fa; exact X.fa) | (apply Y.ld; exact X.ld) | (apply Y.ia; exact X.ia) | (apply Y.len; exact X.len) | (apply Y.badd; exact X.badd) | (apply Y.bsub; exact X.bsub) | (apply Y.beql; exact X.beql) | (apply Y.bneq; exact X.bneq) | (apply Y.blss; exact X.blss) | (apply Y.bgtr; exact X.bgtr) | (apply Y.bor; exact X.bor) | (apply Y.bshl; exact X.bshl)); exact rfl) | refine X.l ?_ | refine X.w ?_ | refine X.a ?_ | (refine K.c_condD rfl (fun hc => ?_) (fun hc => ?_) <;> first | (exfalso; omega) | skip) | refine K.c_cond rfl (fun hc => ?_) (fun hc => ?_) | (refine K.s_guardD rfl rfl (fun hc => ?_) (fun hc => ?_) <;> first | (exfalso; omega) | skip) | refine K.s_guard rfl rfl (fun hc => ?_) (fun hc => ?_)))
          refine K.AT.sel [0, 0, 0] rfl ?_
          refine K.done (by first | exact Or.inl rfl | exact Or.inr rfl) rfl (by first | exact K.Base.le.refl _ | assumption) (H' := []) rfl ⟨rfl, rfl, rfl⟩
  · rw [encR, if_pos hf]
    (repeat' (first | (apply K.s_pure; (first | (apply Y.mv; exact X.mv) | (apply Y.sg; exact X.sg) | (apply Y.pk; exact X.pk) | (apply Y.cv; exact X.cv) | (apply Y.fa; exact X.fa) | (apply Y.ld; exact X.ld) | (apply Y.ia; exact X.ia) | (apply Y.len; exact X.len) | (apply Y.badd; exact X.badd) | (apply Y.bsub; exact X.bsub) | (apply Y.beql; exact X.beql) | (apply Y.bneq; exact X.bneq) | (apply Y.blss; exact X.blss) | (apply Y.bgtr; exact X.bgtr) | (apply Y.bor; exact X.bor) | (apply Y.bshl; exact X.bshl)); exact rfl) | refine X.l ?_ | refine X.w ?_ | refine X.a ?_ | (refine K.c_condD rfl (fun hc => ?_) (fun hc => ?_) <;> first | (exfalso; omega) | skip) | refine K.c_cond rfl (fun hc => ?_) (fun hc => ?_) | (refine K.s_guardD rfl rfl (fun hc => ?_) (fun hc => ?_) <;> first | (exfalso; omega) | skip) | refine K.s_guard rfl rfl (fun hc => ?_) (fun hc => ?_)))
    refine K.done (by first | exact Or.inl rfl | exact Or.inr rfl) rfl (by first | exact K.Base.le.refl _ | assumption) (H' := []) rfl ⟨rfl, rfl, rfl⟩
end Go.Proofs.Ythdiokdaaofebaa.Rw
