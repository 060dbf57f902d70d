/-
  Rows: a value at the beginning of a text, the reference's way. Conditions: each theorem's own.
-/
import Derived.Test.YthdiokdaaofebaaDm

namespace Go.Proofs.Ythdiokdaaofebaa.Rw
open Go Go.K Go.Proofs Go.Proofs.Ythdiokdaaofebaa
set_option linter.unusedVariables false
set_option linter.unusedSimpArgs false
set_option maxRecDepth 10000

theorem extract_eq (s : ByteArray) (a b : Nat) : s.extract a b = ⟨((s.data.toList.drop a).take (b - a)).toArray⟩ := by
  refine ByteArray.ext ?_
  rw [ByteArray.data_extract]
  refine Array.ext' ?_
  simp [Array.toList_extract, List.extract]
/-- What read answers: the value and how many bytes it has. -/
def rdQ (k : Int) (t : List UInt8) : Val × Nat :=
  if k = 3 then (match t with
    | [] => (zeroV, 0)
    | c :: _ => if 1 < c.toNat then (zeroV, 0) else (⟨3, c.toNat, ⟨#[]⟩⟩, 1))
  else match front t with
    | none => (zeroV, 0)
    | some (x, m) => if k = 1 then (⟨1, unzig x, ⟨#[]⟩⟩, m) else if 64 < x ∨ t.length < x + m then (zeroV, 0) else (⟨2, 0, ⟨((t.drop m).take x).toArray⟩⟩, m + x)

set_option maxHeartbeats 1000000 in
theorem Read (h : Base) (k : Int) (hk : k = 1 ∨ k = 2 ∨ k = 3) (s : ByteArray) (hs : s.size ≤ 1000) :
    TrV Try.prog 33 [.int .i64 k, .string s] h [] (.tuple #[.agg (cV (rdQ k s.data.toList).1).toArray, .int .i64 (rdQ k s.data.toList).2]) [] := by
  have hsz : s.data.toList.length = s.size := by simp
  have hem := empty_iff s
  refine K.enter Try.func33 rfl (Nat.le_of_ble_eq_true rfl) (fun F => ?_)
  simp only [List.nil_append]
  have fin : ∀ (B : Nat) (x : Val) (m : Nat) (E : Env) (e : Exit), (e = .ret ∨ e = .normal) → lk E 4 = some (.pointer (some ⟨B, 0, none⟩)) → lk E 5 = some (.int .i64 m) → rdQ k s.data.toList = (x, m) →
      AT Try.prog Try.f33.ntmps (K.post Try.prog Try.f33 fun v w' => ∃ h' H', h.le h' ∧ (v = .tuple #[.agg (cV (rdQ k s.data.toList).1).toArray, .int .i64 (rdQ k s.data.toList).2] ∧ h' = h ∧ H' = []) ∧ Ok h' (H' ++ F) w') e E h (blk B 40 (cV x) :: F) := fun B x m E e he h4 h5 hq => by
    refine K.doneC he (.cell h4 (Fx.agg rfl) (Fx.sz rfl) (K.cels_own (pre := []) (cs := cV x) (post := []) 0 rfl rfl) (.tmp h5 .nil)) (by first | exact K.Base.le.refl _ | assumption) (D := [blk B 40 (cV x)]) (H' := []) rfl ⟨by rw [hq]; rfl, rfl, rfl⟩
  (repeat' (first | (apply K.s_pure; (first | (apply Y.mv; exact X.mv) | (apply Y.sg; exact X.sg) | (apply Y.pk; exact X.pk) | (apply Y.cv; exact X.cv) | (apply Y.ex; exact X.ex) | (apply Y.ix; exact X.ix) | (apply Y.sl; exact X.sl) | (apply Y.bd; exact X.bd) | (apply Y.len; exact X.len) | (apply Y.ng; exact X.ng) | (apply Y.badd; exact X.badd) | (apply Y.bsub; exact X.bsub) | (apply Y.beql; exact X.beql) | (apply Y.bgtr; exact X.bgtr) | (apply Y.bquo; exact X.bquo) | (apply Y.brem; exact X.brem)); exact rfl) | refine X.l ?_ | refine X.w ?_ | refine X.a ?_ | (refine K.c_condD rfl (fun hc => ?_) (fun hc => ?_) <;> first | (exfalso; omega) | skip) | refine K.c_cond rfl (fun hc => ?_) (fun hc => ?_) | (refine K.s_guardD rfl rfl (fun hc => ?_) (fun hc => ?_) <;> first | (exfalso; omega) | skip) | refine K.s_guard rfl rfl (fun hc => ?_) (fun hc => ?_)))
  refine K.l_alloc (Fx.zr rfl) rfl rfl (fun B => ?_)
  rcases hk with rfl | rfl | rfl
  · have hn : ¬ (1 : Int) = 3 := by omega
    (repeat' (first | (apply K.s_pure; (first | (apply Y.mv; exact X.mv) | (apply Y.sg; exact X.sg) | (apply Y.pk; exact X.pk) | (apply Y.cv; exact X.cv) | (apply Y.ex; exact X.ex) | (apply Y.ix; exact X.ix) | (apply Y.sl; exact X.sl) | (apply Y.bd; exact X.bd) | (apply Y.len; exact X.len) | (apply Y.ng; exact X.ng) | (apply Y.badd; exact X.badd) | (apply Y.bsub; exact X.bsub) | (apply Y.beql; exact X.beql) | (apply Y.bgtr; exact X.bgtr) | (apply Y.bquo; exact X.bquo) | (apply Y.brem; exact X.brem)); exact rfl) | refine X.l ?_ | refine X.w ?_ | refine X.a ?_ | (refine K.c_condD rfl (fun hc => ?_) (fun hc => ?_) <;> first | (exfalso; omega) | skip) | refine K.c_cond rfl (fun hc => ?_) (fun hc => ?_) | (refine K.s_guardD rfl rfl (fun hc => ?_) (fun hc => ?_) <;> first | (exfalso; omega) | skip) | refine K.s_guard rfl rfl (fun hc => ?_) (fun hc => ?_)))
    refine K.l_callV (Fx.cal rfl) rfl (Number h s (by omega)) (K.pp [] rfl) rfl rfl ?_
    simp only [List.nil_append]
    cases hf : front s.data.toList with
    | none =>
      have hq : rdQ 1 s.data.toList = (zeroV, 0) := by unfold rdQ; rw [if_neg hn, hf]
      simp only [frontV]
      (repeat' (first | (apply K.s_pure; (first | (apply Y.mv; exact X.mv) | (apply Y.sg; exact X.sg) | (apply Y.pk; exact X.pk) | (apply Y.cv; exact X.cv) | (apply Y.ex; exact X.ex) | (apply Y.ix; exact X.ix) | (apply Y.sl; exact X.sl) | (apply Y.bd; exact X.bd) | (apply Y.len; exact X.len) | (apply Y.ng; exact X.ng) | (apply Y.badd; exact X.badd) | (apply Y.bsub; exact X.bsub) | (apply Y.beql; exact X.beql) | (apply Y.bgtr; exact X.bgtr) | (apply Y.bquo; exact X.bquo) | (apply Y.brem; exact X.brem)); exact rfl) | refine X.l ?_ | refine X.w ?_ | refine X.a ?_ | (refine K.c_condD rfl (fun hc => ?_) (fun hc => ?_) <;> first | (exfalso; omega) | skip) | refine K.c_cond rfl (fun hc => ?_) (fun hc => ?_) | (refine K.s_guardD rfl rfl (fun hc => ?_) (fun hc => ?_) <;> first | (exfalso; omega) | skip) | refine K.s_guard rfl rfl (fun hc => ?_) (fun hc => ?_)))
      refine X.stw ?_
      (repeat' (first | (apply K.s_pure; (first | (apply Y.mv; exact X.mv) | (apply Y.sg; exact X.sg) | (apply Y.pk; exact X.pk) | (apply Y.cv; exact X.cv) | (apply Y.ex; exact X.ex) | (apply Y.ix; exact X.ix) | (apply Y.sl; exact X.sl) | (apply Y.bd; exact X.bd) | (apply Y.len; exact X.len) | (apply Y.ng; exact X.ng) | (apply Y.badd; exact X.badd) | (apply Y.bsub; exact X.bsub) | (apply Y.beql; exact X.beql) | (apply Y.bgtr; exact X.bgtr) | (apply Y.bquo; exact X.bquo) | (apply Y.brem; exact X.brem)); exact rfl) | refine X.l ?_ | refine X.w ?_ | refine X.a ?_ | (refine K.c_condD rfl (fun hc => ?_) (fun hc => ?_) <;> first | (exfalso; omega) | skip) | refine K.c_cond rfl (fun hc => ?_) (fun hc => ?_) | (refine K.s_guardD rfl rfl (fun hc => ?_) (fun hc => ?_) <;> first | (exfalso; omega) | skip) | refine K.s_guard rfl rfl (fun hc => ?_) (fun hc => ?_)))
      exact fin B zeroV 0 _ _ (.inl rfl) rfl rfl hq
    | some p =>
      obtain ⟨x, m⟩ := p
      have hq : rdQ 1 s.data.toList = (⟨1, unzig x, ⟨#[]⟩⟩, m) := by unfold rdQ; rw [if_neg hn, hf]; dsimp only; rw [if_pos rfl]
      obtain ⟨f1, f2, f3⟩ := front_le hf
      have f4 := front_lt hf
      simp only [frontV]
      by_cases hodd : x % 2 = 1
      · (repeat' (first | (apply K.s_pure; (first | (apply Y.mv; exact X.mv) | (apply Y.sg; exact X.sg) | (apply Y.pk; exact X.pk) | (apply Y.cv; exact X.cv) | (apply Y.ex; exact X.ex) | (apply Y.ix; exact X.ix) | (apply Y.sl; exact X.sl) | (apply Y.bd; exact X.bd) | (apply Y.len; exact X.len) | (apply Y.ng; exact X.ng) | (apply Y.badd; exact X.badd) | (apply Y.bsub; exact X.bsub) | (apply Y.beql; exact X.beql) | (apply Y.bgtr; exact X.bgtr) | (apply Y.bquo; exact X.bquo) | (apply Y.brem; exact X.brem)); exact rfl) | refine X.l ?_ | refine X.w ?_ | refine X.a ?_ | (refine K.c_condD rfl (fun hc => ?_) (fun hc => ?_) <;> first | (exfalso; omega) | skip) | refine K.c_cond rfl (fun hc => ?_) (fun hc => ?_) | (refine K.s_guardD rfl rfl (fun hc => ?_) (fun hc => ?_) <;> first | (exfalso; omega) | skip) | refine K.s_guard rfl rfl (fun hc => ?_) (fun hc => ?_)))
        refine X.stw ?_
        (repeat' (first | (apply K.s_pure; (first | (apply Y.mv; exact X.mv) | (apply Y.sg; exact X.sg) | (apply Y.pk; exact X.pk) | (apply Y.cv; exact X.cv) | (apply Y.ex; exact X.ex) | (apply Y.ix; exact X.ix) | (apply Y.sl; exact X.sl) | (apply Y.bd; exact X.bd) | (apply Y.len; exact X.len) | (apply Y.ng; exact X.ng) | (apply Y.badd; exact X.badd) | (apply Y.bsub; exact X.bsub) | (apply Y.beql; exact X.beql) | (apply Y.bgtr; exact X.bgtr) | (apply Y.bquo; exact X.bquo) | (apply Y.brem; exact X.brem)); exact rfl) | refine X.l ?_ | refine X.w ?_ | refine X.a ?_ | (refine K.c_condD rfl (fun hc => ?_) (fun hc => ?_) <;> first | (exfalso; omega) | skip) | refine K.c_cond rfl (fun hc => ?_) (fun hc => ?_) | (refine K.s_guardD rfl rfl (fun hc => ?_) (fun hc => ?_) <;> first | (exfalso; omega) | skip) | refine K.s_guard rfl rfl (fun hc => ?_) (fun hc => ?_)))
        rw [show ((0 : Int) - (x : Int) / 2 - 1) = unzig x from by unfold unzig; rw [if_neg (by omega)]; omega]
        exact fin B ⟨1, unzig x, ⟨#[]⟩⟩ m _ _ (.inl rfl) rfl rfl hq
      · (repeat' (first | (apply K.s_pure; (first | (apply Y.mv; exact X.mv) | (apply Y.sg; exact X.sg) | (apply Y.pk; exact X.pk) | (apply Y.cv; exact X.cv) | (apply Y.ex; exact X.ex) | (apply Y.ix; exact X.ix) | (apply Y.sl; exact X.sl) | (apply Y.bd; exact X.bd) | (apply Y.len; exact X.len) | (apply Y.ng; exact X.ng) | (apply Y.badd; exact X.badd) | (apply Y.bsub; exact X.bsub) | (apply Y.beql; exact X.beql) | (apply Y.bgtr; exact X.bgtr) | (apply Y.bquo; exact X.bquo) | (apply Y.brem; exact X.brem)); exact rfl) | refine X.l ?_ | refine X.w ?_ | refine X.a ?_ | (refine K.c_condD rfl (fun hc => ?_) (fun hc => ?_) <;> first | (exfalso; omega) | skip) | refine K.c_cond rfl (fun hc => ?_) (fun hc => ?_) | (refine K.s_guardD rfl rfl (fun hc => ?_) (fun hc => ?_) <;> first | (exfalso; omega) | skip) | refine K.s_guard rfl rfl (fun hc => ?_) (fun hc => ?_)))
        refine X.stw ?_
        (repeat' (first | (apply K.s_pure; (first | (apply Y.mv; exact X.mv) | (apply Y.sg; exact X.sg) | (apply Y.pk; exact X.pk) | (apply Y.cv; exact X.cv) | (apply Y.ex; exact X.ex) | (apply Y.ix; exact X.ix) | (apply Y.sl; exact X.sl) | (apply Y.bd; exact X.bd) | (apply Y.len; exact X.len) | (apply Y.ng; exact X.ng) | (apply Y.badd; exact X.badd) | (apply Y.bsub; exact X.bsub) | (apply Y.beql; exact X.beql) | (apply Y.bgtr; exact X.bgtr) | (apply Y.bquo; exact X.bquo) | (apply Y.brem; exact X.brem)); exact rfl) | refine X.l ?_ | refine X.w ?_ | refine X.a ?_ | (refine K.c_condD rfl (fun hc => ?_) (fun hc => ?_) <;> first | (exfalso; omega) | skip) | refine K.c_cond rfl (fun hc => ?_) (fun hc => ?_) | (refine K.s_guardD rfl rfl (fun hc => ?_) (fun hc => ?_) <;> first | (exfalso; omega) | skip) | refine K.s_guard rfl rfl (fun hc => ?_) (fun hc => ?_)))
        rw [show ((x : Int) / 2) = unzig x from by unfold unzig; rw [if_pos (by omega)]; omega]
        exact fin B ⟨1, unzig x, ⟨#[]⟩⟩ m _ _ (.inl rfl) rfl rfl hq
  · have hn : ¬ (2 : Int) = 3 := by omega
    have hn1 : ¬ (2 : Int) = 1 := by omega
    (repeat' (first | (apply K.s_pure; (first | (apply Y.mv; exact X.mv) | (apply Y.sg; exact X.sg) | (apply Y.pk; exact X.pk) | (apply Y.cv; exact X.cv) | (apply Y.ex; exact X.ex) | (apply Y.ix; exact X.ix) | (apply Y.sl; exact X.sl) | (apply Y.bd; exact X.bd) | (apply Y.len; exact X.len) | (apply Y.ng; exact X.ng) | (apply Y.badd; exact X.badd) | (apply Y.bsub; exact X.bsub) | (apply Y.beql; exact X.beql) | (apply Y.bgtr; exact X.bgtr) | (apply Y.bquo; exact X.bquo) | (apply Y.brem; exact X.brem)); exact rfl) | refine X.l ?_ | refine X.w ?_ | refine X.a ?_ | (refine K.c_condD rfl (fun hc => ?_) (fun hc => ?_) <;> first | (exfalso; omega) | skip) | refine K.c_cond rfl (fun hc => ?_) (fun hc => ?_) | (refine K.s_guardD rfl rfl (fun hc => ?_) (fun hc => ?_) <;> first | (exfalso; omega) | skip) | refine K.s_guard rfl rfl (fun hc => ?_) (fun hc => ?_)))
    refine K.l_callV (Fx.cal rfl) rfl (Number h s (by omega)) (K.pp [] rfl) rfl rfl ?_
    simp only [List.nil_append]
    cases hf : front s.data.toList with
    | none =>
      have hq : rdQ 2 s.data.toList = (zeroV, 0) := by unfold rdQ; rw [if_neg hn, hf]
      simp only [frontV]
      (repeat' (first | (apply K.s_pure; (first | (apply Y.mv; exact X.mv) | (apply Y.sg; exact X.sg) | (apply Y.pk; exact X.pk) | (apply Y.cv; exact X.cv) | (apply Y.ex; exact X.ex) | (apply Y.ix; exact X.ix) | (apply Y.sl; exact X.sl) | (apply Y.bd; exact X.bd) | (apply Y.len; exact X.len) | (apply Y.ng; exact X.ng) | (apply Y.badd; exact X.badd) | (apply Y.bsub; exact X.bsub) | (apply Y.beql; exact X.beql) | (apply Y.bgtr; exact X.bgtr) | (apply Y.bquo; exact X.bquo) | (apply Y.brem; exact X.brem)); exact rfl) | refine X.l ?_ | refine X.w ?_ | refine X.a ?_ | (refine K.c_condD rfl (fun hc => ?_) (fun hc => ?_) <;> first | (exfalso; omega) | skip) | refine K.c_cond rfl (fun hc => ?_) (fun hc => ?_) | (refine K.s_guardD rfl rfl (fun hc => ?_) (fun hc => ?_) <;> first | (exfalso; omega) | skip) | refine K.s_guard rfl rfl (fun hc => ?_) (fun hc => ?_)))
      refine X.stw ?_
      (repeat' (first | (apply K.s_pure; (first | (apply Y.mv; exact X.mv) | (apply Y.sg; exact X.sg) | (apply Y.pk; exact X.pk) | (apply Y.cv; exact X.cv) | (apply Y.ex; exact X.ex) | (apply Y.ix; exact X.ix) | (apply Y.sl; exact X.sl) | (apply Y.bd; exact X.bd) | (apply Y.len; exact X.len) | (apply Y.ng; exact X.ng) | (apply Y.badd; exact X.badd) | (apply Y.bsub; exact X.bsub) | (apply Y.beql; exact X.beql) | (apply Y.bgtr; exact X.bgtr) | (apply Y.bquo; exact X.bquo) | (apply Y.brem; exact X.brem)); exact rfl) | refine X.l ?_ | refine X.w ?_ | refine X.a ?_ | (refine K.c_condD rfl (fun hc => ?_) (fun hc => ?_) <;> first | (exfalso; omega) | skip) | refine K.c_cond rfl (fun hc => ?_) (fun hc => ?_) | (refine K.s_guardD rfl rfl (fun hc => ?_) (fun hc => ?_) <;> first | (exfalso; omega) | skip) | refine K.s_guard rfl rfl (fun hc => ?_) (fun hc => ?_)))
      exact fin B zeroV 0 _ _ (.inl rfl) rfl rfl hq
    | some p =>
      obtain ⟨x, m⟩ := p
      obtain ⟨f1, f2, f3⟩ := front_le hf
      have f4 := front_lt hf
      simp only [frontV]
      by_cases hbad : 64 < x ∨ s.data.toList.length < x + m
      · have hq : rdQ 2 s.data.toList = (zeroV, 0) := by unfold rdQ; rw [if_neg hn, hf]; dsimp only; rw [if_neg hn1, if_pos hbad]
        (repeat' (first | (apply K.s_pure; (first | (apply Y.mv; exact X.mv) | (apply Y.sg; exact X.sg) | (apply Y.pk; exact X.pk) | (apply Y.cv; exact X.cv) | (apply Y.ex; exact X.ex) | (apply Y.ix; exact X.ix) | (apply Y.sl; exact X.sl) | (apply Y.bd; exact X.bd) | (apply Y.len; exact X.len) | (apply Y.ng; exact X.ng) | (apply Y.badd; exact X.badd) | (apply Y.bsub; exact X.bsub) | (apply Y.beql; exact X.beql) | (apply Y.bgtr; exact X.bgtr) | (apply Y.bquo; exact X.bquo) | (apply Y.brem; exact X.brem)); exact rfl) | refine X.l ?_ | refine X.w ?_ | refine X.a ?_ | (refine K.c_condD rfl (fun hc => ?_) (fun hc => ?_) <;> first | (exfalso; omega) | skip) | refine K.c_cond rfl (fun hc => ?_) (fun hc => ?_) | (refine K.s_guardD rfl rfl (fun hc => ?_) (fun hc => ?_) <;> first | (exfalso; omega) | skip) | refine K.s_guard rfl rfl (fun hc => ?_) (fun hc => ?_)))
        all_goals
          refine X.stw ?_
          (repeat' (first | (apply K.s_pure; (first | (apply Y.mv; exact X.mv) | (apply Y.sg; exact X.sg) | (apply Y.pk; exact X.pk) | (apply Y.cv; exact X.cv) | (apply Y.ex; exact X.ex) | (apply Y.ix; exact X.ix) | (apply Y.sl; exact X.sl) | (apply Y.bd; exact X.bd) | (apply Y.len; exact X.len) | (apply Y.ng; exact X.ng) | (apply Y.badd; exact X.badd) | (apply Y.bsub; exact X.bsub) | (apply Y.beql; exact X.beql) | (apply Y.bgtr; exact X.bgtr) | (apply Y.bquo; exact X.bquo) | (apply Y.brem; exact X.brem)); exact rfl) | refine X.l ?_ | refine X.w ?_ | refine X.a ?_ | (refine K.c_condD rfl (fun hc => ?_) (fun hc => ?_) <;> first | (exfalso; omega) | skip) | refine K.c_cond rfl (fun hc => ?_) (fun hc => ?_) | (refine K.s_guardD rfl rfl (fun hc => ?_) (fun hc => ?_) <;> first | (exfalso; omega) | skip) | refine K.s_guard rfl rfl (fun hc => ?_) (fun hc => ?_)))
          exact fin B zeroV 0 _ _ (.inl rfl) rfl rfl hq
      · have hq : rdQ 2 s.data.toList = (⟨2, 0, ⟨((s.data.toList.drop m).take x).toArray⟩⟩, m + x) := by unfold rdQ; rw [if_neg hn, hf]; dsimp only; rw [if_neg hn1, if_neg hbad]
        (repeat' (first | (apply K.s_pure; (first | (apply Y.mv; exact X.mv) | (apply Y.sg; exact X.sg) | (apply Y.pk; exact X.pk) | (apply Y.cv; exact X.cv) | (apply Y.ex; exact X.ex) | (apply Y.ix; exact X.ix) | (apply Y.sl; exact X.sl) | (apply Y.bd; exact X.bd) | (apply Y.len; exact X.len) | (apply Y.ng; exact X.ng) | (apply Y.badd; exact X.badd) | (apply Y.bsub; exact X.bsub) | (apply Y.beql; exact X.beql) | (apply Y.bgtr; exact X.bgtr) | (apply Y.bquo; exact X.bquo) | (apply Y.brem; exact X.brem)); exact rfl) | refine X.l ?_ | refine X.w ?_ | refine X.a ?_ | (refine K.c_condD rfl (fun hc => ?_) (fun hc => ?_) <;> first | (exfalso; omega) | skip) | refine K.c_cond rfl (fun hc => ?_) (fun hc => ?_) | (refine K.s_guardD rfl rfl (fun hc => ?_) (fun hc => ?_) <;> first | (exfalso; omega) | skip) | refine K.s_guard rfl rfl (fun hc => ?_) (fun hc => ?_)))
        refine K.s_pure (K.p_sliceT (k1 := .i64) (k2 := .i64) (l := m) (u := m + x) (Fx.und rfl) rfl ⟨_, rfl, rfl⟩ ⟨_, rfl, by omega⟩ (by omega) (by omega)) rfl ?_
        rw [extract_eq, show m + x - m = x from by omega]
        (repeat' (first | (apply K.s_pure; (first | (apply Y.mv; exact X.mv) | (apply Y.sg; exact X.sg) | (apply Y.pk; exact X.pk) | (apply Y.cv; exact X.cv) | (apply Y.ex; exact X.ex) | (apply Y.ix; exact X.ix) | (apply Y.sl; exact X.sl) | (apply Y.bd; exact X.bd) | (apply Y.len; exact X.len) | (apply Y.ng; exact X.ng) | (apply Y.badd; exact X.badd) | (apply Y.bsub; exact X.bsub) | (apply Y.beql; exact X.beql) | (apply Y.bgtr; exact X.bgtr) | (apply Y.bquo; exact X.bquo) | (apply Y.brem; exact X.brem)); exact rfl) | refine X.l ?_ | refine X.w ?_ | refine X.a ?_ | (refine K.c_condD rfl (fun hc => ?_) (fun hc => ?_) <;> first | (exfalso; omega) | skip) | refine K.c_cond rfl (fun hc => ?_) (fun hc => ?_) | (refine K.s_guardD rfl rfl (fun hc => ?_) (fun hc => ?_) <;> first | (exfalso; omega) | skip) | refine K.s_guard rfl rfl (fun hc => ?_) (fun hc => ?_)))
        refine X.stw ?_
        (repeat' (first | (apply K.s_pure; (first | (apply Y.mv; exact X.mv) | (apply Y.sg; exact X.sg) | (apply Y.pk; exact X.pk) | (apply Y.cv; exact X.cv) | (apply Y.ex; exact X.ex) | (apply Y.ix; exact X.ix) | (apply Y.sl; exact X.sl) | (apply Y.bd; exact X.bd) | (apply Y.len; exact X.len) | (apply Y.ng; exact X.ng) | (apply Y.badd; exact X.badd) | (apply Y.bsub; exact X.bsub) | (apply Y.beql; exact X.beql) | (apply Y.bgtr; exact X.bgtr) | (apply Y.bquo; exact X.bquo) | (apply Y.brem; exact X.brem)); exact rfl) | refine X.l ?_ | refine X.w ?_ | refine X.a ?_ | (refine K.c_condD rfl (fun hc => ?_) (fun hc => ?_) <;> first | (exfalso; omega) | skip) | refine K.c_cond rfl (fun hc => ?_) (fun hc => ?_) | (refine K.s_guardD rfl rfl (fun hc => ?_) (fun hc => ?_) <;> first | (exfalso; omega) | skip) | refine K.s_guard rfl rfl (fun hc => ?_) (fun hc => ?_)))
        rw [show ((m : Int) + (x : Int)) = ((m + x : Nat) : Int) from by omega]
        exact fin B ⟨2, 0, ⟨((s.data.toList.drop m).take x).toArray⟩⟩ (m + x) _ _ (.inl rfl) rfl rfl hq
  · obtain ⟨tl, ht⟩ : ∃ l, s.data.toList = l := ⟨_, rfl⟩
    cases tl with
    | nil =>
      have hq : rdQ 3 s.data.toList = (zeroV, 0) := by unfold rdQ; rw [if_pos rfl, ht]
      have hse : s = ⟨#[]⟩ := hem.2 (by rw [ht]; rfl)
      (repeat' (first | (apply K.s_pure; (first | (apply Y.mv; exact X.mv) | (apply Y.sg; exact X.sg) | (apply Y.pk; exact X.pk) | (apply Y.cv; exact X.cv) | (apply Y.ex; exact X.ex) | (apply Y.ix; exact X.ix) | (apply Y.sl; exact X.sl) | (apply Y.bd; exact X.bd) | (apply Y.len; exact X.len) | (apply Y.ng; exact X.ng) | (apply Y.badd; exact X.badd) | (apply Y.bsub; exact X.bsub) | (apply Y.beql; exact X.beql) | (apply Y.bgtr; exact X.bgtr) | (apply Y.bquo; exact X.bquo) | (apply Y.brem; exact X.brem)); exact rfl) | refine X.l ?_ | refine X.w ?_ | refine X.a ?_ | (refine K.c_condD rfl (fun hc => ?_) (fun hc => ?_) <;> first | (exfalso; omega) | skip) | refine K.c_cond rfl (fun hc => ?_) (fun hc => ?_) | (refine K.s_guardD rfl rfl (fun hc => ?_) (fun hc => ?_) <;> first | (exfalso; omega) | skip) | refine K.s_guard rfl rfl (fun hc => ?_) (fun hc => ?_)))
      · refine X.stw ?_
        (repeat' (first | (apply K.s_pure; (first | (apply Y.mv; exact X.mv) | (apply Y.sg; exact X.sg) | (apply Y.pk; exact X.pk) | (apply Y.cv; exact X.cv) | (apply Y.ex; exact X.ex) | (apply Y.ix; exact X.ix) | (apply Y.sl; exact X.sl) | (apply Y.bd; exact X.bd) | (apply Y.len; exact X.len) | (apply Y.ng; exact X.ng) | (apply Y.badd; exact X.badd) | (apply Y.bsub; exact X.bsub) | (apply Y.beql; exact X.beql) | (apply Y.bgtr; exact X.bgtr) | (apply Y.bquo; exact X.bquo) | (apply Y.brem; exact X.brem)); exact rfl) | refine X.l ?_ | refine X.w ?_ | refine X.a ?_ | (refine K.c_condD rfl (fun hc => ?_) (fun hc => ?_) <;> first | (exfalso; omega) | skip) | refine K.c_cond rfl (fun hc => ?_) (fun hc => ?_) | (refine K.s_guardD rfl rfl (fun hc => ?_) (fun hc => ?_) <;> first | (exfalso; omega) | skip) | refine K.s_guard rfl rfl (fun hc => ?_) (fun hc => ?_)))
        exact fin B zeroV 0 _ _ (.inl rfl) rfl rfl hq
      · exact absurd hse (by assumption)
    | cons c r =>
      have hse : ¬ s = ⟨#[]⟩ := fun e => by have := hem.1 e; rw [ht] at this; simp at this
      have hc0 : s.data.toList[(0 : Int).toNat]? = some c := by rw [ht]; rfl
      have hcl := c.toNat_lt
      by_cases h1 : 1 < c.toNat
      · have hq : rdQ 3 s.data.toList = (zeroV, 0) := by unfold rdQ; rw [if_pos rfl, ht]; dsimp only; rw [if_pos h1]
        (repeat' (first | (apply K.s_pure; (first | (apply Y.mv; exact X.mv) | (apply Y.sg; exact X.sg) | (apply Y.pk; exact X.pk) | (apply Y.cv; exact X.cv) | (apply Y.ex; exact X.ex) | (apply Y.ix; exact X.ix) | (apply Y.sl; exact X.sl) | (apply Y.bd; exact X.bd) | (apply Y.len; exact X.len) | (apply Y.ng; exact X.ng) | (apply Y.badd; exact X.badd) | (apply Y.bsub; exact X.bsub) | (apply Y.beql; exact X.beql) | (apply Y.bgtr; exact X.bgtr) | (apply Y.bquo; exact X.bquo) | (apply Y.brem; exact X.brem)); exact rfl) | refine X.l ?_ | refine X.w ?_ | refine X.a ?_ | (refine K.c_condD rfl (fun hc => ?_) (fun hc => ?_) <;> first | (exfalso; omega) | skip) | refine K.c_cond rfl (fun hc => ?_) (fun hc => ?_) | (refine K.s_guardD rfl rfl (fun hc => ?_) (fun hc => ?_) <;> first | (exfalso; omega) | skip) | refine K.s_guard rfl rfl (fun hc => ?_) (fun hc => ?_)))
        · exact absurd (by assumption) hse
        · refine X.stw ?_
          (repeat' (first | (apply K.s_pure; (first | (apply Y.mv; exact X.mv) | (apply Y.sg; exact X.sg) | (apply Y.pk; exact X.pk) | (apply Y.cv; exact X.cv) | (apply Y.ex; exact X.ex) | (apply Y.ix; exact X.ix) | (apply Y.sl; exact X.sl) | (apply Y.bd; exact X.bd) | (apply Y.len; exact X.len) | (apply Y.ng; exact X.ng) | (apply Y.badd; exact X.badd) | (apply Y.bsub; exact X.bsub) | (apply Y.beql; exact X.beql) | (apply Y.bgtr; exact X.bgtr) | (apply Y.bquo; exact X.bquo) | (apply Y.brem; exact X.brem)); exact rfl) | refine X.l ?_ | refine X.w ?_ | refine X.a ?_ | (refine K.c_condD rfl (fun hc => ?_) (fun hc => ?_) <;> first | (exfalso; omega) | skip) | refine K.c_cond rfl (fun hc => ?_) (fun hc => ?_) | (refine K.s_guardD rfl rfl (fun hc => ?_) (fun hc => ?_) <;> first | (exfalso; omega) | skip) | refine K.s_guard rfl rfl (fun hc => ?_) (fun hc => ?_)))
          exact fin B zeroV 0 _ _ (.inl rfl) rfl rfl hq
      · have hq : rdQ 3 s.data.toList = (⟨3, c.toNat, ⟨#[]⟩⟩, 1) := by unfold rdQ; rw [if_pos rfl, ht]; dsimp only; rw [if_neg h1]
        (repeat' (first | (apply K.s_pure; (first | (apply Y.mv; exact X.mv) | (apply Y.sg; exact X.sg) | (apply Y.pk; exact X.pk) | (apply Y.cv; exact X.cv) | (apply Y.ex; exact X.ex) | (apply Y.ix; exact X.ix) | (apply Y.sl; exact X.sl) | (apply Y.bd; exact X.bd) | (apply Y.len; exact X.len) | (apply Y.ng; exact X.ng) | (apply Y.badd; exact X.badd) | (apply Y.bsub; exact X.bsub) | (apply Y.beql; exact X.beql) | (apply Y.bgtr; exact X.bgtr) | (apply Y.bquo; exact X.bquo) | (apply Y.brem; exact X.brem)); exact rfl) | refine X.l ?_ | refine X.w ?_ | refine X.a ?_ | (refine K.c_condD rfl (fun hc => ?_) (fun hc => ?_) <;> first | (exfalso; omega) | skip) | refine K.c_cond rfl (fun hc => ?_) (fun hc => ?_) | (refine K.s_guardD rfl rfl (fun hc => ?_) (fun hc => ?_) <;> first | (exfalso; omega) | skip) | refine K.s_guard rfl rfl (fun hc => ?_) (fun hc => ?_)))
        · exact absurd (by assumption) hse
        · refine X.stw ?_
          (repeat' (first | (apply K.s_pure; (first | (apply Y.mv; exact X.mv) | (apply Y.sg; exact X.sg) | (apply Y.pk; exact X.pk) | (apply Y.cv; exact X.cv) | (apply Y.ex; exact X.ex) | (apply Y.ix; exact X.ix) | (apply Y.sl; exact X.sl) | (apply Y.bd; exact X.bd) | (apply Y.len; exact X.len) | (apply Y.ng; exact X.ng) | (apply Y.badd; exact X.badd) | (apply Y.bsub; exact X.bsub) | (apply Y.beql; exact X.beql) | (apply Y.bgtr; exact X.bgtr) | (apply Y.bquo; exact X.bquo) | (apply Y.brem; exact X.brem)); exact rfl) | refine X.l ?_ | refine X.w ?_ | refine X.a ?_ | (refine K.c_condD rfl (fun hc => ?_) (fun hc => ?_) <;> first | (exfalso; omega) | skip) | refine K.c_cond rfl (fun hc => ?_) (fun hc => ?_) | (refine K.s_guardD rfl rfl (fun hc => ?_) (fun hc => ?_) <;> first | (exfalso; omega) | skip) | refine K.s_guard rfl rfl (fun hc => ?_) (fun hc => ?_)))
          exact fin B ⟨3, c.toNat, ⟨#[]⟩⟩ 1 _ _ (.inl rfl) rfl rfl hq
end Go.Proofs.Ythdiokdaaofebaa.Rw
