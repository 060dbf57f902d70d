/-
  Pages: which operations are right; what undoes them. Conditions: each theorem's own.
-/
import Derived.Test.YtjgfgpdkcojnmaaFb

namespace Go.Proofs.Ytjgfgpdkcojnmaa.Pg
open Go Go.K Go.Proofs Go.Proofs.Ytjgfgpdkcojnmaa
set_option linter.unusedVariables false
set_option linter.unusedSimpArgs false
set_option maxRecDepth 10000

structure POp where
  kind : Int
  slot : Int
  txn : Nat
  data : List UInt8
  deriving DecidableEq
def cO (o : POp) (dv : Value) : List Value := [.int .i64 o.kind, .int .i64 o.slot, .int .u32 o.txn, dv]
structure wfO (o : POp) : Prop where
  kind : in64 o.kind
  slot : in64 o.slot
  txn : o.txn < 4294967296
  len : o.data.length ≤ 9223372036854775807
def OpC (h : Base) (cs : List Value) (o : POp) : Prop := wfO o ∧ ∃ ao ca, cs = cO o (.slice ao o.data.length ca) ∧ BV h (.slice ao o.data.length ca) o.data
theorem OpC.le {h h' : Base} (hle : h.le h') {cs : List Value} {o : POp} (hc : OpC h cs o) : OpC h' cs o := by
  obtain ⟨h1, ao, ca, e, h2⟩ := hc
  exact ⟨h1, ao, ca, e, h2.le hle⟩
def rightP (k : Int) (o : POp) : Prop := (k = 1 ∨ k = 2) ∧ (1 ≤ o.kind ∧ o.kind ≤ 4) ∧ (o.kind = 2 ↔ o.txn ≠ 0) ∧ (k = 2 → o.slot = 0) ∧ (k = 1 ∧ o.kind ≠ 1 → o.data.length = 0) ∧ (¬ (k = 1 ∧ o.kind ≠ 1) → 1 ≤ o.data.length ∧ o.data.length ≤ 180)
instance (k : Int) (o : POp) : Decidable (rightP k o) := by unfold rightP; infer_instance
theorem ORight (h : Base) (k : Int) (cs : List Value) (o : POp) (hx : OpC h cs o) : TrV Try.prog 33 [.int .i64 k, .agg cs.toArray] h [] (.bool (decide (rightP k o))) [] := by
  obtain ⟨⟨hk, hs, ht, hl⟩, ao, ca, rfl, hb⟩ := hx
  have hrp : ∀ _ : Unit, rightP k o ↔ (k = 1 ∨ k = 2) ∧ (1 ≤ o.kind ∧ o.kind ≤ 4) ∧ (o.kind = 2 ↔ o.txn ≠ 0) ∧ (k = 2 → o.slot = 0) ∧ (k = 1 ∧ o.kind ≠ 1 → o.data.length = 0) ∧ (¬ (k = 1 ∧ o.kind ≠ 1) → 1 ≤ o.data.length ∧ o.data.length ≤ 180) := fun _ => Iff.rfl
  refine K.enter Try.func33 rfl (Nat.le_of_ble_eq_true rfl) (fun F => ?_)
  (repeat' (first | (apply K.s_pure; (first | (apply Y.mv; exact X.mv) | (apply Y.sg; exact X.sg) | (apply Y.pk; exact X.pk) | (apply Y.fa; exact X.fa) | (apply Y.ld; exact X.ld) | (apply Y.len; exact X.len) | (apply Y.beql; exact X.beql) | (apply Y.bneq; exact X.bneq) | (apply Y.blss; exact X.blss) | (apply Y.bleq; exact X.bleq) | (apply Y.bgtr; exact X.bgtr) | (apply Y.bgeq; exact X.bgeq)); exact rfl) | refine X.l ?_ | refine X.w ?_ | refine X.a ?_ | (refine K.c_condD rfl (fun hc => ?_) (fun hc => ?_) <;> first | (exfalso; omega) | skip) | refine K.c_cond rfl (fun hc => ?_) (fun hc => ?_) | (refine K.s_guardD rfl rfl (fun hc => ?_) (fun hc => ?_) <;> first | (exfalso; omega) | skip) | refine K.s_guard rfl rfl (fun hc => ?_) (fun hc => ?_)))
  refine K.l_box rfl rfl rfl (fun B => ?_)
  (repeat' (first | (apply K.s_pure; (first | (apply Y.mv; exact X.mv) | (apply Y.sg; exact X.sg) | (apply Y.pk; exact X.pk) | (apply Y.fa; exact X.fa) | (apply Y.ld; exact X.ld) | (apply Y.len; exact X.len) | (apply Y.beql; exact X.beql) | (apply Y.bneq; exact X.bneq) | (apply Y.blss; exact X.blss) | (apply Y.bleq; exact X.bleq) | (apply Y.bgtr; exact X.bgtr) | (apply Y.bgeq; exact X.bgeq)); exact rfl) | refine X.l ?_ | refine X.w ?_ | refine X.a ?_ | (refine K.c_condD rfl (fun hc => ?_) (fun hc => ?_) <;> first | (exfalso; omega) | skip) | refine K.c_cond rfl (fun hc => ?_) (fun hc => ?_) | (refine K.s_guardD rfl rfl (fun hc => ?_) (fun hc => ?_) <;> first | (exfalso; omega) | skip) | refine K.s_guard rfl rfl (fun hc => ?_) (fun hc => ?_)))
  all_goals
    refine K.AT.drop ?_
    refine K.done (by first | exact Or.inl rfl | exact Or.inr rfl) rfl (by first | exact K.Base.le.refl _ | assumption) (H' := []) rfl ⟨?_, rfl, rfl⟩
    show Value.bool _ = Value.bool _
    congr 1
    rw [Bool.eq_iff_iff, (decide_eq_true_iff (p := rightP k o)).trans (hrp ())]
    clear hrp hb
    simp only [Bool.not_eq_true', Bool.not_eq_false', Bool.and_eq_true, Bool.and_eq_false_imp, beq_eq_false_iff_ne, beq_iff_eq, ne_eq, decide_eq_decide, decide_eq_true_eq, eq_self, true_iff, false_iff, iff_true, Bool.false_eq_true] at *
    omega
theorem RRight (h : Base) (k : Int) (cs : List Value) (o : POp) (hx : OpC h cs o) : TrV Try.prog 34 [.int .i64 k, .agg cs.toArray] h [] (.bool (decide (rightP k o))) [] := by
  obtain ⟨⟨hk, hs, ht, hl⟩, ao, ca, rfl, hb⟩ := hx
  have hrp : ∀ _ : Unit, rightP k o ↔ (k = 1 ∨ k = 2) ∧ (1 ≤ o.kind ∧ o.kind ≤ 4) ∧ (o.kind = 2 ↔ o.txn ≠ 0) ∧ (k = 2 → o.slot = 0) ∧ (k = 1 ∧ o.kind ≠ 1 → o.data.length = 0) ∧ (¬ (k = 1 ∧ o.kind ≠ 1) → 1 ≤ o.data.length ∧ o.data.length ≤ 180) := fun _ => Iff.rfl
  refine K.enter Try.func34 rfl (Nat.le_of_ble_eq_true rfl) (fun F => ?_)
  (repeat' (first | (apply K.s_pure; (first | (apply Y.mv; exact X.mv) | (apply Y.sg; exact X.sg) | (apply Y.pk; exact X.pk) | (apply Y.fa; exact X.fa) | (apply Y.ld; exact X.ld) | (apply Y.len; exact X.len) | (apply Y.beql; exact X.beql) | (apply Y.bneq; exact X.bneq) | (apply Y.blss; exact X.blss) | (apply Y.bleq; exact X.bleq) | (apply Y.bgtr; exact X.bgtr) | (apply Y.bgeq; exact X.bgeq)); exact rfl) | refine X.l ?_ | refine X.w ?_ | refine X.a ?_ | (refine K.c_condD rfl (fun hc => ?_) (fun hc => ?_) <;> first | (exfalso; omega) | skip) | refine K.c_cond rfl (fun hc => ?_) (fun hc => ?_) | (refine K.s_guardD rfl rfl (fun hc => ?_) (fun hc => ?_) <;> first | (exfalso; omega) | skip) | refine K.s_guard rfl rfl (fun hc => ?_) (fun hc => ?_)))
  refine K.l_box rfl rfl rfl (fun B => ?_)
  (repeat' (first | (apply K.s_pure; (first | (apply Y.mv; exact X.mv) | (apply Y.sg; exact X.sg) | (apply Y.pk; exact X.pk) | (apply Y.fa; exact X.fa) | (apply Y.ld; exact X.ld) | (apply Y.len; exact X.len) | (apply Y.beql; exact X.beql) | (apply Y.bneq; exact X.bneq) | (apply Y.blss; exact X.blss) | (apply Y.bleq; exact X.bleq) | (apply Y.bgtr; exact X.bgtr) | (apply Y.bgeq; exact X.bgeq)); exact rfl) | refine X.l ?_ | refine X.w ?_ | refine X.a ?_ | (refine K.c_condD rfl (fun hc => ?_) (fun hc => ?_) <;> first | (exfalso; omega) | skip) | refine K.c_cond rfl (fun hc => ?_) (fun hc => ?_) | (refine K.s_guardD rfl rfl (fun hc => ?_) (fun hc => ?_) <;> first | (exfalso; omega) | skip) | refine K.s_guard rfl rfl (fun hc => ?_) (fun hc => ?_)))
  all_goals
    refine K.AT.drop ?_
    refine K.done (by first | exact Or.inl rfl | exact Or.inr rfl) rfl (by first | exact K.Base.le.refl _ | assumption) (H' := []) rfl ⟨?_, rfl, rfl⟩
    show Value.bool _ = Value.bool _
    congr 1
    rw [Bool.eq_iff_iff, (decide_eq_true_iff (p := rightP k o)).trans (hrp ())]
    clear hrp hb
    simp only [Bool.not_eq_true', Bool.not_eq_false', Bool.and_eq_true, Bool.and_eq_false_imp, beq_eq_false_iff_ne, beq_iff_eq, ne_eq, decide_eq_decide, decide_eq_true_eq, eq_self, true_iff, false_iff, iff_true, Bool.false_eq_true] at *
    omega
/-! ### Copies of bytes -/
def NewB (h0 : Base) (l : List UInt8) (v : Value) (h' : Base) (H' : List Asrt) : Prop := h' = h0 ∧ ∃ a cap, v = bufV a l.length cap ∧ H' = [bufA 5 1 a l.length cap (l.map u8)]
theorem Copy (h : Base) (v : Value) (l : List UInt8) (hv : BV h v l) (hl : l.length ≤ 140737488355328) : Tr Try.prog 35 [v] h [] (NewB h l) := by
  refine K.enter Try.func35 rfl (Nat.le_of_ble_eq_true rfl) (fun F => ?_)
  simp only [List.nil_append]
  (repeat' (first | (apply K.s_pure; (first | (apply Y.mv; exact X.mv) | (apply Y.sg; exact X.sg)); exact rfl) | refine X.l ?_ | refine X.w ?_ | refine X.a ?_ | (refine K.c_condD rfl (fun hc => ?_) (fun hc => ?_) <;> first | (exfalso; omega) | skip) | refine K.c_cond rfl (fun hc => ?_) (fun hc => ?_)))
  refine K.l_buildSlice (Fx.und rfl) (Fx.sz rfl) rfl (Fx.zr rfl) rfl rfl rfl rfl rfl (fun B => ?_)
  refine K.WL.bufOf (m := 0) (s := 1) rfl (by unfold maxLen; omega) ?_
  (repeat' (first | (apply K.s_pure; (first | (apply Y.mv; exact X.mv) | (apply Y.sg; exact X.sg)); exact rfl) | refine X.l ?_ | refine X.w ?_ | refine X.a ?_ | (refine K.c_condD rfl (fun hc => ?_) (fun hc => ?_) <;> first | (exfalso; omega) | skip) | refine K.c_cond rfl (fun hc => ?_) (fun hc => ?_)))
  refine K.l_append_at 0 rfl (Fx.und rfl) (Fx.und rfl) rfl (Fx.sz rfl) (Fx.zr rfl) rfl (Fx.byt rfl) rfl rfl hv.src (by omega) (by omega) rfl (fun a1 cap1 => ?_)
  simp only [List.set_cons_zero, List.set_cons_succ, List.eraseIdx_cons_zero, List.eraseIdx_cons_succ, List.cons_append, List.nil_append]
  rw [Nat.zero_add]
  (repeat' (first | (apply K.s_pure; (first | (apply Y.mv; exact X.mv) | (apply Y.sg; exact X.sg)); exact rfl) | refine X.l ?_ | refine X.w ?_ | refine X.a ?_ | (refine K.c_condD rfl (fun hc => ?_) (fun hc => ?_) <;> first | (exfalso; omega) | skip) | refine K.c_cond rfl (fun hc => ?_) (fun hc => ?_)))
  refine K.done (by first | exact Or.inl rfl | exact Or.inr rfl) rfl (by first | exact K.Base.le.refl _ | assumption) (H' := [bufA 5 1 a1 l.length cap1 (l.map u8)]) rfl ⟨rfl, a1, cap1, rfl, rfl⟩
theorem Clone (h : Base) (v : Value) (l : List UInt8) (hv : BV h v l) (hl : l.length ≤ 140737488355328) : Tr Try.prog 61 [v] h [] (NewB h l) := by
  obtain ⟨ao, ca, rfl⟩ := hv.len
  refine K.enter Try.func61 rfl (Nat.le_of_ble_eq_true rfl) (fun F => ?_)
  simp only [List.nil_append]
  cases ao with
  | none =>
    have hl0 : l = [] := by
      rcases hv with ⟨_, _, e, e2⟩ | ⟨_, _, _, e, _⟩
      · exact e2
      · cases e
    subst hl0
    (repeat' (first | (apply K.s_pure; (first | (apply Y.mv; exact X.mv) | (apply Y.sg; exact X.sg) | (apply Y.beql; exact X.beql)); exact rfl) | refine X.l ?_ | refine X.w ?_ | refine X.a ?_ | (refine K.c_condD rfl (fun hc => ?_) (fun hc => ?_) <;> first | (exfalso; omega) | skip) | refine K.c_cond rfl (fun hc => ?_) (fun hc => ?_)))
    refine K.AT.nilBuf 5 1 ?_
    refine K.done (by first | exact Or.inl rfl | exact Or.inr rfl) rfl (by first | exact K.Base.le.refl _ | assumption) (H' := [bufA 5 1 none 0 0 []]) rfl ⟨rfl, none, 0, rfl, rfl⟩
  | some ad =>
    (repeat' (first | (apply K.s_pure; (first | (apply Y.mv; exact X.mv) | (apply Y.sg; exact X.sg) | (apply Y.beql; exact X.beql)); exact rfl) | refine X.l ?_ | refine X.w ?_ | refine X.a ?_ | (refine K.c_condD rfl (fun hc => ?_) (fun hc => ?_) <;> first | (exfalso; omega) | skip) | refine K.c_cond rfl (fun hc => ?_) (fun hc => ?_)))
    refine K.l_buildSlice (Fx.und rfl) (Fx.sz rfl) rfl (Fx.zr rfl) rfl rfl rfl rfl rfl (fun B => ?_)
    refine K.WL.bufOf (m := 0) (s := 1) rfl (by unfold maxLen; omega) ?_
    (repeat' (first | (apply K.s_pure; (first | (apply Y.mv; exact X.mv) | (apply Y.sg; exact X.sg) | (apply Y.beql; exact X.beql)); exact rfl) | refine X.l ?_ | refine X.w ?_ | refine X.a ?_ | (refine K.c_condD rfl (fun hc => ?_) (fun hc => ?_) <;> first | (exfalso; omega) | skip) | refine K.c_cond rfl (fun hc => ?_) (fun hc => ?_)))
    refine K.l_append_at 0 rfl (Fx.und rfl) (Fx.und rfl) rfl (Fx.sz rfl) (Fx.zr rfl) rfl (Fx.byt rfl) rfl rfl hv.src (by omega) (by omega) rfl (fun a1 cap1 => ?_)
    simp only [List.set_cons_zero, List.set_cons_succ, List.eraseIdx_cons_zero, List.eraseIdx_cons_succ, List.cons_append, List.nil_append]
    rw [Nat.zero_add]
    (repeat' (first | (apply K.s_pure; (first | (apply Y.mv; exact X.mv) | (apply Y.sg; exact X.sg) | (apply Y.beql; exact X.beql)); exact rfl) | refine X.l ?_ | refine X.w ?_ | refine X.a ?_ | (refine K.c_condD rfl (fun hc => ?_) (fun hc => ?_) <;> first | (exfalso; omega) | skip) | refine K.c_cond rfl (fun hc => ?_) (fun hc => ?_)))
    refine K.done (by first | exact Or.inl rfl | exact Or.inr rfl) rfl (by first | exact K.Base.le.refl _ | assumption) (H' := [bufA 5 1 a1 l.length cap1 (l.map u8)]) rfl ⟨rfl, a1, cap1, rfl, rfl⟩
/-- An operation whose bytes are its owner's. -/
theorem CopyOp (h : Base) (cs : List Value) (o : POp) (hx : OpC h cs o) (hl : o.data.length ≤ 140737488355328) : Tr Try.prog 25 [.agg cs.toArray] h [] (fun v h' H' => h' = h ∧ ∃ a cap, v = .agg (cO o (bufV a o.data.length cap)).toArray ∧ H' = [bufA 5 1 a o.data.length cap (o.data.map u8)]) := by
  obtain ⟨hw, ao, ca, rfl, hb⟩ := hx
  refine K.enter Try.func25 rfl (Nat.le_of_ble_eq_true rfl) (fun F => ?_)
  (repeat' (first | (apply K.s_pure; (first | (apply Y.fa; exact X.fa) | (apply Y.ld; exact X.ld)); exact rfl) | refine X.l ?_ | refine X.w ?_ | refine X.a ?_ | (refine K.c_condD rfl (fun hc => ?_) (fun hc => ?_) <;> first | (exfalso; omega) | skip) | refine K.c_cond rfl (fun hc => ?_) (fun hc => ?_)))
  refine K.l_box rfl rfl rfl (fun B => ?_)
  refine K.l_alloc (Fx.zr rfl) rfl rfl (fun B => ?_)
  (repeat' (first | (apply K.s_pure; (first | (apply Y.fa; exact X.fa) | (apply Y.ld; exact X.ld)); exact rfl) | refine X.l ?_ | refine X.w ?_ | refine X.a ?_ | (refine K.c_condD rfl (fun hc => ?_) (fun hc => ?_) <;> first | (exfalso; omega) | skip) | refine K.c_cond rfl (fun hc => ?_) (fun hc => ?_)))
  refine K.l_call (Fx.cal rfl) rfl (Copy h _ o.data hb hl) (K.pp [] rfl) rfl ?_
  rintro u h' H' - ⟨e, a, cap, rfl, rfl⟩
  obtain rfl := e.symm
  simp only [List.set_cons_zero, List.set_cons_succ, List.eraseIdx_cons_zero, List.eraseIdx_cons_succ, List.cons_append, List.nil_append]
  (repeat' (first | (apply K.s_pure; (first | (apply Y.fa; exact X.fa) | (apply Y.ld; exact X.ld)); exact rfl) | refine X.l ?_ | refine X.w ?_ | refine X.a ?_ | (refine K.c_condD rfl (fun hc => ?_) (fun hc => ?_) <;> first | (exfalso; omega) | skip) | refine K.c_cond rfl (fun hc => ?_) (fun hc => ?_)))
  refine X.sto ?_
  simp only [List.set_cons_zero, List.set_cons_succ, List.eraseIdx_cons_zero, List.eraseIdx_cons_succ, List.cons_append, List.nil_append]
  (repeat' (first | (apply K.s_pure; (first | (apply Y.fa; exact X.fa) | (apply Y.ld; exact X.ld)); exact rfl) | refine X.l ?_ | refine X.w ?_ | refine X.a ?_ | (refine K.c_condD rfl (fun hc => ?_) (fun hc => ?_) <;> first | (exfalso; omega) | skip) | refine K.c_cond rfl (fun hc => ?_) (fun hc => ?_)))
  refine X.stw ?_
  simp only [List.set_cons_zero, List.set_cons_succ, List.eraseIdx_cons_zero, List.eraseIdx_cons_succ, List.cons_append, List.nil_append]
  (repeat' (first | (apply K.s_pure; (first | (apply Y.fa; exact X.fa) | (apply Y.ld; exact X.ld)); exact rfl) | refine X.l ?_ | refine X.w ?_ | refine X.a ?_ | (refine K.c_condD rfl (fun hc => ?_) (fun hc => ?_) <;> first | (exfalso; omega) | skip) | refine K.c_cond rfl (fun hc => ?_) (fun hc => ?_)))
  refine K.AT.perm (K.pp [1, 1, 0] rfl) ?_
  simp only [List.set_cons_zero, List.set_cons_succ, List.eraseIdx_cons_zero, List.eraseIdx_cons_succ, List.cons_append, List.nil_append]
  refine K.doneC (by first | exact Or.inl rfl | exact Or.inr rfl) (.cell rfl (Fx.agg rfl) (Fx.sz rfl) (by first | exact K.cels_own (pre := []) (post := []) 0 rfl rfl | exact K.cels_own (pre := []) (post := []) 1 rfl rfl | exact K.cels_own (pre := []) (post := []) 2 rfl rfl | exact K.cels_own (pre := []) (post := []) 3 rfl rfl | exact K.cels_own (pre := []) (post := []) 4 rfl rfl | exact K.cels_own (pre := []) (post := []) 5 rfl rfl) .nil) (by first | exact K.Base.le.refl _ | assumption) (D := [_, _]) (H' := [bufA 5 1 a o.data.length cap (o.data.map u8)]) rfl ⟨rfl, a, cap, rfl, rfl⟩
/-! ### What undoes one -/
def undoQ (k : Int) (o : POp) : POp × Int := if rightP k o ∧ o.kind ≤ 2 then (⟨if o.kind = 2 then 3 else 4, if k = 1 then o.slot else 0, 0, if k = 2 then o.data else []⟩, 0) else (⟨0, 0, 0, []⟩, 1)
/-- What is answered: an operation whose bytes are its owner's, and an error. -/
def NewO (h0 : Base) (r : POp × Int) (v : Value) (h' : Base) (H' : List Asrt) : Prop := h' = h0 ∧ ∃ a cap, v = .tuple #[.agg (cO r.1 (bufV a r.1.data.length cap)).toArray, .int .i64 r.2] ∧ H' = [bufA 5 1 a r.1.data.length cap (r.1.data.map u8)]
theorem Undo (h : Base) (k : Int) (cs : List Value) (o : POp) (hx : OpC h cs o) : Tr Try.prog 31 [.int .i64 k, .agg cs.toArray] h [] (NewO h (undoQ k o)) := by
  have hrt := ORight h k cs o hx
  obtain ⟨hw, ao, ca, rfl, hb⟩ := hx
  refine K.enter Try.func31 rfl (Nat.le_of_ble_eq_true rfl) (fun F => ?_)
  (repeat' (first | (apply K.s_pure; (first | (apply Y.mv; exact X.mv) | (apply Y.sg; exact X.sg) | (apply Y.pk; exact X.pk) | (apply Y.fa; exact X.fa) | (apply Y.ld; exact X.ld) | (apply Y.bd; exact X.bd) | (apply Y.nt; exact X.nt) | (apply Y.beql; exact X.beql) | (apply Y.bgtr; exact X.bgtr)); exact rfl) | refine X.l ?_ | refine X.w ?_ | refine X.a ?_ | (refine K.c_condD rfl (fun hc => ?_) (fun hc => ?_) <;> first | (exfalso; omega) | skip) | refine K.c_cond rfl (fun hc => ?_) (fun hc => ?_) | (refine K.s_guardD rfl rfl (fun hc => ?_) (fun hc => ?_) <;> first | (exfalso; omega) | skip) | refine K.s_guard rfl rfl (fun hc => ?_) (fun hc => ?_)))
  refine K.l_box rfl rfl rfl (fun B => ?_)
  refine K.l_alloc (Fx.zr rfl) rfl rfl (fun B => ?_)
  (repeat' (first | (apply K.s_pure; (first | (apply Y.mv; exact X.mv) | (apply Y.sg; exact X.sg) | (apply Y.pk; exact X.pk) | (apply Y.fa; exact X.fa) | (apply Y.ld; exact X.ld) | (apply Y.bd; exact X.bd) | (apply Y.nt; exact X.nt) | (apply Y.beql; exact X.beql) | (apply Y.bgtr; exact X.bgtr)); exact rfl) | refine X.l ?_ | refine X.w ?_ | refine X.a ?_ | (refine K.c_condD rfl (fun hc => ?_) (fun hc => ?_) <;> first | (exfalso; omega) | skip) | refine K.c_cond rfl (fun hc => ?_) (fun hc => ?_) | (refine K.s_guardD rfl rfl (fun hc => ?_) (fun hc => ?_) <;> first | (exfalso; omega) | skip) | refine K.s_guard rfl rfl (fun hc => ?_) (fun hc => ?_)))
  refine K.l_callV (Fx.cal rfl) rfl hrt (K.pp [] rfl) rfl rfl ?_
  simp only [List.nil_append]
  rw [undoQ]
  by_cases hq : rightP k o ∧ o.kind ≤ 2
  · rw [if_pos hq, decide_eq_true hq.1]
    have hk12 := hq.1.1
    have hkk := hq.1.2.1
    have hk2 := hq.2
    rcases hk12 with rfl | rfl
    · rcases (by omega : o.kind = 1 ∨ o.kind = 2) with e | e
      · rw [if_neg (by omega), if_pos rfl, if_neg (by decide)]
        (repeat' (first | (apply K.s_pure; (first | (apply Y.mv; exact X.mv) | (apply Y.sg; exact X.sg) | (apply Y.pk; exact X.pk) | (apply Y.fa; exact X.fa) | (apply Y.ld; exact X.ld) | (apply Y.bd; exact X.bd) | (apply Y.nt; exact X.nt) | (apply Y.beql; exact X.beql) | (apply Y.bgtr; exact X.bgtr)); exact rfl) | refine X.l ?_ | refine X.w ?_ | refine X.a ?_ | (refine K.c_condD rfl (fun hc => ?_) (fun hc => ?_) <;> first | (exfalso; omega) | skip) | refine K.c_cond rfl (fun hc => ?_) (fun hc => ?_) | (refine K.s_guardD rfl rfl (fun hc => ?_) (fun hc => ?_) <;> first | (exfalso; omega) | skip) | refine K.s_guard rfl rfl (fun hc => ?_) (fun hc => ?_)))
        refine K.l_alloc (Fx.zr rfl) rfl rfl (fun B => ?_)
        refine X.stw ?_
        (repeat' (first | (apply K.s_pure; (first | (apply Y.mv; exact X.mv) | (apply Y.sg; exact X.sg) | (apply Y.pk; exact X.pk) | (apply Y.fa; exact X.fa) | (apply Y.ld; exact X.ld) | (apply Y.bd; exact X.bd) | (apply Y.nt; exact X.nt) | (apply Y.beql; exact X.beql) | (apply Y.bgtr; exact X.bgtr)); exact rfl) | refine X.l ?_ | refine X.w ?_ | refine X.a ?_ | (refine K.c_condD rfl (fun hc => ?_) (fun hc => ?_) <;> first | (exfalso; omega) | skip) | refine K.c_cond rfl (fun hc => ?_) (fun hc => ?_) | (refine K.s_guardD rfl rfl (fun hc => ?_) (fun hc => ?_) <;> first | (exfalso; omega) | skip) | refine K.s_guard rfl rfl (fun hc => ?_) (fun hc => ?_)))
        repeat (first | refine X.sto ?_ | refine X.stw ?_)
        (repeat' (first | (apply K.s_pure; (first | (apply Y.mv; exact X.mv) | (apply Y.sg; exact X.sg) | (apply Y.pk; exact X.pk) | (apply Y.fa; exact X.fa) | (apply Y.ld; exact X.ld) | (apply Y.bd; exact X.bd) | (apply Y.nt; exact X.nt) | (apply Y.beql; exact X.beql) | (apply Y.bgtr; exact X.bgtr)); exact rfl) | refine X.l ?_ | refine X.w ?_ | refine X.a ?_ | (refine K.c_condD rfl (fun hc => ?_) (fun hc => ?_) <;> first | (exfalso; omega) | skip) | refine K.c_cond rfl (fun hc => ?_) (fun hc => ?_) | (refine K.s_guardD rfl rfl (fun hc => ?_) (fun hc => ?_) <;> first | (exfalso; omega) | skip) | refine K.s_guard rfl rfl (fun hc => ?_) (fun hc => ?_)))
        repeat (first | refine X.sto ?_ | refine X.stw ?_)
        (repeat' (first | (apply K.s_pure; (first | (apply Y.mv; exact X.mv) | (apply Y.sg; exact X.sg) | (apply Y.pk; exact X.pk) | (apply Y.fa; exact X.fa) | (apply Y.ld; exact X.ld) | (apply Y.bd; exact X.bd) | (apply Y.nt; exact X.nt) | (apply Y.beql; exact X.beql) | (apply Y.bgtr; exact X.bgtr)); exact rfl) | refine X.l ?_ | refine X.w ?_ | refine X.a ?_ | (refine K.c_condD rfl (fun hc => ?_) (fun hc => ?_) <;> first | (exfalso; omega) | skip) | refine K.c_cond rfl (fun hc => ?_) (fun hc => ?_) | (refine K.s_guardD rfl rfl (fun hc => ?_) (fun hc => ?_) <;> first | (exfalso; omega) | skip) | refine K.s_guard rfl rfl (fun hc => ?_) (fun hc => ?_)))
        simp only [List.set_cons_zero, List.set_cons_succ, List.eraseIdx_cons_zero, List.eraseIdx_cons_succ, List.cons_append, List.nil_append]
        refine K.AT.nilBuf 5 1 ?_
        refine K.AT.perm (K.pp [1, 1, 1, 0] rfl) ?_
        simp only [List.set_cons_zero, List.set_cons_succ, List.eraseIdx_cons_zero, List.eraseIdx_cons_succ, List.cons_append, List.nil_append]
        refine K.doneC (by first | exact Or.inl rfl | exact Or.inr rfl) (.cell rfl (Fx.agg rfl) (Fx.sz rfl) (by first | exact K.cels_own (pre := []) (post := []) 0 rfl rfl | exact K.cels_own (pre := []) (post := []) 1 rfl rfl | exact K.cels_own (pre := []) (post := []) 2 rfl rfl | exact K.cels_own (pre := []) (post := []) 3 rfl rfl | exact K.cels_own (pre := []) (post := []) 4 rfl rfl | exact K.cels_own (pre := []) (post := []) 5 rfl rfl) (.tmp rfl .nil)) (by first | exact K.Base.le.refl _ | assumption) (D := [_, _, _]) (H' := [bufA 5 1 none 0 0 []]) rfl ⟨rfl, none, 0, rfl, rfl⟩
      · rw [if_pos e, if_pos rfl, if_neg (by decide)]
        (repeat' (first | (apply K.s_pure; (first | (apply Y.mv; exact X.mv) | (apply Y.sg; exact X.sg) | (apply Y.pk; exact X.pk) | (apply Y.fa; exact X.fa) | (apply Y.ld; exact X.ld) | (apply Y.bd; exact X.bd) | (apply Y.nt; exact X.nt) | (apply Y.beql; exact X.beql) | (apply Y.bgtr; exact X.bgtr)); exact rfl) | refine X.l ?_ | refine X.w ?_ | refine X.a ?_ | (refine K.c_condD rfl (fun hc => ?_) (fun hc => ?_) <;> first | (exfalso; omega) | skip) | refine K.c_cond rfl (fun hc => ?_) (fun hc => ?_) | (refine K.s_guardD rfl rfl (fun hc => ?_) (fun hc => ?_) <;> first | (exfalso; omega) | skip) | refine K.s_guard rfl rfl (fun hc => ?_) (fun hc => ?_)))
        refine K.l_alloc (Fx.zr rfl) rfl rfl (fun B => ?_)
        refine X.stw ?_
        (repeat' (first | (apply K.s_pure; (first | (apply Y.mv; exact X.mv) | (apply Y.sg; exact X.sg) | (apply Y.pk; exact X.pk) | (apply Y.fa; exact X.fa) | (apply Y.ld; exact X.ld) | (apply Y.bd; exact X.bd) | (apply Y.nt; exact X.nt) | (apply Y.beql; exact X.beql) | (apply Y.bgtr; exact X.bgtr)); exact rfl) | refine X.l ?_ | refine X.w ?_ | refine X.a ?_ | (refine K.c_condD rfl (fun hc => ?_) (fun hc => ?_) <;> first | (exfalso; omega) | skip) | refine K.c_cond rfl (fun hc => ?_) (fun hc => ?_) | (refine K.s_guardD rfl rfl (fun hc => ?_) (fun hc => ?_) <;> first | (exfalso; omega) | skip) | refine K.s_guard rfl rfl (fun hc => ?_) (fun hc => ?_)))
        repeat (first | refine X.sto ?_ | refine X.stw ?_)
        (repeat' (first | (apply K.s_pure; (first | (apply Y.mv; exact X.mv) | (apply Y.sg; exact X.sg) | (apply Y.pk; exact X.pk) | (apply Y.fa; exact X.fa) | (apply Y.ld; exact X.ld) | (apply Y.bd; exact X.bd) | (apply Y.nt; exact X.nt) | (apply Y.beql; exact X.beql) | (apply Y.bgtr; exact X.bgtr)); exact rfl) | refine X.l ?_ | refine X.w ?_ | refine X.a ?_ | (refine K.c_condD rfl (fun hc => ?_) (fun hc => ?_) <;> first | (exfalso; omega) | skip) | refine K.c_cond rfl (fun hc => ?_) (fun hc => ?_) | (refine K.s_guardD rfl rfl (fun hc => ?_) (fun hc => ?_) <;> first | (exfalso; omega) | skip) | refine K.s_guard rfl rfl (fun hc => ?_) (fun hc => ?_)))
        repeat (first | refine X.sto ?_ | refine X.stw ?_)
        (repeat' (first | (apply K.s_pure; (first | (apply Y.mv; exact X.mv) | (apply Y.sg; exact X.sg) | (apply Y.pk; exact X.pk) | (apply Y.fa; exact X.fa) | (apply Y.ld; exact X.ld) | (apply Y.bd; exact X.bd) | (apply Y.nt; exact X.nt) | (apply Y.beql; exact X.beql) | (apply Y.bgtr; exact X.bgtr)); exact rfl) | refine X.l ?_ | refine X.w ?_ | refine X.a ?_ | (refine K.c_condD rfl (fun hc => ?_) (fun hc => ?_) <;> first | (exfalso; omega) | skip) | refine K.c_cond rfl (fun hc => ?_) (fun hc => ?_) | (refine K.s_guardD rfl rfl (fun hc => ?_) (fun hc => ?_) <;> first | (exfalso; omega) | skip) | refine K.s_guard rfl rfl (fun hc => ?_) (fun hc => ?_)))
        repeat (first | refine X.sto ?_ | refine X.stw ?_)
        (repeat' (first | (apply K.s_pure; (first | (apply Y.mv; exact X.mv) | (apply Y.sg; exact X.sg) | (apply Y.pk; exact X.pk) | (apply Y.fa; exact X.fa) | (apply Y.ld; exact X.ld) | (apply Y.bd; exact X.bd) | (apply Y.nt; exact X.nt) | (apply Y.beql; exact X.beql) | (apply Y.bgtr; exact X.bgtr)); exact rfl) | refine X.l ?_ | refine X.w ?_ | refine X.a ?_ | (refine K.c_condD rfl (fun hc => ?_) (fun hc => ?_) <;> first | (exfalso; omega) | skip) | refine K.c_cond rfl (fun hc => ?_) (fun hc => ?_) | (refine K.s_guardD rfl rfl (fun hc => ?_) (fun hc => ?_) <;> first | (exfalso; omega) | skip) | refine K.s_guard rfl rfl (fun hc => ?_) (fun hc => ?_)))
        simp only [List.set_cons_zero, List.set_cons_succ, List.eraseIdx_cons_zero, List.eraseIdx_cons_succ, List.cons_append, List.nil_append]
        refine K.AT.nilBuf 5 1 ?_
        refine K.AT.perm (K.pp [1, 1, 1, 0] rfl) ?_
        simp only [List.set_cons_zero, List.set_cons_succ, List.eraseIdx_cons_zero, List.eraseIdx_cons_succ, List.cons_append, List.nil_append]
        refine K.doneC (by first | exact Or.inl rfl | exact Or.inr rfl) (.cell rfl (Fx.agg rfl) (Fx.sz rfl) (by first | exact K.cels_own (pre := []) (post := []) 0 rfl rfl | exact K.cels_own (pre := []) (post := []) 1 rfl rfl | exact K.cels_own (pre := []) (post := []) 2 rfl rfl | exact K.cels_own (pre := []) (post := []) 3 rfl rfl | exact K.cels_own (pre := []) (post := []) 4 rfl rfl | exact K.cels_own (pre := []) (post := []) 5 rfl rfl) (.tmp rfl .nil)) (by first | exact K.Base.le.refl _ | assumption) (D := [_, _, _]) (H' := [bufA 5 1 none 0 0 []]) rfl ⟨rfl, none, 0, rfl, rfl⟩
    · have hl180 : o.data.length ≤ 180 := (hq.1.2.2.2.2.2 (by omega)).2
      have hs0 : o.slot = 0 := hq.1.2.2.2.1 rfl
      rcases (by omega : o.kind = 1 ∨ o.kind = 2) with e | e
      · rw [if_neg (by omega), if_neg (by decide), if_pos rfl]
        (repeat' (first | (apply K.s_pure; (first | (apply Y.mv; exact X.mv) | (apply Y.sg; exact X.sg) | (apply Y.pk; exact X.pk) | (apply Y.fa; exact X.fa) | (apply Y.ld; exact X.ld) | (apply Y.bd; exact X.bd) | (apply Y.nt; exact X.nt) | (apply Y.beql; exact X.beql) | (apply Y.bgtr; exact X.bgtr)); exact rfl) | refine X.l ?_ | refine X.w ?_ | refine X.a ?_ | (refine K.c_condD rfl (fun hc => ?_) (fun hc => ?_) <;> first | (exfalso; omega) | skip) | refine K.c_cond rfl (fun hc => ?_) (fun hc => ?_) | (refine K.s_guardD rfl rfl (fun hc => ?_) (fun hc => ?_) <;> first | (exfalso; omega) | skip) | refine K.s_guard rfl rfl (fun hc => ?_) (fun hc => ?_)))
        refine K.l_alloc (Fx.zr rfl) rfl rfl (fun B => ?_)
        refine X.stw ?_
        (repeat' (first | (apply K.s_pure; (first | (apply Y.mv; exact X.mv) | (apply Y.sg; exact X.sg) | (apply Y.pk; exact X.pk) | (apply Y.fa; exact X.fa) | (apply Y.ld; exact X.ld) | (apply Y.bd; exact X.bd) | (apply Y.nt; exact X.nt) | (apply Y.beql; exact X.beql) | (apply Y.bgtr; exact X.bgtr)); exact rfl) | refine X.l ?_ | refine X.w ?_ | refine X.a ?_ | (refine K.c_condD rfl (fun hc => ?_) (fun hc => ?_) <;> first | (exfalso; omega) | skip) | refine K.c_cond rfl (fun hc => ?_) (fun hc => ?_) | (refine K.s_guardD rfl rfl (fun hc => ?_) (fun hc => ?_) <;> first | (exfalso; omega) | skip) | refine K.s_guard rfl rfl (fun hc => ?_) (fun hc => ?_)))
        refine K.l_call (Fx.cal rfl) rfl (Clone h _ o.data hb (by omega)) (K.pp [] rfl) rfl ?_
        rintro u h' H' - ⟨e2, a, cap, rfl, rfl⟩
        obtain rfl := e2.symm
        simp only [List.set_cons_zero, List.set_cons_succ, List.eraseIdx_cons_zero, List.eraseIdx_cons_succ, List.cons_append, List.nil_append]
        (repeat' (first | (apply K.s_pure; (first | (apply Y.mv; exact X.mv) | (apply Y.sg; exact X.sg) | (apply Y.pk; exact X.pk) | (apply Y.fa; exact X.fa) | (apply Y.ld; exact X.ld) | (apply Y.bd; exact X.bd) | (apply Y.nt; exact X.nt) | (apply Y.beql; exact X.beql) | (apply Y.bgtr; exact X.bgtr)); exact rfl) | refine X.l ?_ | refine X.w ?_ | refine X.a ?_ | (refine K.c_condD rfl (fun hc => ?_) (fun hc => ?_) <;> first | (exfalso; omega) | skip) | refine K.c_cond rfl (fun hc => ?_) (fun hc => ?_) | (refine K.s_guardD rfl rfl (fun hc => ?_) (fun hc => ?_) <;> first | (exfalso; omega) | skip) | refine K.s_guard rfl rfl (fun hc => ?_) (fun hc => ?_)))
        repeat (first | refine X.sto ?_ | refine X.stw ?_)
        (repeat' (first | (apply K.s_pure; (first | (apply Y.mv; exact X.mv) | (apply Y.sg; exact X.sg) | (apply Y.pk; exact X.pk) | (apply Y.fa; exact X.fa) | (apply Y.ld; exact X.ld) | (apply Y.bd; exact X.bd) | (apply Y.nt; exact X.nt) | (apply Y.beql; exact X.beql) | (apply Y.bgtr; exact X.bgtr)); exact rfl) | refine X.l ?_ | refine X.w ?_ | refine X.a ?_ | (refine K.c_condD rfl (fun hc => ?_) (fun hc => ?_) <;> first | (exfalso; omega) | skip) | refine K.c_cond rfl (fun hc => ?_) (fun hc => ?_) | (refine K.s_guardD rfl rfl (fun hc => ?_) (fun hc => ?_) <;> first | (exfalso; omega) | skip) | refine K.s_guard rfl rfl (fun hc => ?_) (fun hc => ?_)))
        repeat (first | refine X.sto ?_ | refine X.stw ?_)
        (repeat' (first | (apply K.s_pure; (first | (apply Y.mv; exact X.mv) | (apply Y.sg; exact X.sg) | (apply Y.pk; exact X.pk) | (apply Y.fa; exact X.fa) | (apply Y.ld; exact X.ld) | (apply Y.bd; exact X.bd) | (apply Y.nt; exact X.nt) | (apply Y.beql; exact X.beql) | (apply Y.bgtr; exact X.bgtr)); exact rfl) | refine X.l ?_ | refine X.w ?_ | refine X.a ?_ | (refine K.c_condD rfl (fun hc => ?_) (fun hc => ?_) <;> first | (exfalso; omega) | skip) | refine K.c_cond rfl (fun hc => ?_) (fun hc => ?_) | (refine K.s_guardD rfl rfl (fun hc => ?_) (fun hc => ?_) <;> first | (exfalso; omega) | skip) | refine K.s_guard rfl rfl (fun hc => ?_) (fun hc => ?_)))
        simp only [List.set_cons_zero, List.set_cons_succ, List.eraseIdx_cons_zero, List.eraseIdx_cons_succ, List.cons_append, List.nil_append]
        try rw [hs0]
        refine K.AT.perm (K.pp [1, 1, 1, 0] rfl) ?_
        simp only [List.set_cons_zero, List.set_cons_succ, List.eraseIdx_cons_zero, List.eraseIdx_cons_succ, List.cons_append, List.nil_append]
        refine K.doneC (by first | exact Or.inl rfl | exact Or.inr rfl) (.cell rfl (Fx.agg rfl) (Fx.sz rfl) (by first | exact K.cels_own (pre := []) (post := []) 0 rfl rfl | exact K.cels_own (pre := []) (post := []) 1 rfl rfl | exact K.cels_own (pre := []) (post := []) 2 rfl rfl | exact K.cels_own (pre := []) (post := []) 3 rfl rfl | exact K.cels_own (pre := []) (post := []) 4 rfl rfl | exact K.cels_own (pre := []) (post := []) 5 rfl rfl) (.tmp rfl .nil)) (by first | exact K.Base.le.refl _ | assumption) (D := [_, _, _]) (H' := [bufA 5 1 a o.data.length cap (o.data.map u8)]) rfl ⟨rfl, a, cap, rfl, rfl⟩
      · rw [if_pos e, if_neg (by decide), if_pos rfl]
        (repeat' (first | (apply K.s_pure; (first | (apply Y.mv; exact X.mv) | (apply Y.sg; exact X.sg) | (apply Y.pk; exact X.pk) | (apply Y.fa; exact X.fa) | (apply Y.ld; exact X.ld) | (apply Y.bd; exact X.bd) | (apply Y.nt; exact X.nt) | (apply Y.beql; exact X.beql) | (apply Y.bgtr; exact X.bgtr)); exact rfl) | refine X.l ?_ | refine X.w ?_ | refine X.a ?_ | (refine K.c_condD rfl (fun hc => ?_) (fun hc => ?_) <;> first | (exfalso; omega) | skip) | refine K.c_cond rfl (fun hc => ?_) (fun hc => ?_) | (refine K.s_guardD rfl rfl (fun hc => ?_) (fun hc => ?_) <;> first | (exfalso; omega) | skip) | refine K.s_guard rfl rfl (fun hc => ?_) (fun hc => ?_)))
        refine K.l_alloc (Fx.zr rfl) rfl rfl (fun B => ?_)
        refine X.stw ?_
        (repeat' (first | (apply K.s_pure; (first | (apply Y.mv; exact X.mv) | (apply Y.sg; exact X.sg) | (apply Y.pk; exact X.pk) | (apply Y.fa; exact X.fa) | (apply Y.ld; exact X.ld) | (apply Y.bd; exact X.bd) | (apply Y.nt; exact X.nt) | (apply Y.beql; exact X.beql) | (apply Y.bgtr; exact X.bgtr)); exact rfl) | refine X.l ?_ | refine X.w ?_ | refine X.a ?_ | (refine K.c_condD rfl (fun hc => ?_) (fun hc => ?_) <;> first | (exfalso; omega) | skip) | refine K.c_cond rfl (fun hc => ?_) (fun hc => ?_) | (refine K.s_guardD rfl rfl (fun hc => ?_) (fun hc => ?_) <;> first | (exfalso; omega) | skip) | refine K.s_guard rfl rfl (fun hc => ?_) (fun hc => ?_)))
        refine X.sto ?_
        (repeat' (first | (apply K.s_pure; (first | (apply Y.mv; exact X.mv) | (apply Y.sg; exact X.sg) | (apply Y.pk; exact X.pk) | (apply Y.fa; exact X.fa) | (apply Y.ld; exact X.ld) | (apply Y.bd; exact X.bd) | (apply Y.nt; exact X.nt) | (apply Y.beql; exact X.beql) | (apply Y.bgtr; exact X.bgtr)); exact rfl) | refine X.l ?_ | refine X.w ?_ | refine X.a ?_ | (refine K.c_condD rfl (fun hc => ?_) (fun hc => ?_) <;> first | (exfalso; omega) | skip) | refine K.c_cond rfl (fun hc => ?_) (fun hc => ?_) | (refine K.s_guardD rfl rfl (fun hc => ?_) (fun hc => ?_) <;> first | (exfalso; omega) | skip) | refine K.s_guard rfl rfl (fun hc => ?_) (fun hc => ?_)))
        refine K.l_call (Fx.cal rfl) rfl (Clone h _ o.data hb (by omega)) (K.pp [] rfl) rfl ?_
        rintro u h' H' - ⟨e2, a, cap, rfl, rfl⟩
        obtain rfl := e2.symm
        simp only [List.set_cons_zero, List.set_cons_succ, List.eraseIdx_cons_zero, List.eraseIdx_cons_succ, List.cons_append, List.nil_append]
        (repeat' (first | (apply K.s_pure; (first | (apply Y.mv; exact X.mv) | (apply Y.sg; exact X.sg) | (apply Y.pk; exact X.pk) | (apply Y.fa; exact X.fa) | (apply Y.ld; exact X.ld) | (apply Y.bd; exact X.bd) | (apply Y.nt; exact X.nt) | (apply Y.beql; exact X.beql) | (apply Y.bgtr; exact X.bgtr)); exact rfl) | refine X.l ?_ | refine X.w ?_ | refine X.a ?_ | (refine K.c_condD rfl (fun hc => ?_) (fun hc => ?_) <;> first | (exfalso; omega) | skip) | refine K.c_cond rfl (fun hc => ?_) (fun hc => ?_) | (refine K.s_guardD rfl rfl (fun hc => ?_) (fun hc => ?_) <;> first | (exfalso; omega) | skip) | refine K.s_guard rfl rfl (fun hc => ?_) (fun hc => ?_)))
        repeat (first | refine X.sto ?_ | refine X.stw ?_)
        (repeat' (first | (apply K.s_pure; (first | (apply Y.mv; exact X.mv) | (apply Y.sg; exact X.sg) | (apply Y.pk; exact X.pk) | (apply Y.fa; exact X.fa) | (apply Y.ld; exact X.ld) | (apply Y.bd; exact X.bd) | (apply Y.nt; exact X.nt) | (apply Y.beql; exact X.beql) | (apply Y.bgtr; exact X.bgtr)); exact rfl) | refine X.l ?_ | refine X.w ?_ | refine X.a ?_ | (refine K.c_condD rfl (fun hc => ?_) (fun hc => ?_) <;> first | (exfalso; omega) | skip) | refine K.c_cond rfl (fun hc => ?_) (fun hc => ?_) | (refine K.s_guardD rfl rfl (fun hc => ?_) (fun hc => ?_) <;> first | (exfalso; omega) | skip) | refine K.s_guard rfl rfl (fun hc => ?_) (fun hc => ?_)))
        repeat (first | refine X.sto ?_ | refine X.stw ?_)
        (repeat' (first | (apply K.s_pure; (first | (apply Y.mv; exact X.mv) | (apply Y.sg; exact X.sg) | (apply Y.pk; exact X.pk) | (apply Y.fa; exact X.fa) | (apply Y.ld; exact X.ld) | (apply Y.bd; exact X.bd) | (apply Y.nt; exact X.nt) | (apply Y.beql; exact X.beql) | (apply Y.bgtr; exact X.bgtr)); exact rfl) | refine X.l ?_ | refine X.w ?_ | refine X.a ?_ | (refine K.c_condD rfl (fun hc => ?_) (fun hc => ?_) <;> first | (exfalso; omega) | skip) | refine K.c_cond rfl (fun hc => ?_) (fun hc => ?_) | (refine K.s_guardD rfl rfl (fun hc => ?_) (fun hc => ?_) <;> first | (exfalso; omega) | skip) | refine K.s_guard rfl rfl (fun hc => ?_) (fun hc => ?_)))
        simp only [List.set_cons_zero, List.set_cons_succ, List.eraseIdx_cons_zero, List.eraseIdx_cons_succ, List.cons_append, List.nil_append]
        try rw [hs0]
        refine K.AT.perm (K.pp [1, 1, 1, 0] rfl) ?_
        simp only [List.set_cons_zero, List.set_cons_succ, List.eraseIdx_cons_zero, List.eraseIdx_cons_succ, List.cons_append, List.nil_append]
        refine K.doneC (by first | exact Or.inl rfl | exact Or.inr rfl) (.cell rfl (Fx.agg rfl) (Fx.sz rfl) (by first | exact K.cels_own (pre := []) (post := []) 0 rfl rfl | exact K.cels_own (pre := []) (post := []) 1 rfl rfl | exact K.cels_own (pre := []) (post := []) 2 rfl rfl | exact K.cels_own (pre := []) (post := []) 3 rfl rfl | exact K.cels_own (pre := []) (post := []) 4 rfl rfl | exact K.cels_own (pre := []) (post := []) 5 rfl rfl) (.tmp rfl .nil)) (by first | exact K.Base.le.refl _ | assumption) (D := [_, _, _]) (H' := [bufA 5 1 a o.data.length cap (o.data.map u8)]) rfl ⟨rfl, a, cap, rfl, rfl⟩
  · rw [if_neg hq]
    by_cases hr : rightP k o
    · have h2 : ¬ o.kind ≤ 2 := fun e => hq ⟨hr, e⟩
      rw [decide_eq_true hr]
      (repeat' (first | (apply K.s_pure; (first | (apply Y.mv; exact X.mv) | (apply Y.sg; exact X.sg) | (apply Y.pk; exact X.pk) | (apply Y.fa; exact X.fa) | (apply Y.ld; exact X.ld) | (apply Y.bd; exact X.bd) | (apply Y.nt; exact X.nt) | (apply Y.beql; exact X.beql) | (apply Y.bgtr; exact X.bgtr)); exact rfl) | refine X.l ?_ | refine X.w ?_ | refine X.a ?_ | (refine K.c_condD rfl (fun hc => ?_) (fun hc => ?_) <;> first | (exfalso; omega) | skip) | refine K.c_cond rfl (fun hc => ?_) (fun hc => ?_) | (refine K.s_guardD rfl rfl (fun hc => ?_) (fun hc => ?_) <;> first | (exfalso; omega) | skip) | refine K.s_guard rfl rfl (fun hc => ?_) (fun hc => ?_)))
      all_goals
        refine X.stw ?_
        (repeat' (first | (apply K.s_pure; (first | (apply Y.mv; exact X.mv) | (apply Y.sg; exact X.sg) | (apply Y.pk; exact X.pk) | (apply Y.fa; exact X.fa) | (apply Y.ld; exact X.ld) | (apply Y.bd; exact X.bd) | (apply Y.nt; exact X.nt) | (apply Y.beql; exact X.beql) | (apply Y.bgtr; exact X.bgtr)); exact rfl) | refine X.l ?_ | refine X.w ?_ | refine X.a ?_ | (refine K.c_condD rfl (fun hc => ?_) (fun hc => ?_) <;> first | (exfalso; omega) | skip) | refine K.c_cond rfl (fun hc => ?_) (fun hc => ?_) | (refine K.s_guardD rfl rfl (fun hc => ?_) (fun hc => ?_) <;> first | (exfalso; omega) | skip) | refine K.s_guard rfl rfl (fun hc => ?_) (fun hc => ?_)))
        refine K.AT.nilBuf 5 1 ?_
        refine K.AT.perm (K.pp [1, 1, 0] rfl) ?_
        simp only [List.set_cons_zero, List.set_cons_succ, List.eraseIdx_cons_zero, List.eraseIdx_cons_succ, List.cons_append, List.nil_append]
        refine K.doneC (by first | exact Or.inl rfl | exact Or.inr rfl) (.cell rfl (Fx.agg rfl) (Fx.sz rfl) (by first | exact K.cels_own (pre := []) (post := []) 0 rfl rfl | exact K.cels_own (pre := []) (post := []) 1 rfl rfl | exact K.cels_own (pre := []) (post := []) 2 rfl rfl | exact K.cels_own (pre := []) (post := []) 3 rfl rfl | exact K.cels_own (pre := []) (post := []) 4 rfl rfl | exact K.cels_own (pre := []) (post := []) 5 rfl rfl) (.tmp rfl .nil)) (by first | exact K.Base.le.refl _ | assumption) (D := [_, _]) (H' := [bufA 5 1 none 0 0 []]) rfl ⟨rfl, none, 0, rfl, rfl⟩
    · rw [decide_eq_false hr]
      (repeat' (first | (apply K.s_pure; (first | (apply Y.mv; exact X.mv) | (apply Y.sg; exact X.sg) | (apply Y.pk; exact X.pk) | (apply Y.fa; exact X.fa) | (apply Y.ld; exact X.ld) | (apply Y.bd; exact X.bd) | (apply Y.nt; exact X.nt) | (apply Y.beql; exact X.beql) | (apply Y.bgtr; exact X.bgtr)); exact rfl) | refine X.l ?_ | refine X.w ?_ | refine X.a ?_ | (refine K.c_condD rfl (fun hc => ?_) (fun hc => ?_) <;> first | (exfalso; omega) | skip) | refine K.c_cond rfl (fun hc => ?_) (fun hc => ?_) | (refine K.s_guardD rfl rfl (fun hc => ?_) (fun hc => ?_) <;> first | (exfalso; omega) | skip) | refine K.s_guard rfl rfl (fun hc => ?_) (fun hc => ?_)))
      refine X.stw ?_
      (repeat' (first | (apply K.s_pure; (first | (apply Y.mv; exact X.mv) | (apply Y.sg; exact X.sg) | (apply Y.pk; exact X.pk) | (apply Y.fa; exact X.fa) | (apply Y.ld; exact X.ld) | (apply Y.bd; exact X.bd) | (apply Y.nt; exact X.nt) | (apply Y.beql; exact X.beql) | (apply Y.bgtr; exact X.bgtr)); exact rfl) | refine X.l ?_ | refine X.w ?_ | refine X.a ?_ | (refine K.c_condD rfl (fun hc => ?_) (fun hc => ?_) <;> first | (exfalso; omega) | skip) | refine K.c_cond rfl (fun hc => ?_) (fun hc => ?_) | (refine K.s_guardD rfl rfl (fun hc => ?_) (fun hc => ?_) <;> first | (exfalso; omega) | skip) | refine K.s_guard rfl rfl (fun hc => ?_) (fun hc => ?_)))
      refine K.AT.nilBuf 5 1 ?_
      refine K.AT.perm (K.pp [1, 1, 0] rfl) ?_
      simp only [List.set_cons_zero, List.set_cons_succ, List.eraseIdx_cons_zero, List.eraseIdx_cons_succ, List.cons_append, List.nil_append]
      refine K.doneC (by first | exact Or.inl rfl | exact Or.inr rfl) (.cell rfl (Fx.agg rfl) (Fx.sz rfl) (by first | exact K.cels_own (pre := []) (post := []) 0 rfl rfl | exact K.cels_own (pre := []) (post := []) 1 rfl rfl | exact K.cels_own (pre := []) (post := []) 2 rfl rfl | exact K.cels_own (pre := []) (post := []) 3 rfl rfl | exact K.cels_own (pre := []) (post := []) 4 rfl rfl | exact K.cels_own (pre := []) (post := []) 5 rfl rfl) (.tmp rfl .nil)) (by first | exact K.Base.le.refl _ | assumption) (D := [_, _]) (H' := [bufA 5 1 none 0 0 []]) rfl ⟨rfl, none, 0, rfl, rfl⟩
theorem RUndo (h : Base) (k : Int) (cs : List Value) (o : POp) (hx : OpC h cs o) : Tr Try.prog 32 [.int .i64 k, .agg cs.toArray] h [] (NewO h (undoQ k o)) := by
  have hrt := RRight h k cs o hx
  obtain ⟨hw, ao, ca, rfl, hb⟩ := hx
  refine K.enter Try.func32 rfl (Nat.le_of_ble_eq_true rfl) (fun F => ?_)
  (repeat' (first | (apply K.s_pure; (first | (apply Y.mv; exact X.mv) | (apply Y.sg; exact X.sg) | (apply Y.pk; exact X.pk) | (apply Y.fa; exact X.fa) | (apply Y.ld; exact X.ld) | (apply Y.bd; exact X.bd) | (apply Y.nt; exact X.nt) | (apply Y.beql; exact X.beql) | (apply Y.bneq; exact X.bneq)); exact rfl) | refine X.l ?_ | refine X.w ?_ | refine X.a ?_ | (refine K.c_condD rfl (fun hc => ?_) (fun hc => ?_) <;> first | (exfalso; omega) | skip) | refine K.c_cond rfl (fun hc => ?_) (fun hc => ?_) | (refine K.s_guardD rfl rfl (fun hc => ?_) (fun hc => ?_) <;> first | (exfalso; omega) | skip) | refine K.s_guard rfl rfl (fun hc => ?_) (fun hc => ?_)))
  refine K.l_box rfl rfl rfl (fun B => ?_)
  refine K.l_alloc (Fx.zr rfl) rfl rfl (fun B => ?_)
  (repeat' (first | (apply K.s_pure; (first | (apply Y.mv; exact X.mv) | (apply Y.sg; exact X.sg) | (apply Y.pk; exact X.pk) | (apply Y.fa; exact X.fa) | (apply Y.ld; exact X.ld) | (apply Y.bd; exact X.bd) | (apply Y.nt; exact X.nt) | (apply Y.beql; exact X.beql) | (apply Y.bneq; exact X.bneq)); exact rfl) | refine X.l ?_ | refine X.w ?_ | refine X.a ?_ | (refine K.c_condD rfl (fun hc => ?_) (fun hc => ?_) <;> first | (exfalso; omega) | skip) | refine K.c_cond rfl (fun hc => ?_) (fun hc => ?_) | (refine K.s_guardD rfl rfl (fun hc => ?_) (fun hc => ?_) <;> first | (exfalso; omega) | skip) | refine K.s_guard rfl rfl (fun hc => ?_) (fun hc => ?_)))
  refine K.l_callV (Fx.cal rfl) rfl hrt (K.pp [] rfl) rfl rfl ?_
  simp only [List.nil_append]
  rw [undoQ]
  by_cases hq : rightP k o ∧ o.kind ≤ 2
  · rw [if_pos hq, decide_eq_true hq.1]
    have hk12 := hq.1.1
    have hkk := hq.1.2.1
    have hk2 := hq.2
    rcases hk12 with rfl | rfl
    · rcases (by omega : o.kind = 1 ∨ o.kind = 2) with e | e
      · rw [if_neg (by omega), if_pos rfl, if_neg (by decide)]
        (repeat' (first | (apply K.s_pure; (first | (apply Y.mv; exact X.mv) | (apply Y.sg; exact X.sg) | (apply Y.pk; exact X.pk) | (apply Y.fa; exact X.fa) | (apply Y.ld; exact X.ld) | (apply Y.bd; exact X.bd) | (apply Y.nt; exact X.nt) | (apply Y.beql; exact X.beql) | (apply Y.bneq; exact X.bneq)); exact rfl) | refine X.l ?_ | refine X.w ?_ | refine X.a ?_ | (refine K.c_condD rfl (fun hc => ?_) (fun hc => ?_) <;> first | (exfalso; omega) | skip) | refine K.c_cond rfl (fun hc => ?_) (fun hc => ?_) | (refine K.s_guardD rfl rfl (fun hc => ?_) (fun hc => ?_) <;> first | (exfalso; omega) | skip) | refine K.s_guard rfl rfl (fun hc => ?_) (fun hc => ?_)))
        refine K.l_alloc (Fx.zr rfl) rfl rfl (fun B => ?_)
        refine X.stw ?_
        (repeat' (first | (apply K.s_pure; (first | (apply Y.mv; exact X.mv) | (apply Y.sg; exact X.sg) | (apply Y.pk; exact X.pk) | (apply Y.fa; exact X.fa) | (apply Y.ld; exact X.ld) | (apply Y.bd; exact X.bd) | (apply Y.nt; exact X.nt) | (apply Y.beql; exact X.beql) | (apply Y.bneq; exact X.bneq)); exact rfl) | refine X.l ?_ | refine X.w ?_ | refine X.a ?_ | (refine K.c_condD rfl (fun hc => ?_) (fun hc => ?_) <;> first | (exfalso; omega) | skip) | refine K.c_cond rfl (fun hc => ?_) (fun hc => ?_) | (refine K.s_guardD rfl rfl (fun hc => ?_) (fun hc => ?_) <;> first | (exfalso; omega) | skip) | refine K.s_guard rfl rfl (fun hc => ?_) (fun hc => ?_)))
        repeat (first | refine X.sto ?_ | refine X.stw ?_)
        (repeat' (first | (apply K.s_pure; (first | (apply Y.mv; exact X.mv) | (apply Y.sg; exact X.sg) | (apply Y.pk; exact X.pk) | (apply Y.fa; exact X.fa) | (apply Y.ld; exact X.ld) | (apply Y.bd; exact X.bd) | (apply Y.nt; exact X.nt) | (apply Y.beql; exact X.beql) | (apply Y.bneq; exact X.bneq)); exact rfl) | refine X.l ?_ | refine X.w ?_ | refine X.a ?_ | (refine K.c_condD rfl (fun hc => ?_) (fun hc => ?_) <;> first | (exfalso; omega) | skip) | refine K.c_cond rfl (fun hc => ?_) (fun hc => ?_) | (refine K.s_guardD rfl rfl (fun hc => ?_) (fun hc => ?_) <;> first | (exfalso; omega) | skip) | refine K.s_guard rfl rfl (fun hc => ?_) (fun hc => ?_)))
        repeat (first | refine X.sto ?_ | refine X.stw ?_)
        (repeat' (first | (apply K.s_pure; (first | (apply Y.mv; exact X.mv) | (apply Y.sg; exact X.sg) | (apply Y.pk; exact X.pk) | (apply Y.fa; exact X.fa) | (apply Y.ld; exact X.ld) | (apply Y.bd; exact X.bd) | (apply Y.nt; exact X.nt) | (apply Y.beql; exact X.beql) | (apply Y.bneq; exact X.bneq)); exact rfl) | refine X.l ?_ | refine X.w ?_ | refine X.a ?_ | (refine K.c_condD rfl (fun hc => ?_) (fun hc => ?_) <;> first | (exfalso; omega) | skip) | refine K.c_cond rfl (fun hc => ?_) (fun hc => ?_) | (refine K.s_guardD rfl rfl (fun hc => ?_) (fun hc => ?_) <;> first | (exfalso; omega) | skip) | refine K.s_guard rfl rfl (fun hc => ?_) (fun hc => ?_)))
        simp only [List.set_cons_zero, List.set_cons_succ, List.eraseIdx_cons_zero, List.eraseIdx_cons_succ, List.cons_append, List.nil_append]
        refine K.AT.nilBuf 5 1 ?_
        refine K.AT.perm (K.pp [1, 1, 1, 0] rfl) ?_
        simp only [List.set_cons_zero, List.set_cons_succ, List.eraseIdx_cons_zero, List.eraseIdx_cons_succ, List.cons_append, List.nil_append]
        refine K.doneC (by first | exact Or.inl rfl | exact Or.inr rfl) (.cell rfl (Fx.agg rfl) (Fx.sz rfl) (by first | exact K.cels_own (pre := []) (post := []) 0 rfl rfl | exact K.cels_own (pre := []) (post := []) 1 rfl rfl | exact K.cels_own (pre := []) (post := []) 2 rfl rfl | exact K.cels_own (pre := []) (post := []) 3 rfl rfl | exact K.cels_own (pre := []) (post := []) 4 rfl rfl | exact K.cels_own (pre := []) (post := []) 5 rfl rfl) (.tmp rfl .nil)) (by first | exact K.Base.le.refl _ | assumption) (D := [_, _, _]) (H' := [bufA 5 1 none 0 0 []]) rfl ⟨rfl, none, 0, rfl, rfl⟩
      · rw [if_pos e, if_pos rfl, if_neg (by decide)]
        (repeat' (first | (apply K.s_pure; (first | (apply Y.mv; exact X.mv) | (apply Y.sg; exact X.sg) | (apply Y.pk; exact X.pk) | (apply Y.fa; exact X.fa) | (apply Y.ld; exact X.ld) | (apply Y.bd; exact X.bd) | (apply Y.nt; exact X.nt) | (apply Y.beql; exact X.beql) | (apply Y.bneq; exact X.bneq)); exact rfl) | refine X.l ?_ | refine X.w ?_ | refine X.a ?_ | (refine K.c_condD rfl (fun hc => ?_) (fun hc => ?_) <;> first | (exfalso; omega) | skip) | refine K.c_cond rfl (fun hc => ?_) (fun hc => ?_) | (refine K.s_guardD rfl rfl (fun hc => ?_) (fun hc => ?_) <;> first | (exfalso; omega) | skip) | refine K.s_guard rfl rfl (fun hc => ?_) (fun hc => ?_)))
        refine K.l_alloc (Fx.zr rfl) rfl rfl (fun B => ?_)
        refine X.stw ?_
        (repeat' (first | (apply K.s_pure; (first | (apply Y.mv; exact X.mv) | (apply Y.sg; exact X.sg) | (apply Y.pk; exact X.pk) | (apply Y.fa; exact X.fa) | (apply Y.ld; exact X.ld) | (apply Y.bd; exact X.bd) | (apply Y.nt; exact X.nt) | (apply Y.beql; exact X.beql) | (apply Y.bneq; exact X.bneq)); exact rfl) | refine X.l ?_ | refine X.w ?_ | refine X.a ?_ | (refine K.c_condD rfl (fun hc => ?_) (fun hc => ?_) <;> first | (exfalso; omega) | skip) | refine K.c_cond rfl (fun hc => ?_) (fun hc => ?_) | (refine K.s_guardD rfl rfl (fun hc => ?_) (fun hc => ?_) <;> first | (exfalso; omega) | skip) | refine K.s_guard rfl rfl (fun hc => ?_) (fun hc => ?_)))
        repeat (first | refine X.sto ?_ | refine X.stw ?_)
        (repeat' (first | (apply K.s_pure; (first | (apply Y.mv; exact X.mv) | (apply Y.sg; exact X.sg) | (apply Y.pk; exact X.pk) | (apply Y.fa; exact X.fa) | (apply Y.ld; exact X.ld) | (apply Y.bd; exact X.bd) | (apply Y.nt; exact X.nt) | (apply Y.beql; exact X.beql) | (apply Y.bneq; exact X.bneq)); exact rfl) | refine X.l ?_ | refine X.w ?_ | refine X.a ?_ | (refine K.c_condD rfl (fun hc => ?_) (fun hc => ?_) <;> first | (exfalso; omega) | skip) | refine K.c_cond rfl (fun hc => ?_) (fun hc => ?_) | (refine K.s_guardD rfl rfl (fun hc => ?_) (fun hc => ?_) <;> first | (exfalso; omega) | skip) | refine K.s_guard rfl rfl (fun hc => ?_) (fun hc => ?_)))
        repeat (first | refine X.sto ?_ | refine X.stw ?_)
        (repeat' (first | (apply K.s_pure; (first | (apply Y.mv; exact X.mv) | (apply Y.sg; exact X.sg) | (apply Y.pk; exact X.pk) | (apply Y.fa; exact X.fa) | (apply Y.ld; exact X.ld) | (apply Y.bd; exact X.bd) | (apply Y.nt; exact X.nt) | (apply Y.beql; exact X.beql) | (apply Y.bneq; exact X.bneq)); exact rfl) | refine X.l ?_ | refine X.w ?_ | refine X.a ?_ | (refine K.c_condD rfl (fun hc => ?_) (fun hc => ?_) <;> first | (exfalso; omega) | skip) | refine K.c_cond rfl (fun hc => ?_) (fun hc => ?_) | (refine K.s_guardD rfl rfl (fun hc => ?_) (fun hc => ?_) <;> first | (exfalso; omega) | skip) | refine K.s_guard rfl rfl (fun hc => ?_) (fun hc => ?_)))
        repeat (first | refine X.sto ?_ | refine X.stw ?_)
        (repeat' (first | (apply K.s_pure; (first | (apply Y.mv; exact X.mv) | (apply Y.sg; exact X.sg) | (apply Y.pk; exact X.pk) | (apply Y.fa; exact X.fa) | (apply Y.ld; exact X.ld) | (apply Y.bd; exact X.bd) | (apply Y.nt; exact X.nt) | (apply Y.beql; exact X.beql) | (apply Y.bneq; exact X.bneq)); exact rfl) | refine X.l ?_ | refine X.w ?_ | refine X.a ?_ | (refine K.c_condD rfl (fun hc => ?_) (fun hc => ?_) <;> first | (exfalso; omega) | skip) | refine K.c_cond rfl (fun hc => ?_) (fun hc => ?_) | (refine K.s_guardD rfl rfl (fun hc => ?_) (fun hc => ?_) <;> first | (exfalso; omega) | skip) | refine K.s_guard rfl rfl (fun hc => ?_) (fun hc => ?_)))
        simp only [List.set_cons_zero, List.set_cons_succ, List.eraseIdx_cons_zero, List.eraseIdx_cons_succ, List.cons_append, List.nil_append]
        refine K.AT.nilBuf 5 1 ?_
        refine K.AT.perm (K.pp [1, 1, 1, 0] rfl) ?_
        simp only [List.set_cons_zero, List.set_cons_succ, List.eraseIdx_cons_zero, List.eraseIdx_cons_succ, List.cons_append, List.nil_append]
        refine K.doneC (by first | exact Or.inl rfl | exact Or.inr rfl) (.cell rfl (Fx.agg rfl) (Fx.sz rfl) (by first | exact K.cels_own (pre := []) (post := []) 0 rfl rfl | exact K.cels_own (pre := []) (post := []) 1 rfl rfl | exact K.cels_own (pre := []) (post := []) 2 rfl rfl | exact K.cels_own (pre := []) (post := []) 3 rfl rfl | exact K.cels_own (pre := []) (post := []) 4 rfl rfl | exact K.cels_own (pre := []) (post := []) 5 rfl rfl) (.tmp rfl .nil)) (by first | exact K.Base.le.refl _ | assumption) (D := [_, _, _]) (H' := [bufA 5 1 none 0 0 []]) rfl ⟨rfl, none, 0, rfl, rfl⟩
    · have hl180 : o.data.length ≤ 180 := (hq.1.2.2.2.2.2 (by omega)).2
      have hs0 : o.slot = 0 := hq.1.2.2.2.1 rfl
      rcases (by omega : o.kind = 1 ∨ o.kind = 2) with e | e
      · rw [if_neg (by omega), if_neg (by decide), if_pos rfl]
        (repeat' (first | (apply K.s_pure; (first | (apply Y.mv; exact X.mv) | (apply Y.sg; exact X.sg) | (apply Y.pk; exact X.pk) | (apply Y.fa; exact X.fa) | (apply Y.ld; exact X.ld) | (apply Y.bd; exact X.bd) | (apply Y.nt; exact X.nt) | (apply Y.beql; exact X.beql) | (apply Y.bneq; exact X.bneq)); exact rfl) | refine X.l ?_ | refine X.w ?_ | refine X.a ?_ | (refine K.c_condD rfl (fun hc => ?_) (fun hc => ?_) <;> first | (exfalso; omega) | skip) | refine K.c_cond rfl (fun hc => ?_) (fun hc => ?_) | (refine K.s_guardD rfl rfl (fun hc => ?_) (fun hc => ?_) <;> first | (exfalso; omega) | skip) | refine K.s_guard rfl rfl (fun hc => ?_) (fun hc => ?_)))
        refine K.l_alloc (Fx.zr rfl) rfl rfl (fun B => ?_)
        refine X.stw ?_
        (repeat' (first | (apply K.s_pure; (first | (apply Y.mv; exact X.mv) | (apply Y.sg; exact X.sg) | (apply Y.pk; exact X.pk) | (apply Y.fa; exact X.fa) | (apply Y.ld; exact X.ld) | (apply Y.bd; exact X.bd) | (apply Y.nt; exact X.nt) | (apply Y.beql; exact X.beql) | (apply Y.bneq; exact X.bneq)); exact rfl) | refine X.l ?_ | refine X.w ?_ | refine X.a ?_ | (refine K.c_condD rfl (fun hc => ?_) (fun hc => ?_) <;> first | (exfalso; omega) | skip) | refine K.c_cond rfl (fun hc => ?_) (fun hc => ?_) | (refine K.s_guardD rfl rfl (fun hc => ?_) (fun hc => ?_) <;> first | (exfalso; omega) | skip) | refine K.s_guard rfl rfl (fun hc => ?_) (fun hc => ?_)))
        refine K.l_call (Fx.cal rfl) rfl (Copy h _ o.data hb (by omega)) (K.pp [] rfl) rfl ?_
        rintro u h' H' - ⟨e2, a, cap, rfl, rfl⟩
        obtain rfl := e2.symm
        simp only [List.set_cons_zero, List.set_cons_succ, List.eraseIdx_cons_zero, List.eraseIdx_cons_succ, List.cons_append, List.nil_append]
        (repeat' (first | (apply K.s_pure; (first | (apply Y.mv; exact X.mv) | (apply Y.sg; exact X.sg) | (apply Y.pk; exact X.pk) | (apply Y.fa; exact X.fa) | (apply Y.ld; exact X.ld) | (apply Y.bd; exact X.bd) | (apply Y.nt; exact X.nt) | (apply Y.beql; exact X.beql) | (apply Y.bneq; exact X.bneq)); exact rfl) | refine X.l ?_ | refine X.w ?_ | refine X.a ?_ | (refine K.c_condD rfl (fun hc => ?_) (fun hc => ?_) <;> first | (exfalso; omega) | skip) | refine K.c_cond rfl (fun hc => ?_) (fun hc => ?_) | (refine K.s_guardD rfl rfl (fun hc => ?_) (fun hc => ?_) <;> first | (exfalso; omega) | skip) | refine K.s_guard rfl rfl (fun hc => ?_) (fun hc => ?_)))
        repeat (first | refine X.sto ?_ | refine X.stw ?_)
        (repeat' (first | (apply K.s_pure; (first | (apply Y.mv; exact X.mv) | (apply Y.sg; exact X.sg) | (apply Y.pk; exact X.pk) | (apply Y.fa; exact X.fa) | (apply Y.ld; exact X.ld) | (apply Y.bd; exact X.bd) | (apply Y.nt; exact X.nt) | (apply Y.beql; exact X.beql) | (apply Y.bneq; exact X.bneq)); exact rfl) | refine X.l ?_ | refine X.w ?_ | refine X.a ?_ | (refine K.c_condD rfl (fun hc => ?_) (fun hc => ?_) <;> first | (exfalso; omega) | skip) | refine K.c_cond rfl (fun hc => ?_) (fun hc => ?_) | (refine K.s_guardD rfl rfl (fun hc => ?_) (fun hc => ?_) <;> first | (exfalso; omega) | skip) | refine K.s_guard rfl rfl (fun hc => ?_) (fun hc => ?_)))
        repeat (first | refine X.sto ?_ | refine X.stw ?_)
        (repeat' (first | (apply K.s_pure; (first | (apply Y.mv; exact X.mv) | (apply Y.sg; exact X.sg) | (apply Y.pk; exact X.pk) | (apply Y.fa; exact X.fa) | (apply Y.ld; exact X.ld) | (apply Y.bd; exact X.bd) | (apply Y.nt; exact X.nt) | (apply Y.beql; exact X.beql) | (apply Y.bneq; exact X.bneq)); exact rfl) | refine X.l ?_ | refine X.w ?_ | refine X.a ?_ | (refine K.c_condD rfl (fun hc => ?_) (fun hc => ?_) <;> first | (exfalso; omega) | skip) | refine K.c_cond rfl (fun hc => ?_) (fun hc => ?_) | (refine K.s_guardD rfl rfl (fun hc => ?_) (fun hc => ?_) <;> first | (exfalso; omega) | skip) | refine K.s_guard rfl rfl (fun hc => ?_) (fun hc => ?_)))
        simp only [List.set_cons_zero, List.set_cons_succ, List.eraseIdx_cons_zero, List.eraseIdx_cons_succ, List.cons_append, List.nil_append]
        try rw [hs0]
        refine K.AT.perm (K.pp [1, 1, 1, 0] rfl) ?_
        simp only [List.set_cons_zero, List.set_cons_succ, List.eraseIdx_cons_zero, List.eraseIdx_cons_succ, List.cons_append, List.nil_append]
        refine K.doneC (by first | exact Or.inl rfl | exact Or.inr rfl) (.cell rfl (Fx.agg rfl) (Fx.sz rfl) (by first | exact K.cels_own (pre := []) (post := []) 0 rfl rfl | exact K.cels_own (pre := []) (post := []) 1 rfl rfl | exact K.cels_own (pre := []) (post := []) 2 rfl rfl | exact K.cels_own (pre := []) (post := []) 3 rfl rfl | exact K.cels_own (pre := []) (post := []) 4 rfl rfl | exact K.cels_own (pre := []) (post := []) 5 rfl rfl) (.tmp rfl .nil)) (by first | exact K.Base.le.refl _ | assumption) (D := [_, _, _]) (H' := [bufA 5 1 a o.data.length cap (o.data.map u8)]) rfl ⟨rfl, a, cap, rfl, rfl⟩
      · rw [if_pos e, if_neg (by decide), if_pos rfl]
        (repeat' (first | (apply K.s_pure; (first | (apply Y.mv; exact X.mv) | (apply Y.sg; exact X.sg) | (apply Y.pk; exact X.pk) | (apply Y.fa; exact X.fa) | (apply Y.ld; exact X.ld) | (apply Y.bd; exact X.bd) | (apply Y.nt; exact X.nt) | (apply Y.beql; exact X.beql) | (apply Y.bneq; exact X.bneq)); exact rfl) | refine X.l ?_ | refine X.w ?_ | refine X.a ?_ | (refine K.c_condD rfl (fun hc => ?_) (fun hc => ?_) <;> first | (exfalso; omega) | skip) | refine K.c_cond rfl (fun hc => ?_) (fun hc => ?_) | (refine K.s_guardD rfl rfl (fun hc => ?_) (fun hc => ?_) <;> first | (exfalso; omega) | skip) | refine K.s_guard rfl rfl (fun hc => ?_) (fun hc => ?_)))
        refine K.l_alloc (Fx.zr rfl) rfl rfl (fun B => ?_)
        refine X.stw ?_
        (repeat' (first | (apply K.s_pure; (first | (apply Y.mv; exact X.mv) | (apply Y.sg; exact X.sg) | (apply Y.pk; exact X.pk) | (apply Y.fa; exact X.fa) | (apply Y.ld; exact X.ld) | (apply Y.bd; exact X.bd) | (apply Y.nt; exact X.nt) | (apply Y.beql; exact X.beql) | (apply Y.bneq; exact X.bneq)); exact rfl) | refine X.l ?_ | refine X.w ?_ | refine X.a ?_ | (refine K.c_condD rfl (fun hc => ?_) (fun hc => ?_) <;> first | (exfalso; omega) | skip) | refine K.c_cond rfl (fun hc => ?_) (fun hc => ?_) | (refine K.s_guardD rfl rfl (fun hc => ?_) (fun hc => ?_) <;> first | (exfalso; omega) | skip) | refine K.s_guard rfl rfl (fun hc => ?_) (fun hc => ?_)))
        refine X.sto ?_
        (repeat' (first | (apply K.s_pure; (first | (apply Y.mv; exact X.mv) | (apply Y.sg; exact X.sg) | (apply Y.pk; exact X.pk) | (apply Y.fa; exact X.fa) | (apply Y.ld; exact X.ld) | (apply Y.bd; exact X.bd) | (apply Y.nt; exact X.nt) | (apply Y.beql; exact X.beql) | (apply Y.bneq; exact X.bneq)); exact rfl) | refine X.l ?_ | refine X.w ?_ | refine X.a ?_ | (refine K.c_condD rfl (fun hc => ?_) (fun hc => ?_) <;> first | (exfalso; omega) | skip) | refine K.c_cond rfl (fun hc => ?_) (fun hc => ?_) | (refine K.s_guardD rfl rfl (fun hc => ?_) (fun hc => ?_) <;> first | (exfalso; omega) | skip) | refine K.s_guard rfl rfl (fun hc => ?_) (fun hc => ?_)))
        refine K.l_call (Fx.cal rfl) rfl (Copy h _ o.data hb (by omega)) (K.pp [] rfl) rfl ?_
        rintro u h' H' - ⟨e2, a, cap, rfl, rfl⟩
        obtain rfl := e2.symm
        simp only [List.set_cons_zero, List.set_cons_succ, List.eraseIdx_cons_zero, List.eraseIdx_cons_succ, List.cons_append, List.nil_append]
        (repeat' (first | (apply K.s_pure; (first | (apply Y.mv; exact X.mv) | (apply Y.sg; exact X.sg) | (apply Y.pk; exact X.pk) | (apply Y.fa; exact X.fa) | (apply Y.ld; exact X.ld) | (apply Y.bd; exact X.bd) | (apply Y.nt; exact X.nt) | (apply Y.beql; exact X.beql) | (apply Y.bneq; exact X.bneq)); exact rfl) | refine X.l ?_ | refine X.w ?_ | refine X.a ?_ | (refine K.c_condD rfl (fun hc => ?_) (fun hc => ?_) <;> first | (exfalso; omega) | skip) | refine K.c_cond rfl (fun hc => ?_) (fun hc => ?_) | (refine K.s_guardD rfl rfl (fun hc => ?_) (fun hc => ?_) <;> first | (exfalso; omega) | skip) | refine K.s_guard rfl rfl (fun hc => ?_) (fun hc => ?_)))
        repeat (first | refine X.sto ?_ | refine X.stw ?_)
        (repeat' (first | (apply K.s_pure; (first | (apply Y.mv; exact X.mv) | (apply Y.sg; exact X.sg) | (apply Y.pk; exact X.pk) | (apply Y.fa; exact X.fa) | (apply Y.ld; exact X.ld) | (apply Y.bd; exact X.bd) | (apply Y.nt; exact X.nt) | (apply Y.beql; exact X.beql) | (apply Y.bneq; exact X.bneq)); exact rfl) | refine X.l ?_ | refine X.w ?_ | refine X.a ?_ | (refine K.c_condD rfl (fun hc => ?_) (fun hc => ?_) <;> first | (exfalso; omega) | skip) | refine K.c_cond rfl (fun hc => ?_) (fun hc => ?_) | (refine K.s_guardD rfl rfl (fun hc => ?_) (fun hc => ?_) <;> first | (exfalso; omega) | skip) | refine K.s_guard rfl rfl (fun hc => ?_) (fun hc => ?_)))
        repeat (first | refine X.sto ?_ | refine X.stw ?_)
        (repeat' (first | (apply K.s_pure; (first | (apply Y.mv; exact X.mv) | (apply Y.sg; exact X.sg) | (apply Y.pk; exact X.pk) | (apply Y.fa; exact X.fa) | (apply Y.ld; exact X.ld) | (apply Y.bd; exact X.bd) | (apply Y.nt; exact X.nt) | (apply Y.beql; exact X.beql) | (apply Y.bneq; exact X.bneq)); exact rfl) | refine X.l ?_ | refine X.w ?_ | refine X.a ?_ | (refine K.c_condD rfl (fun hc => ?_) (fun hc => ?_) <;> first | (exfalso; omega) | skip) | refine K.c_cond rfl (fun hc => ?_) (fun hc => ?_) | (refine K.s_guardD rfl rfl (fun hc => ?_) (fun hc => ?_) <;> first | (exfalso; omega) | skip) | refine K.s_guard rfl rfl (fun hc => ?_) (fun hc => ?_)))
        simp only [List.set_cons_zero, List.set_cons_succ, List.eraseIdx_cons_zero, List.eraseIdx_cons_succ, List.cons_append, List.nil_append]
        try rw [hs0]
        refine K.AT.perm (K.pp [1, 1, 1, 0] rfl) ?_
        simp only [List.set_cons_zero, List.set_cons_succ, List.eraseIdx_cons_zero, List.eraseIdx_cons_succ, List.cons_append, List.nil_append]
        refine K.doneC (by first | exact Or.inl rfl | exact Or.inr rfl) (.cell rfl (Fx.agg rfl) (Fx.sz rfl) (by first | exact K.cels_own (pre := []) (post := []) 0 rfl rfl | exact K.cels_own (pre := []) (post := []) 1 rfl rfl | exact K.cels_own (pre := []) (post := []) 2 rfl rfl | exact K.cels_own (pre := []) (post := []) 3 rfl rfl | exact K.cels_own (pre := []) (post := []) 4 rfl rfl | exact K.cels_own (pre := []) (post := []) 5 rfl rfl) (.tmp rfl .nil)) (by first | exact K.Base.le.refl _ | assumption) (D := [_, _, _]) (H' := [bufA 5 1 a o.data.length cap (o.data.map u8)]) rfl ⟨rfl, a, cap, rfl, rfl⟩
  · rw [if_neg hq]
    by_cases hr : rightP k o
    · have h2 : ¬ o.kind ≤ 2 := fun e => hq ⟨hr, e⟩
      rw [decide_eq_true hr]
      (repeat' (first | (apply K.s_pure; (first | (apply Y.mv; exact X.mv) | (apply Y.sg; exact X.sg) | (apply Y.pk; exact X.pk) | (apply Y.fa; exact X.fa) | (apply Y.ld; exact X.ld) | (apply Y.bd; exact X.bd) | (apply Y.nt; exact X.nt) | (apply Y.beql; exact X.beql) | (apply Y.bneq; exact X.bneq)); exact rfl) | refine X.l ?_ | refine X.w ?_ | refine X.a ?_ | (refine K.c_condD rfl (fun hc => ?_) (fun hc => ?_) <;> first | (exfalso; omega) | skip) | refine K.c_cond rfl (fun hc => ?_) (fun hc => ?_) | (refine K.s_guardD rfl rfl (fun hc => ?_) (fun hc => ?_) <;> first | (exfalso; omega) | skip) | refine K.s_guard rfl rfl (fun hc => ?_) (fun hc => ?_)))
      all_goals
        refine X.stw ?_
        (repeat' (first | (apply K.s_pure; (first | (apply Y.mv; exact X.mv) | (apply Y.sg; exact X.sg) | (apply Y.pk; exact X.pk) | (apply Y.fa; exact X.fa) | (apply Y.ld; exact X.ld) | (apply Y.bd; exact X.bd) | (apply Y.nt; exact X.nt) | (apply Y.beql; exact X.beql) | (apply Y.bneq; exact X.bneq)); exact rfl) | refine X.l ?_ | refine X.w ?_ | refine X.a ?_ | (refine K.c_condD rfl (fun hc => ?_) (fun hc => ?_) <;> first | (exfalso; omega) | skip) | refine K.c_cond rfl (fun hc => ?_) (fun hc => ?_) | (refine K.s_guardD rfl rfl (fun hc => ?_) (fun hc => ?_) <;> first | (exfalso; omega) | skip) | refine K.s_guard rfl rfl (fun hc => ?_) (fun hc => ?_)))
        refine K.AT.nilBuf 5 1 ?_
        refine K.AT.perm (K.pp [1, 1, 0] rfl) ?_
        simp only [List.set_cons_zero, List.set_cons_succ, List.eraseIdx_cons_zero, List.eraseIdx_cons_succ, List.cons_append, List.nil_append]
        refine K.doneC (by first | exact Or.inl rfl | exact Or.inr rfl) (.cell rfl (Fx.agg rfl) (Fx.sz rfl) (by first | exact K.cels_own (pre := []) (post := []) 0 rfl rfl | exact K.cels_own (pre := []) (post := []) 1 rfl rfl | exact K.cels_own (pre := []) (post := []) 2 rfl rfl | exact K.cels_own (pre := []) (post := []) 3 rfl rfl | exact K.cels_own (pre := []) (post := []) 4 rfl rfl | exact K.cels_own (pre := []) (post := []) 5 rfl rfl) (.tmp rfl .nil)) (by first | exact K.Base.le.refl _ | assumption) (D := [_, _]) (H' := [bufA 5 1 none 0 0 []]) rfl ⟨rfl, none, 0, rfl, rfl⟩
    · rw [decide_eq_false hr]
      (repeat' (first | (apply K.s_pure; (first | (apply Y.mv; exact X.mv) | (apply Y.sg; exact X.sg) | (apply Y.pk; exact X.pk) | (apply Y.fa; exact X.fa) | (apply Y.ld; exact X.ld) | (apply Y.bd; exact X.bd) | (apply Y.nt; exact X.nt) | (apply Y.beql; exact X.beql) | (apply Y.bneq; exact X.bneq)); exact rfl) | refine X.l ?_ | refine X.w ?_ | refine X.a ?_ | (refine K.c_condD rfl (fun hc => ?_) (fun hc => ?_) <;> first | (exfalso; omega) | skip) | refine K.c_cond rfl (fun hc => ?_) (fun hc => ?_) | (refine K.s_guardD rfl rfl (fun hc => ?_) (fun hc => ?_) <;> first | (exfalso; omega) | skip) | refine K.s_guard rfl rfl (fun hc => ?_) (fun hc => ?_)))
      refine X.stw ?_
      (repeat' (first | (apply K.s_pure; (first | (apply Y.mv; exact X.mv) | (apply Y.sg; exact X.sg) | (apply Y.pk; exact X.pk) | (apply Y.fa; exact X.fa) | (apply Y.ld; exact X.ld) | (apply Y.bd; exact X.bd) | (apply Y.nt; exact X.nt) | (apply Y.beql; exact X.beql) | (apply Y.bneq; exact X.bneq)); exact rfl) | refine X.l ?_ | refine X.w ?_ | refine X.a ?_ | (refine K.c_condD rfl (fun hc => ?_) (fun hc => ?_) <;> first | (exfalso; omega) | skip) | refine K.c_cond rfl (fun hc => ?_) (fun hc => ?_) | (refine K.s_guardD rfl rfl (fun hc => ?_) (fun hc => ?_) <;> first | (exfalso; omega) | skip) | refine K.s_guard rfl rfl (fun hc => ?_) (fun hc => ?_)))
      refine K.AT.nilBuf 5 1 ?_
      refine K.AT.perm (K.pp [1, 1, 0] rfl) ?_
      simp only [List.set_cons_zero, List.set_cons_succ, List.eraseIdx_cons_zero, List.eraseIdx_cons_succ, List.cons_append, List.nil_append]
      refine K.doneC (by first | exact Or.inl rfl | exact Or.inr rfl) (.cell rfl (Fx.agg rfl) (Fx.sz rfl) (by first | exact K.cels_own (pre := []) (post := []) 0 rfl rfl | exact K.cels_own (pre := []) (post := []) 1 rfl rfl | exact K.cels_own (pre := []) (post := []) 2 rfl rfl | exact K.cels_own (pre := []) (post := []) 3 rfl rfl | exact K.cels_own (pre := []) (post := []) 4 rfl rfl | exact K.cels_own (pre := []) (post := []) 5 rfl rfl) (.tmp rfl .nil)) (by first | exact K.Base.le.refl _ | assumption) (D := [_, _]) (H' := [bufA 5 1 none 0 0 []]) rfl ⟨rfl, none, 0, rfl, rfl⟩
end Go.Proofs.Ytjgfgpdkcojnmaa.Pg
