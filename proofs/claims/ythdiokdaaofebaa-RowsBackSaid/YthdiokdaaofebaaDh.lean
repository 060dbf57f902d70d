/-
  Rows: what the statements lend, and that the program is awake. Conditions: each theorem's own.
-/
import Derived.Test.YthdiokdaaofebaaDg

namespace Go.Proofs.Ythdiokdaaofebaa.Rw
open Go Go.K Go.Proofs Go.Proofs.Ythdiokdaaofebaa
set_option linter.unusedVariables false
set_option linter.unusedSimpArgs false
set_option maxRecDepth 10000

def markC : Col := ⟨⟨#[]⟩, 77, false⟩
def markV : Val := ⟨77, 0, ⟨#[]⟩⟩
/-- A row in memory of its own, with a mark behind it. -/
def Lent {α : Type} (f : α → List Value) (mark : α) (l : List α) (v : Value) (h' : Base) (H' : List Asrt) : Prop :=
  H' = [] ∧ ∃ ao cap, v = .slice ao l.length cap ∧ l.length + 1 ≤ cap ∧ SL h' 3 (.slice ao (l.length + 1) cap) ((l ++ [mark]).map f)
theorem ones_C (l : List Col) : ∀ e ∈ l.map cC, ones e = true := fun e he => by
  obtain ⟨c, _, rfl⟩ := List.mem_map.1 he
  rfl
theorem ones_V (l : List Val) : ∀ e ∈ l.map cV, ones e = true := fun e he => by
  obtain ⟨c, _, rfl⟩ := List.mem_map.1 he
  rfl
theorem flat_mapC (r : List Col) : ∀ e ∈ r.map cC, e.length = 3 := fun e he => by
  obtain ⟨v, _, rfl⟩ := List.mem_map.1 he
  rfl
theorem lent_cC (h : Base) (v : Value) (l : List Col) (hv : SL h 3 v (l.map cC)) (hl : l.length * 32 ≤ 140737488351232) : Tr Try.prog 10 [v] h [] (Lent cC markC l) := by
  have hlen : (l.map cC).length = l.length := List.length_map ..
  have hlen2 : ((l ++ [markC]).map cC).length = l.length + 1 := by simp
  refine K.enter Try.func10 rfl (Nat.le_of_ble_eq_true rfl) (fun F => ?_)
  simp only [List.nil_append]
  (repeat' (first | (apply K.s_pure; (first | (apply Y.mv; exact X.mv) | (apply Y.sg; exact X.sg) | (apply Y.sl; exact X.sl) | (apply Y.bd; exact X.bd) | (apply Y.len; exact X.len)); exact rfl) | refine X.l ?_ | refine X.w ?_ | refine X.a ?_ | (refine K.c_condD rfl (fun hc => ?_) (fun hc => ?_) <;> first | (exfalso; omega) | skip) | refine K.c_cond rfl (fun hc => ?_) (fun hc => ?_)))
  refine K.l_buildSlice (Fx.und rfl) (Fx.sz rfl) rfl (Fx.zr rfl) rfl rfl rfl rfl rfl (fun B => ?_)
  refine K.WL.bufOf (m := 0) (s := 3) rfl (by unfold maxLen; omega) ?_
  (repeat' (first | (apply K.s_pure; (first | (apply Y.mv; exact X.mv) | (apply Y.sg; exact X.sg) | (apply Y.sl; exact X.sl) | (apply Y.bd; exact X.bd) | (apply Y.len; exact X.len)); exact rfl) | refine X.l ?_ | refine X.w ?_ | refine X.a ?_ | (refine K.c_condD rfl (fun hc => ?_) (fun hc => ?_) <;> first | (exfalso; omega) | skip) | refine K.c_cond rfl (fun hc => ?_) (fun hc => ?_)))
  refine K.l_append_at 0 rfl (Fx.und rfl) (Fx.und rfl) rfl (Fx.sz rfl) (Fx.zr rfl) rfl (Fx.byt rfl) rfl rfl (hv.src (ones_C l)) (by rw [hlen]; omega) (by rw [hlen]; omega) rfl (fun a1 cap1 => ?_)
  simp only [List.set_cons_zero, List.set_cons_succ, List.eraseIdx_cons_zero, List.eraseIdx_cons_succ, List.cons_append, List.nil_append]
  rw [Nat.zero_add, hlen]
  (repeat' (first | (apply K.s_pure; (first | (apply Y.mv; exact X.mv) | (apply Y.sg; exact X.sg) | (apply Y.sl; exact X.sl) | (apply Y.bd; exact X.bd) | (apply Y.len; exact X.len)); exact rfl) | refine X.l ?_ | refine X.w ?_ | refine X.a ?_ | (refine K.c_condD rfl (fun hc => ?_) (fun hc => ?_) <;> first | (exfalso; omega) | skip) | refine K.c_cond rfl (fun hc => ?_) (fun hc => ?_)))
  refine K.l_buildSlice (Fx.und rfl) (Fx.sz rfl) rfl (Fx.zr rfl) rfl rfl rfl (cs := cC markC) rfl rfl (fun B2 => ?_)
  refine K.l_append_at 1 rfl (Fx.und rfl) (Fx.und rfl) rfl (Fx.sz rfl) (Fx.zr rfl) rfl (Fx.byt rfl) rfl rfl (K.src_cells (K.cels_own (pre := []) (cs := cC markC) (post := []) 0 rfl rfl) rfl (by simp [cC, oneCell])) (by omega) (by omega) rfl (fun a2 cap2 => ?_)
  simp only [List.set_cons_zero, List.set_cons_succ, List.eraseIdx_cons_zero, List.eraseIdx_cons_succ, List.cons_append, List.nil_append]
  have e2 : (cellsL [] ++ (l.map cC).flatten) ++ cC markC = ((l ++ [markC]).map cC).flatten := by simp [cellsL]
  rw [e2]
  refine K.WL.perm (K.pp [1] rfl) ?_
  simp only [List.set_cons_zero, List.set_cons_succ, List.eraseIdx_cons_zero, List.eraseIdx_cons_succ, List.cons_append, List.nil_append]
  rw [← hlen2]
  refine K.WL.freezeRow (flat_mapC _) (fun h1 le1 hsl hcap => ?_)
  obtain ⟨b, rfl⟩ : ∃ b, a2 = some b := by
    rcases hsl with ⟨ao', c', e, e'⟩ | ⟨b, o, c', e, _⟩
    · rw [e'] at hlen2; simp at hlen2
    · cases a2 with
      | none => cases e
      | some b => exact ⟨b, rfl⟩
  rw [hlen2] at hsl hcap ⊢
  obtain ⟨ao, ca, rfl⟩ := hv.len
  rw [hlen]
  (repeat' (first | (apply K.s_pure; (first | (apply Y.mv; exact X.mv) | (apply Y.sg; exact X.sg) | (apply Y.sl; exact X.sl) | (apply Y.bd; exact X.bd) | (apply Y.len; exact X.len)); exact rfl) | refine X.l ?_ | refine X.w ?_ | refine X.a ?_ | (refine K.c_condD rfl (fun hc => ?_) (fun hc => ?_) <;> first | (exfalso; omega) | skip) | refine K.c_cond rfl (fun hc => ?_) (fun hc => ?_)))
  refine K.s_pure (K.p_sliceU (q := l.length) (Fx.und rfl) (Fx.sz rfl) rfl rfl rfl (by omega)) rfl ?_
  (repeat' (first | (apply K.s_pure; (first | (apply Y.mv; exact X.mv) | (apply Y.sg; exact X.sg) | (apply Y.sl; exact X.sl) | (apply Y.bd; exact X.bd) | (apply Y.len; exact X.len)); exact rfl) | refine X.l ?_ | refine X.w ?_ | refine X.a ?_ | (refine K.c_condD rfl (fun hc => ?_) (fun hc => ?_) <;> first | (exfalso; omega) | skip) | refine K.c_cond rfl (fun hc => ?_) (fun hc => ?_)))
  refine K.AT.drop ?_
  refine K.done (by first | exact Or.inl rfl | exact Or.inr rfl) rfl le1 (H' := []) rfl ⟨rfl, _, _, rfl, hcap, hsl⟩
theorem lent_cV (h : Base) (v : Value) (l : List Val) (hv : SL h 3 v (l.map cV)) (hl : l.length * 32 ≤ 140737488351232) : Tr Try.prog 13 [v] h [] (Lent cV markV l) := by
  have hlen : (l.map cV).length = l.length := List.length_map ..
  have hlen2 : ((l ++ [markV]).map cV).length = l.length + 1 := by simp
  refine K.enter Try.func13 rfl (Nat.le_of_ble_eq_true rfl) (fun F => ?_)
  simp only [List.nil_append]
  (repeat' (first | (apply K.s_pure; (first | (apply Y.mv; exact X.mv) | (apply Y.sg; exact X.sg) | (apply Y.sl; exact X.sl) | (apply Y.bd; exact X.bd) | (apply Y.len; exact X.len)); exact rfl) | refine X.l ?_ | refine X.w ?_ | refine X.a ?_ | (refine K.c_condD rfl (fun hc => ?_) (fun hc => ?_) <;> first | (exfalso; omega) | skip) | refine K.c_cond rfl (fun hc => ?_) (fun hc => ?_)))
  refine K.l_buildSlice (Fx.und rfl) (Fx.sz rfl) rfl (Fx.zr rfl) rfl rfl rfl rfl rfl (fun B => ?_)
  refine K.WL.bufOf (m := 0) (s := 3) rfl (by unfold maxLen; omega) ?_
  (repeat' (first | (apply K.s_pure; (first | (apply Y.mv; exact X.mv) | (apply Y.sg; exact X.sg) | (apply Y.sl; exact X.sl) | (apply Y.bd; exact X.bd) | (apply Y.len; exact X.len)); exact rfl) | refine X.l ?_ | refine X.w ?_ | refine X.a ?_ | (refine K.c_condD rfl (fun hc => ?_) (fun hc => ?_) <;> first | (exfalso; omega) | skip) | refine K.c_cond rfl (fun hc => ?_) (fun hc => ?_)))
  refine K.l_append_at 0 rfl (Fx.und rfl) (Fx.und rfl) rfl (Fx.sz rfl) (Fx.zr rfl) rfl (Fx.byt rfl) rfl rfl (hv.src (ones_V l)) (by rw [hlen]; omega) (by rw [hlen]; omega) rfl (fun a1 cap1 => ?_)
  simp only [List.set_cons_zero, List.set_cons_succ, List.eraseIdx_cons_zero, List.eraseIdx_cons_succ, List.cons_append, List.nil_append]
  rw [Nat.zero_add, hlen]
  (repeat' (first | (apply K.s_pure; (first | (apply Y.mv; exact X.mv) | (apply Y.sg; exact X.sg) | (apply Y.sl; exact X.sl) | (apply Y.bd; exact X.bd) | (apply Y.len; exact X.len)); exact rfl) | refine X.l ?_ | refine X.w ?_ | refine X.a ?_ | (refine K.c_condD rfl (fun hc => ?_) (fun hc => ?_) <;> first | (exfalso; omega) | skip) | refine K.c_cond rfl (fun hc => ?_) (fun hc => ?_)))
  refine K.l_buildSlice (Fx.und rfl) (Fx.sz rfl) rfl (Fx.zr rfl) rfl rfl rfl (cs := cV markV) rfl rfl (fun B2 => ?_)
  refine K.l_append_at 1 rfl (Fx.und rfl) (Fx.und rfl) rfl (Fx.sz rfl) (Fx.zr rfl) rfl (Fx.byt rfl) rfl rfl (K.src_cells (K.cels_own (pre := []) (cs := cV markV) (post := []) 0 rfl rfl) rfl (by simp [cV, oneCell])) (by omega) (by omega) rfl (fun a2 cap2 => ?_)
  simp only [List.set_cons_zero, List.set_cons_succ, List.eraseIdx_cons_zero, List.eraseIdx_cons_succ, List.cons_append, List.nil_append]
  have e2 : (cellsL [] ++ (l.map cV).flatten) ++ cV markV = ((l ++ [markV]).map cV).flatten := by simp [cellsL]
  rw [e2]
  refine K.WL.perm (K.pp [1] rfl) ?_
  simp only [List.set_cons_zero, List.set_cons_succ, List.eraseIdx_cons_zero, List.eraseIdx_cons_succ, List.cons_append, List.nil_append]
  rw [← hlen2]
  refine K.WL.freezeRow (flat_map _) (fun h1 le1 hsl hcap => ?_)
  obtain ⟨b, rfl⟩ : ∃ b, a2 = some b := by
    rcases hsl with ⟨ao', c', e, e'⟩ | ⟨b, o, c', e, _⟩
    · rw [e'] at hlen2; simp at hlen2
    · cases a2 with
      | none => cases e
      | some b => exact ⟨b, rfl⟩
  rw [hlen2] at hsl hcap ⊢
  obtain ⟨ao, ca, rfl⟩ := hv.len
  rw [hlen]
  (repeat' (first | (apply K.s_pure; (first | (apply Y.mv; exact X.mv) | (apply Y.sg; exact X.sg) | (apply Y.sl; exact X.sl) | (apply Y.bd; exact X.bd) | (apply Y.len; exact X.len)); exact rfl) | refine X.l ?_ | refine X.w ?_ | refine X.a ?_ | (refine K.c_condD rfl (fun hc => ?_) (fun hc => ?_) <;> first | (exfalso; omega) | skip) | refine K.c_cond rfl (fun hc => ?_) (fun hc => ?_)))
  refine K.s_pure (K.p_sliceU (q := l.length) (Fx.und rfl) (Fx.sz rfl) rfl rfl rfl (by omega)) rfl ?_
  (repeat' (first | (apply K.s_pure; (first | (apply Y.mv; exact X.mv) | (apply Y.sg; exact X.sg) | (apply Y.sl; exact X.sl) | (apply Y.bd; exact X.bd) | (apply Y.len; exact X.len)); exact rfl) | refine X.l ?_ | refine X.w ?_ | refine X.a ?_ | (refine K.c_condD rfl (fun hc => ?_) (fun hc => ?_) <;> first | (exfalso; omega) | skip) | refine K.c_cond rfl (fun hc => ?_) (fun hc => ?_)))
  refine K.AT.drop ?_
  refine K.done (by first | exact Or.inl rfl | exact Or.inr rfl) rfl le1 (H' := []) rfl ⟨rfl, _, _, rfl, hcap, hsl⟩

def awC : List Col := [⟨⟨#[97]⟩, 1, false⟩, ⟨⟨#[98]⟩, 2, false⟩, ⟨⟨#[99]⟩, 3, true⟩]
def awV : List Val := [⟨1, 1, ⟨#[]⟩⟩, ⟨2, 0, ⟨#[120]⟩⟩, ⟨3, 1, ⟨#[]⟩⟩]
theorem aw1 : encR awC awV = ([0, 2, 1, 120, 1], 0) := by decide +kernel
theorem aw2 : decP awC [3, 0] = ([zeroV, zeroV, ⟨3, 0, ⟨#[]⟩⟩], 0) := by decide +kernel
theorem wf_of {v : Val} (h : -9223372036854775808 ≤ v.kind ∧ v.kind ≤ 9223372036854775807 ∧ -9223372036854775808 ≤ v.n ∧ v.n ≤ 9223372036854775807 ∧ v.s.size ≤ 9223372036854775807) : wfV v := ⟨h.1, h.2.1, h.2.2.1, h.2.2.2.1, h.2.2.2.2⟩
theorem wfC_of {v : Col} (h : -9223372036854775808 ≤ v.kind ∧ v.kind ≤ 9223372036854775807 ∧ v.name.size ≤ 9223372036854775807) : wfC v := ⟨h.1, h.2.1, h.2.2⟩
theorem awC_wf : ∀ c ∈ awC, wfC c := fun c hc => wfC_of (by revert c; decide +kernel)
theorem awV_wf : ∀ c ∈ awV, wfV c := fun c hc => wf_of (by revert c; decide +kernel)

set_option maxHeartbeats 1000000 in
theorem awake (h : Base) : Tr Try.prog 12 [] h [] (fun v h' H' => v = .bool true ∧ H' = []) := by
  refine K.enter Try.func12 rfl (Nat.le_of_ble_eq_true rfl) (fun F => ?_)
  simp only [List.nil_append]
  (repeat' (first | (apply K.s_pure; (first | (apply Y.mv; exact X.mv) | (apply Y.sg; exact X.sg) | (apply Y.pk; exact X.pk) | (apply Y.ex; exact X.ex) | (apply Y.ld; exact X.ld) | (apply Y.ia; exact X.ia) | (apply Y.bd; exact X.bd) | (apply Y.len; exact X.len) | (apply Y.beql; exact X.beql)); exact rfl) | refine X.l ?_ | refine X.w ?_ | refine X.a ?_ | (refine K.c_condD rfl (fun hc => ?_) (fun hc => ?_) <;> first | (exfalso; omega) | skip) | refine K.c_cond rfl (fun hc => ?_) (fun hc => ?_) | (refine K.s_guardD rfl rfl (fun hc => ?_) (fun hc => ?_) <;> first | (exfalso; omega) | skip) | refine K.s_guard rfl rfl (fun hc => ?_) (fun hc => ?_)))
  refine K.l_buildSlice (Fx.und rfl) (Fx.sz rfl) rfl (Fx.zr rfl) rfl rfl rfl (cs := (awC.map cC).flatten) rfl rfl (fun B => ?_)
  refine K.WL.bufOf (m := 3) (s := 3) rfl (by unfold maxLen; omega) ?_
  refine K.WL.freezeRow (es := awC.map cC) (flat_mapC _) (fun h1 le1 hsc hcap => ?_)
  (repeat' (first | (apply K.s_pure; (first | (apply Y.mv; exact X.mv) | (apply Y.sg; exact X.sg) | (apply Y.pk; exact X.pk) | (apply Y.ex; exact X.ex) | (apply Y.ld; exact X.ld) | (apply Y.ia; exact X.ia) | (apply Y.bd; exact X.bd) | (apply Y.len; exact X.len) | (apply Y.beql; exact X.beql)); exact rfl) | refine X.l ?_ | refine X.w ?_ | refine X.a ?_ | (refine K.c_condD rfl (fun hc => ?_) (fun hc => ?_) <;> first | (exfalso; omega) | skip) | refine K.c_cond rfl (fun hc => ?_) (fun hc => ?_) | (refine K.s_guardD rfl rfl (fun hc => ?_) (fun hc => ?_) <;> first | (exfalso; omega) | skip) | refine K.s_guard rfl rfl (fun hc => ?_) (fun hc => ?_)))
  refine K.l_buildSlice (Fx.und rfl) (Fx.sz rfl) rfl (Fx.zr rfl) rfl rfl rfl (cs := (awV.map cV).flatten) rfl rfl (fun B2 => ?_)
  refine K.WL.bufOf (m := 3) (s := 3) rfl (by unfold maxLen; omega) ?_
  refine K.WL.freezeRow (es := awV.map cV) (flat_map _) (fun h2 le2 hsv hcap2 => ?_)
  have hsc2 := hsc.le le2
  refine K.l_callV (vals := [bufV (some B) 3 3, bufV (some B2) 3 3]) (Fx.cal rfl) rfl (Encode h2 _ _ awC awV hsc2 hsv awC_wf awV_wf (by decide) (by decide)) (K.pp [] rfl) rfl rfl ?_
  rw [aw1]
  (repeat' (first | (apply K.s_pure; (first | (apply Y.mv; exact X.mv) | (apply Y.sg; exact X.sg) | (apply Y.pk; exact X.pk) | (apply Y.ex; exact X.ex) | (apply Y.ld; exact X.ld) | (apply Y.ia; exact X.ia) | (apply Y.bd; exact X.bd) | (apply Y.len; exact X.len) | (apply Y.beql; exact X.beql)); exact rfl) | refine X.l ?_ | refine X.w ?_ | refine X.a ?_ | (refine K.c_condD rfl (fun hc => ?_) (fun hc => ?_) <;> first | (exfalso; omega) | skip) | refine K.c_cond rfl (fun hc => ?_) (fun hc => ?_) | (refine K.s_guardD rfl rfl (fun hc => ?_) (fun hc => ?_) <;> first | (exfalso; omega) | skip) | refine K.s_guard rfl rfl (fun hc => ?_) (fun hc => ?_)))
  refine K.l_call (vals := [bufV (some B) 3 3, .string ⟨#[3, 0]⟩]) (Fx.cal rfl) rfl (Decode h2 _ awC ⟨#[3, 0]⟩ hsc2 awC_wf (by decide) (by decide)) (K.pp [] rfl) rfl ?_
  rintro u h3 H' le3 ⟨a, cap, rfl, rfl⟩
  rw [show decP awC (⟨#[3, 0]⟩ : ByteArray).data.toList = ([zeroV, zeroV, ⟨3, 0, ⟨#[]⟩⟩], 0) from aw2]
  simp only [List.set_cons_zero, List.set_cons_succ, List.eraseIdx_cons_zero, List.eraseIdx_cons_succ, List.cons_append, List.nil_append]
  simp only [List.length_cons, List.length_nil, Nat.zero_add, Nat.reduceAdd]
  (repeat' (first | (apply K.s_pure; (first | (apply Y.mv; exact X.mv) | (apply Y.sg; exact X.sg) | (apply Y.pk; exact X.pk) | (apply Y.ex; exact X.ex) | (apply Y.ld; exact X.ld) | (apply Y.ia; exact X.ia) | (apply Y.bd; exact X.bd) | (apply Y.len; exact X.len) | (apply Y.beql; exact X.beql)); exact rfl) | refine X.l ?_ | refine X.w ?_ | refine X.a ?_ | (refine K.c_condD rfl (fun hc => ?_) (fun hc => ?_) <;> first | (exfalso; omega) | skip) | refine K.c_cond rfl (fun hc => ?_) (fun hc => ?_) | (refine K.s_guardD rfl rfl (fun hc => ?_) (fun hc => ?_) <;> first | (exfalso; omega) | skip) | refine K.s_guard rfl rfl (fun hc => ?_) (fun hc => ?_)))
  simp only [List.set_cons_zero, List.set_cons_succ, List.eraseIdx_cons_zero, List.eraseIdx_cons_succ, List.cons_append, List.nil_append]
  refine K.o_buf (fun _ e _ _ => by simp at e) ?_
  rintro b sp fz rfl g2 g3 g4 g5 g6
  (repeat' (first | (apply K.s_pure; (first | (apply Y.mv; exact X.mv) | (apply Y.sg; exact X.sg) | (apply Y.pk; exact X.pk) | (apply Y.ex; exact X.ex) | (apply Y.ld; exact X.ld) | (apply Y.ia; exact X.ia) | (apply Y.bd; exact X.bd) | (apply Y.len; exact X.len) | (apply Y.beql; exact X.beql)); exact rfl) | refine X.l ?_ | refine X.w ?_ | refine X.a ?_ | (refine K.c_condD rfl (fun hc => ?_) (fun hc => ?_) <;> first | (exfalso; omega) | skip) | refine K.c_cond rfl (fun hc => ?_) (fun hc => ?_) | (refine K.s_guardD rfl rfl (fun hc => ?_) (fun hc => ?_) <;> first | (exfalso; omega) | skip) | refine K.s_guard rfl rfl (fun hc => ?_) (fun hc => ?_)))
  refine K.s_pure (K.p_loadM (Fx.agg rfl) rfl (K.cels_own (pre := cV zeroV ++ cV zeroV) (cs := cV ⟨3, 0, ⟨#[]⟩⟩) (post := sp) 0 rfl rfl) (Fx.sz rfl) rfl) rfl ?_
  (repeat' (first | (apply K.s_pure; (first | (apply Y.mv; exact X.mv) | (apply Y.sg; exact X.sg) | (apply Y.pk; exact X.pk) | (apply Y.ex; exact X.ex) | (apply Y.ld; exact X.ld) | (apply Y.ia; exact X.ia) | (apply Y.bd; exact X.bd) | (apply Y.len; exact X.len) | (apply Y.beql; exact X.beql)); exact rfl) | refine X.l ?_ | refine X.w ?_ | refine X.a ?_ | (refine K.c_condD rfl (fun hc => ?_) (fun hc => ?_) <;> first | (exfalso; omega) | skip) | refine K.c_cond rfl (fun hc => ?_) (fun hc => ?_) | (refine K.s_guardD rfl rfl (fun hc => ?_) (fun hc => ?_) <;> first | (exfalso; omega) | skip) | refine K.s_guard rfl rfl (fun hc => ?_) (fun hc => ?_)))
  refine K.AT.drop ?_
  refine K.done (by first | exact Or.inl rfl | exact Or.inr rfl) rfl ((le1.trans le2).trans le3) (H' := []) rfl ⟨?_, rfl⟩
  simp [packV]
end Go.Proofs.Ythdiokdaaofebaa.Rw
