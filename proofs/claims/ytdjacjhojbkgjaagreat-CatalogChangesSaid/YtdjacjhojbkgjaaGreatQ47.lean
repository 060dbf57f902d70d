/-
  One change: the document's. Conditions: each theorem's own.
-/
import Derived.Test.YtdjacjhojbkgjaaGreatQ46
import Derived.Test.YtdjacjhojbkgjaaGreatQ42
namespace Go.Proofs.YtdjacjhojbkgjaaGreat.Ct
open Go Go.K Go.Proofs Go.Proofs.YtdjacjhojbkgjaaGreat Go.Proofs.YtdjacjhojbkgjaaGreat.Rw
set_option linter.unusedVariables false
set_option linter.unusedSimpArgs false
set_option maxRecDepth 10000

set_option maxHeartbeats 8000000 in
theorem Must (h : Base) (cs : List Value) (s : PSch) (c : PChg) (cc : List Value) (hs : SchC h s cs) (hw : wfS s) (hc : ChgC h c cc) (hwc : wfG c) :
    Tr Tryz.prog 6 [.agg cs.toArray, .agg cc.toArray] h [] (fun u h' H' => H' = [] ∧ ∃ cs', u = .tuple #[.agg cs'.toArray, .int .u32 (doesQ s c).2.1, eV (doesQ s c).2.2] ∧ SchC h' (doesQ s c).1 cs') := by
  obtain ⟨a, k, a2, k2, rfl⟩ := hs.shape
  obtain ⟨vc, vk, rfl, hvc, hvk⟩ := hc
  have hlc : (c.cols.map cC).length = c.cols.length := List.length_map ..
  have hlk : (rowN c.keys).length = c.keys.length := List.length_map ..
  obtain ⟨ac, kc, rfl⟩ := hvc.len
  obtain ⟨ak, kk, rfl⟩ := hvk.len
  rw [hlc] at hvc ⊢
  rw [hlk] at hvk ⊢
  have hcl := hwc.clen
  have hkl := hwc.klen
  refine K.enter Tryz.func6 rfl (Nat.le_of_ble_eq_true rfl) (fun F => ?_)
  simp only [List.nil_append, List.cons_append]
  (repeat' (first | refine X.rq ?_ | (refine X.rc ?_ ?_ <;> intro hc <;> first | (exfalso; omega) | skip)))
  refine K.l_box rfl rfl rfl (fun BS => ?_)
  refine K.l_box rfl rfl rfl (fun BC => ?_)
  refine K.l_alloc (Fx.zr rfl) rfl rfl (fun BR => ?_)
  have fin : ∀ (hb : Base) (E : Env) (H2 : List Asrt) (x y : Value), SchC hb (doesQ s c).1 [x, y] → h.le hb → K.lk E 4 = some (.pointer (some ⟨BR, 0, none⟩)) → K.lk E 5 = some (.int .u32 (doesQ s c).2.1) → K.lk E 6 = some (eV (doesQ s c).2.2) →
      AT Tryz.prog Tryz.f6.ntmps (K.post Tryz.prog Tryz.f6 fun v w' => ∃ h' H', h.le h' ∧ (H' = [] ∧ ∃ cs', v = .tuple #[.agg cs'.toArray, .int .u32 (doesQ s c).2.1, eV (doesQ s c).2.2] ∧ SchC h' (doesQ s c).1 cs') ∧ Ok h' (H' ++ F) w') .ret E hb (blk BR 25 [x, y] :: (H2 ++ F)) := fun hb E H2 x y hsf hle hE hE2 hE3 =>
    K.doneC (.inl rfl) (.cell hE (Fx.agg rfl) (Fx.sz rfl) (K.cels_own (pre := []) (post := []) 0 rfl rfl) (.tmp hE2 (.tmp hE3 .nil))) hle (vs := [.agg [x, y].toArray, .int .u32 (doesQ s c).2.1, eV (doesQ s c).2.2]) (D := blk BR 25 [x, y] :: H2) (H' := []) rfl ⟨rfl, _, rfl, hsf⟩
  unfold doesQ at fin ⊢
  by_cases h0 : c.what.tmod 4 = 0
  · simp only [if_pos h0] at fin ⊢
    (repeat' (first | refine X.rq ?_ | (refine X.rc ?_ ?_ <;> intro hc <;> first | (exfalso; omega) | skip)))
    all_goals first | (exfalso; omega) | skip
    refine K.l_call (Fx.cal rfl) rfl (RAddTable h _ s c.name _ c.cols c.page hs hw hvc hwc.name hwc.cols hwc.clen) (K.pp [] rfl) rfl ?_
    rintro u h4 H' hle4 ⟨rfl, cs', rfl, hsf⟩
    have hsf' := hsf
    obtain ⟨a7, k7, a8, k8, rfl⟩ := hsf.shape
    simp only [List.set_cons_zero, List.set_cons_succ, List.eraseIdx_cons_zero, List.eraseIdx_cons_succ, List.cons_append, List.nil_append]
    generalize addTabQ s c.name c.cols c.page = q at *
    (repeat' (first | refine X.rq ?_ | (refine X.rc ?_ ?_ <;> intro hc <;> first | (exfalso; omega) | skip)))
    refine X.stw ?_
    simp only [List.set_cons_zero, List.set_cons_succ, List.eraseIdx_cons_zero, List.eraseIdx_cons_succ, List.cons_append, List.nil_append]
    (repeat' (first | refine X.rq ?_ | (refine X.rc ?_ ?_ <;> intro hc <;> first | (exfalso; omega) | skip)))
    exact fin h4 _ [_, _] _ _ hsf' hle4 rfl rfl rfl
  simp only [if_neg h0] at fin ⊢
  by_cases h2 : c.what.tmod 4 = 2 ∨ c.what.tmod 4 = -2
  · simp only [if_pos h2] at fin ⊢
    (repeat' (first | refine X.rq ?_ | (refine X.rc ?_ ?_ <;> intro hc <;> first | (exfalso; omega) | skip)))
    all_goals first | (exfalso; omega) | skip
    all_goals
      refine K.l_call (Fx.cal rfl) rfl (RAddIndex h _ s c.name c.table _ c.keys c.uniq c.page hs hw hvk hwc.name hwc.klen) (K.pp [] rfl) rfl ?_
      rintro u h4 H' hle4 ⟨rfl, cs', rfl, hsf⟩
      have hsf' := hsf
      obtain ⟨a7, k7, a8, k8, rfl⟩ := hsf.shape
      simp only [List.set_cons_zero, List.set_cons_succ, List.eraseIdx_cons_zero, List.eraseIdx_cons_succ, List.cons_append, List.nil_append]
      generalize addIdxQ s c.name c.table c.keys c.uniq c.page = q at *
      (repeat' (first | refine X.rq ?_ | (refine X.rc ?_ ?_ <;> intro hc <;> first | (exfalso; omega) | skip)))
      refine X.stw ?_
      simp only [List.set_cons_zero, List.set_cons_succ, List.eraseIdx_cons_zero, List.eraseIdx_cons_succ, List.cons_append, List.nil_append]
      (repeat' (first | refine X.rq ?_ | (refine X.rc ?_ ?_ <;> intro hc <;> first | (exfalso; omega) | skip)))
      exact fin h4 _ [_, _] _ _ hsf' hle4 rfl rfl rfl
  simp only [if_neg h2] at fin ⊢
  by_cases h1 : c.what.tmod 4 = 1 ∨ c.what.tmod 4 = -3
  · simp only [if_pos h1] at fin ⊢
    (repeat' (first | refine X.rq ?_ | (refine X.rc ?_ ?_ <;> intro hc <;> first | (exfalso; omega) | skip)))
    all_goals first | (exfalso; omega) | skip
    all_goals
      refine K.l_call (Fx.cal rfl) rfl (RDropTable h _ s c.name hs hw) (K.pp [] rfl) rfl ?_
      rintro u h4 H' hle4 ⟨rfl, cs', rfl, hsf⟩
      have hsf' := hsf
      obtain ⟨a7, k7, a8, k8, rfl⟩ := hsf.shape
      simp only [List.set_cons_zero, List.set_cons_succ, List.eraseIdx_cons_zero, List.eraseIdx_cons_succ, List.cons_append, List.nil_append]
      generalize dropTabQ s c.name = q at *
      (repeat' (first | refine X.rq ?_ | (refine X.rc ?_ ?_ <;> intro hc <;> first | (exfalso; omega) | skip)))
      refine K.l_alloc (Fx.zr rfl) rfl rfl (fun B10 => ?_)
      refine X.stw ?_
      simp only [List.set_cons_zero, List.set_cons_succ, List.eraseIdx_cons_zero, List.eraseIdx_cons_succ, List.cons_append, List.nil_append]
      (repeat' (first | refine X.rq ?_ | (refine X.rc ?_ ?_ <;> intro hc <;> first | (exfalso; omega) | skip)))
      refine K.WL.perm (K.pp [1, 0] rfl) ?_
      refine X.stw ?_
      simp only [List.set_cons_zero, List.set_cons_succ, List.eraseIdx_cons_zero, List.eraseIdx_cons_succ, List.cons_append, List.nil_append]
      (repeat' (first | refine X.rq ?_ | (refine X.rc ?_ ?_ <;> intro hc <;> first | (exfalso; omega) | skip)))
      exact fin h4 _ [_, _, _] _ _ hsf' hle4 rfl rfl rfl
  simp only [if_neg h1] at fin ⊢
  (repeat' (first | refine X.rq ?_ | (refine X.rc ?_ ?_ <;> intro hc <;> first | (exfalso; omega) | skip)))
  all_goals first | (exfalso; omega) | skip
  all_goals
    refine K.l_call (Fx.cal rfl) rfl (RDropIndex h _ s c.name hs hw) (K.pp [] rfl) rfl ?_
    rintro u h4 H' hle4 ⟨rfl, cs', rfl, hsf⟩
    have hsf' := hsf
    obtain ⟨a7, k7, a8, k8, rfl⟩ := hsf.shape
    simp only [List.set_cons_zero, List.set_cons_succ, List.eraseIdx_cons_zero, List.eraseIdx_cons_succ, List.cons_append, List.nil_append]
    generalize dropIdxQ s c.name = q at *
    (repeat' (first | refine X.rq ?_ | (refine X.rc ?_ ?_ <;> intro hc <;> first | (exfalso; omega) | skip)))
    refine K.l_alloc (Fx.zr rfl) rfl rfl (fun B10 => ?_)
    refine X.stw ?_
    simp only [List.set_cons_zero, List.set_cons_succ, List.eraseIdx_cons_zero, List.eraseIdx_cons_succ, List.cons_append, List.nil_append]
    (repeat' (first | refine X.rq ?_ | (refine X.rc ?_ ?_ <;> intro hc <;> first | (exfalso; omega) | skip)))
    refine K.WL.perm (K.pp [1, 0] rfl) ?_
    refine X.stw ?_
    simp only [List.set_cons_zero, List.set_cons_succ, List.eraseIdx_cons_zero, List.eraseIdx_cons_succ, List.cons_append, List.nil_append]
    (repeat' (first | refine X.rq ?_ | (refine X.rc ?_ ?_ <;> intro hc <;> first | (exfalso; omega) | skip)))
    exact fin h4 _ [_, _, _] _ _ hsf' hle4 rfl rfl rfl
end Go.Proofs.YtdjacjhojbkgjaaGreat.Ct
