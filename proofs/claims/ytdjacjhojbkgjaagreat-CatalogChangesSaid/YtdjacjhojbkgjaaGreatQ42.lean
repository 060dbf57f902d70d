/-
  Texts joined: Wm Rv. Conditions: each theorem's own.
-/
import Derived.Test.YtdjacjhojbkgjaaGreatQ35
import Derived.Test.YtdjacjhojbkgjaaGreatQ41
import Derived.Test.YtdjacjhojbkgjaaGreatQ26
section
namespace Go.Proofs.YtdjacjhojbkgjaaGreat.Ct
open Go Go.K Go.Proofs Go.Proofs.YtdjacjhojbkgjaaGreat Go.Proofs.YtdjacjhojbkgjaaGreat.Rw
set_option linter.unusedVariables false
set_option linter.unusedSimpArgs false
set_option maxRecDepth 10000

def cChg (c : PChg) (vc vk : Value) : List Value := [.int .i64 c.what, .string c.name, .string c.table, vc, vk, .bool c.uniq, .int .u32 c.page]
def ChgC (h : Base) (c : PChg) (cc : List Value) : Prop := ∃ vc vk, cc = cChg c vc vk ∧ SL h 3 vc (c.cols.map cC) ∧ SL h 1 vk (rowN c.keys)
theorem ChgC.le {h h' : Base} {c : PChg} {cc : List Value} (hc : ChgC h c cc) (hle : h.le h') : ChgC h' c cc := by
  obtain ⟨vc, vk, e, h1, h2⟩ := hc
  exact ⟨vc, vk, e, h1.le hle, h2.le hle⟩
set_option maxHeartbeats 8000000 in
theorem Does (h : Base) (cs : List Value) (s : PSch) (c : PChg) (cc : List Value) (hs : SchC h s cs) (hw : wfS s) (hc : ChgC h c cc) (hwc : wfG c) :
    Tr Tryz.prog 5 [.agg cs.toArray, .agg cc.toArray] h [] (fun u h' H' => H' = [] ∧ ∃ cs', u = .tuple #[.agg cs'.toArray, .int .u32 (doesQ s c).2.1, eV (doesQ s c).2.2] ∧ SchF h h' (doesQ s c).1 cs') := by
  obtain ⟨a, k, a2, k2, rfl⟩ := hs.form
  obtain ⟨vc, vk, rfl, hvc, hvk⟩ := hc
  have hlc : (c.cols.map cC).length = c.cols.length := List.length_map ..
  have hlk : (rowN c.keys).length = c.keys.length := List.length_map ..
  have hsrc : ∀ KK, Src Tryz.prog h KK 3 vc c.cols.length (c.cols.map cC).flatten := fun KK => by
    have := K.SL.src (P := Tryz.prog) (K := KK) hvc (fun e he => by
      obtain ⟨x, _, rfl⟩ := List.mem_map.1 he
      rfl)
    rwa [hlc] at this
  have hsrk : ∀ hb KK, h.le hb → Src Tryz.prog hb KK 1 vk c.keys.length (rowN c.keys).flatten := fun hb KK hle => by
    have := K.SL.src (P := Tryz.prog) (K := KK) (hvk.le hle) (fun e he => by
      obtain ⟨x, _, rfl⟩ := List.mem_map.1 he
      rfl)
    rwa [hlk] at this
  obtain ⟨ac, kc, rfl⟩ := hvc.len
  obtain ⟨ak, kk, rfl⟩ := hvk.len
  rw [hlc] at hvc hsrc ⊢
  rw [hlk] at hvk hsrk ⊢
  have hcl := hwc.clen
  have hkl := hwc.klen
  refine K.enter Tryz.func5 rfl (Nat.le_of_ble_eq_true rfl) (fun F => ?_)
  simp only [List.nil_append, List.cons_append]
  (repeat' (first | refine X.rq ?_ | (refine X.rc ?_ ?_ <;> intro hc <;> first | (exfalso; omega) | skip)))
  refine K.l_box rfl rfl rfl (fun BS => ?_)
  refine K.l_box rfl rfl rfl (fun BC => ?_)
  refine K.l_alloc (Fx.zr rfl) rfl rfl (fun BR => ?_)
  (repeat' (first | refine X.rq ?_ | (refine X.rc ?_ ?_ <;> intro hc <;> first | (exfalso; omega) | skip)))
  refine K.l_buildSlice (Fx.und rfl) (Fx.sz rfl) rfl (Fx.zr rfl) rfl rfl rfl rfl rfl (fun B => ?_)
  refine K.WL.bufOf (m := 0) (s := 3) rfl (by unfold maxLen; omega) ?_
  (repeat' (first | refine X.rq ?_ | (refine X.rc ?_ ?_ <;> intro hc <;> first | (exfalso; omega) | skip)))
  refine K.l_append_at 0 rfl (Fx.und rfl) (Fx.und rfl) rfl (Fx.sz rfl) (Fx.zr rfl) rfl (Fx.byt rfl) rfl rfl (hsrc _) (by omega) (by omega) rfl (fun a1 k1 => ?_)
  simp only [List.set_cons_zero, List.set_cons_succ, List.eraseIdx_cons_zero, List.eraseIdx_cons_succ, List.cons_append, List.nil_append]
  simp only [Nat.zero_add, cellsL, List.nil_append]
  rw [← hlc]
  refine K.WL.freezeRow (three _) (fun h2 hle2 hs2 _ => ?_)
  rw [hlc] at hs2 ⊢
  (repeat' (first | refine X.rq ?_ | (refine X.rc ?_ ?_ <;> intro hc <;> first | (exfalso; omega) | skip)))
  refine K.l_buildSlice (Fx.und rfl) (Fx.sz rfl) rfl (Fx.zr rfl) rfl rfl rfl rfl rfl (fun BK => ?_)
  refine K.WL.bufOf (m := 0) (s := 1) rfl (by unfold maxLen; omega) ?_
  (repeat' (first | refine X.rq ?_ | (refine X.rc ?_ ?_ <;> intro hc <;> first | (exfalso; omega) | skip)))
  refine K.l_append_at 0 rfl (Fx.und rfl) (Fx.und rfl) rfl (Fx.sz rfl) (Fx.zr rfl) rfl (Fx.byt rfl) rfl rfl (hsrk _ _ hle2) (by omega) (by omega) rfl (fun a5 k5 => ?_)
  simp only [List.set_cons_zero, List.set_cons_succ, List.eraseIdx_cons_zero, List.eraseIdx_cons_succ, List.cons_append, List.nil_append]
  simp only [Nat.zero_add, cellsL, List.nil_append]
  rw [← hlk]
  refine K.WL.freezeRow (oneN _) (fun h3 hle3 hs3 _ => ?_)
  rw [hlk] at hs3 ⊢
  replace hs2 := hs2.le hle3
  have hle := hle2.trans hle3
  replace hs := hs.le hle
  clear hle2 hle3 hsrc hsrk
  have fin : ∀ (hb : Base) (E : Env) (H2 : List Asrt) (x y : Value), SchF h hb (doesQ s c).1 [x, y] → h.le hb → K.lk E 4 = some (.pointer (some ⟨BR, 0, none⟩)) → K.lk E 5 = some (.int .u32 (doesQ s c).2.1) → K.lk E 6 = some (eV (doesQ s c).2.2) →
      AT Tryz.prog Tryz.f5.ntmps (K.post Tryz.prog Tryz.f5 fun v w' => ∃ h' H', h.le h' ∧ (H' = [] ∧ ∃ cs', v = .tuple #[.agg cs'.toArray, .int .u32 (doesQ s c).2.1, eV (doesQ s c).2.2] ∧ SchF h h' (doesQ s c).1 cs') ∧ Ok h' (H' ++ F) w') .ret E hb (blk BR 25 [x, y] :: (H2 ++ F)) := fun hb E H2 x y hsf hle hE hE2 hE3 =>
    K.doneC (.inl rfl) (.cell hE (Fx.agg rfl) (Fx.sz rfl) (K.cels_own (pre := []) (post := []) 0 rfl rfl) (.tmp hE2 (.tmp hE3 .nil))) hle (vs := [.agg [x, y].toArray, .int .u32 (doesQ s c).2.1, eV (doesQ s c).2.2]) (D := blk BR 25 [x, y] :: H2) (H' := []) rfl ⟨rfl, _, rfl, hsf⟩
  unfold doesQ at fin ⊢
  by_cases h0 : c.what.tmod 4 = 0
  · simp only [if_pos h0] at fin ⊢
    (repeat' (first | refine X.rq ?_ | (refine X.rc ?_ ?_ <;> intro hc <;> first | (exfalso; omega) | skip)))
    all_goals first | (exfalso; omega) | skip
    refine K.l_call (Fx.cal rfl) rfl (AddTable h3 _ s c.name _ c.cols c.page hs hw hs2 hwc.name hwc.cols hwc.clen) (K.pp [] rfl) rfl ?_
    rintro u h4 H' hle4 ⟨rfl, cs', rfl, hsf⟩
    have hsf' := hsf.le hle (K.Base.le.refl _)
    obtain ⟨a7, k7, a8, k8, rfl⟩ := hsf.c.form
    simp only [List.set_cons_zero, List.set_cons_succ, List.eraseIdx_cons_zero, List.eraseIdx_cons_succ, List.cons_append, List.nil_append]
    generalize addTabQ s c.name c.cols c.page = q at *
    (repeat' (first | refine X.rq ?_ | (refine X.rc ?_ ?_ <;> intro hc <;> first | (exfalso; omega) | skip)))
    refine X.stw ?_
    simp only [List.set_cons_zero, List.set_cons_succ, List.eraseIdx_cons_zero, List.eraseIdx_cons_succ, List.cons_append, List.nil_append]
    (repeat' (first | refine X.rq ?_ | (refine X.rc ?_ ?_ <;> intro hc <;> first | (exfalso; omega) | skip)))
    exact fin h4 _ [_, _] _ _ hsf' (hle.trans hle4) rfl rfl rfl
  simp only [if_neg h0] at fin ⊢
  by_cases h2 : c.what.tmod 4 = 2 ∨ c.what.tmod 4 = -2
  · simp only [if_pos h2] at fin ⊢
    (repeat' (first | refine X.rq ?_ | (refine X.rc ?_ ?_ <;> intro hc <;> first | (exfalso; omega) | skip)))
    all_goals first | (exfalso; omega) | skip
    all_goals
      refine K.l_call (Fx.cal rfl) rfl (AddIndex h3 _ s c.name c.table _ c.keys c.uniq c.page hs hw hs3 hwc.name hwc.klen) (K.pp [] rfl) rfl ?_
      rintro u h4 H' hle4 ⟨rfl, cs', rfl, hsf⟩
      have hsf' := hsf.le hle (K.Base.le.refl _)
      obtain ⟨a7, k7, a8, k8, rfl⟩ := hsf.c.form
      simp only [List.set_cons_zero, List.set_cons_succ, List.eraseIdx_cons_zero, List.eraseIdx_cons_succ, List.cons_append, List.nil_append]
      generalize addIdxQ s c.name c.table c.keys c.uniq c.page = q at *
      (repeat' (first | refine X.rq ?_ | (refine X.rc ?_ ?_ <;> intro hc <;> first | (exfalso; omega) | skip)))
      refine X.stw ?_
      simp only [List.set_cons_zero, List.set_cons_succ, List.eraseIdx_cons_zero, List.eraseIdx_cons_succ, List.cons_append, List.nil_append]
      (repeat' (first | refine X.rq ?_ | (refine X.rc ?_ ?_ <;> intro hc <;> first | (exfalso; omega) | skip)))
      exact fin h4 _ [_, _] _ _ hsf' (hle.trans hle4) rfl rfl rfl
  simp only [if_neg h2] at fin ⊢
  by_cases h1 : c.what.tmod 4 = 1 ∨ c.what.tmod 4 = -3
  · simp only [if_pos h1] at fin ⊢
    (repeat' (first | refine X.rq ?_ | (refine X.rc ?_ ?_ <;> intro hc <;> first | (exfalso; omega) | skip)))
    all_goals first | (exfalso; omega) | skip
    all_goals
      refine K.l_call (Fx.cal rfl) rfl (DropTable h3 _ s c.name hs hw) (K.pp [] rfl) rfl ?_
      rintro u h4 H' hle4 ⟨rfl, cs', rfl, hsf⟩
      have hsf' := hsf.le hle (K.Base.le.refl _)
      obtain ⟨a7, k7, a8, k8, rfl⟩ := hsf.c.form
      simp only [List.set_cons_zero, List.set_cons_succ, List.eraseIdx_cons_zero, List.eraseIdx_cons_succ, List.cons_append, List.nil_append]
      generalize dropTabQ s c.name = q at *
      (repeat' (first | refine X.rq ?_ | (refine X.rc ?_ ?_ <;> intro hc <;> first | (exfalso; omega) | skip)))
      refine K.l_alloc (Fx.zr rfl) rfl rfl (fun B10 => ?_)
      refine X.stw ?_
      simp only [List.set_cons_zero, List.set_cons_succ, List.eraseIdx_cons_zero, List.eraseIdx_cons_succ, List.cons_append, List.nil_append]
      (repeat' (first | refine X.rq ?_ | (refine X.rc ?_ ?_ <;> intro hc <;> first | (exfalso; omega) | skip)))
      refine K.WL.perm (K.pp [1, 0] rfl) ?_
      refine X.stw ?_
      simp only [List.set_cons_zero, List.set_cons_succ, List.eraseIdx_cons_zero, List.eraseIdx_cons_succ, List.cons_append, List.nil_append]
      (repeat' (first | refine X.rq ?_ | (refine X.rc ?_ ?_ <;> intro hc <;> first | (exfalso; omega) | skip)))
      exact fin h4 _ [_, _, _] _ _ hsf' (hle.trans hle4) rfl rfl rfl
  simp only [if_neg h1] at fin ⊢
  (repeat' (first | refine X.rq ?_ | (refine X.rc ?_ ?_ <;> intro hc <;> first | (exfalso; omega) | skip)))
  all_goals first | (exfalso; omega) | skip
  all_goals
    refine K.l_call (Fx.cal rfl) rfl (DropIndex h3 _ s c.name hs hw) (K.pp [] rfl) rfl ?_
    rintro u h4 H' hle4 ⟨rfl, cs', rfl, hsf⟩
    have hsf' := hsf.le hle (K.Base.le.refl _)
    obtain ⟨a7, k7, a8, k8, rfl⟩ := hsf.c.form
    simp only [List.set_cons_zero, List.set_cons_succ, List.eraseIdx_cons_zero, List.eraseIdx_cons_succ, List.cons_append, List.nil_append]
    generalize dropIdxQ s c.name = q at *
    (repeat' (first | refine X.rq ?_ | (refine X.rc ?_ ?_ <;> intro hc <;> first | (exfalso; omega) | skip)))
    refine K.l_alloc (Fx.zr rfl) rfl rfl (fun B10 => ?_)
    refine X.stw ?_
    simp only [List.set_cons_zero, List.set_cons_succ, List.eraseIdx_cons_zero, List.eraseIdx_cons_succ, List.cons_append, List.nil_append]
    (repeat' (first | refine X.rq ?_ | (refine X.rc ?_ ?_ <;> intro hc <;> first | (exfalso; omega) | skip)))
    refine K.WL.perm (K.pp [1, 0] rfl) ?_
    refine X.stw ?_
    simp only [List.set_cons_zero, List.set_cons_succ, List.eraseIdx_cons_zero, List.eraseIdx_cons_succ, List.cons_append, List.nil_append]
    (repeat' (first | refine X.rq ?_ | (refine X.rc ?_ ?_ <;> intro hc <;> first | (exfalso; omega) | skip)))
    exact fin h4 _ [_, _, _] _ _ hsf' (hle.trans hle4) rfl rfl rfl
end Go.Proofs.YtdjacjhojbkgjaaGreat.Ct
end

section
namespace Go.Proofs.YtdjacjhojbkgjaaGreat.Rd
open Go Go.K Go.Proofs Go.Proofs.YtdjacjhojbkgjaaGreat Go.Proofs.YtdjacjhojbkgjaaGreat.Rw Go.Proofs.YtdjacjhojbkgjaaGreat.Ct
open Go.ChangeShapes Go.WideShapes Go.ChangeAt Go.RowKit
set_option linter.unusedVariables false
set_option linter.unusedSimpArgs false
set_option maxRecDepth 10000

section
variable {H : Type} {enc : TypeId × Value → H} {P : Program} {W : World} {base : Nat} {spare : Nat → Bool} {held : Bool}
theorem chg_upto (cs : List Value) (n : Nat) (y : DataW H × List MemPlace) (h : DataW.trod enc Tryz.prog W base spare held n 30 cs = some y) (hR : Upto Tryz.prog 30 y.1) : ∃ t : PChg, ChgC (Base.of W) t cs ∧ wfG t := by
  obtain ⟨xs, k, rfl, rfl, hl, hlen, hf⟩ := DataW.trod_struct Tryz.underlying30 h
  have hl4 : cs.length = 7 := hl.trans (by kernel_rfl)
  have c0 : Tryz.prog.cellsOf 3 = 1 := by kernel_rfl
  have c1 : Tryz.prog.cellsOf 9 = 1 := by kernel_rfl
  have c2 : Tryz.prog.cellsOf 26 = 1 := by kernel_rfl
  have c3 : Tryz.prog.cellsOf 27 = 1 := by kernel_rfl
  have c4 : Tryz.prog.cellsOf 4 = 1 := by kernel_rfl
  have c5 : Tryz.prog.cellsOf 28 = 1 := by kernel_rfl
  match cs, hl4, xs, hlen with
  | [v0, v1, v2, v3, v4, v5, v6], _, [x0, x1, x2, x3, x4, x5, x6], _ =>
    have f0 := hf 0 _ rfl
    have f1 := hf 1 _ rfl
    have f2 := hf 2 _ rfl
    have f3 := hf 3 _ rfl
    have f4 := hf 4 _ rfl
    have f5 := hf 5 _ rfl
    have f6 := hf 6 _ rfl
    clear hf h
    simp [c0, c1, c2, c3, c4, c5] at f0 f1 f2 f3 f4 f5 f6
    obtain ⟨l3, h31, h32, h33⟩ := colsU f3 (upto_field (i := 3) (d := x3.1) Tryz.underlying30 hR rfl rfl)
    obtain ⟨l4, h41, h42, h43⟩ := numsU f4 (upto_field (i := 4) (d := x4.1) Tryz.underlying30 hR rfl rfl)
    obtain ⟨n0, e0, _, w0⟩ := DataW.trod_int Tryz.underlying3 f0
    obtain ⟨s1, e1, _, w1⟩ := DataW.trod_string Tryz.underlying9 f1
    obtain ⟨s2, e2, _, w2⟩ := DataW.trod_string Tryz.underlying9 f2
    obtain ⟨b5, e5, _⟩ := DataW.trod_bool Tryz.underlying4 f5
    obtain ⟨n6, e6, _, w6⟩ := DataW.trod_int Tryz.underlying28 f6
    simp at e0 e1 e2 e5 e6
    subst e0 e1 e2 e5 e6
    have b0 := bounds_i64 w0
    have b6 := bounds_u32 w6
    exact ⟨⟨n0, s1, s2, l3, l4, b5, n6.toNat⟩, ⟨v3, v4, by simp only [cChg]; rw [Int.toNat_of_nonneg b6.1], h31, h41⟩, ⟨b0.1, b0.2⟩, w1, w2, h32, h33, h42, h43, by show n6.toNat < _; omega⟩
theorem chg_val {fuel : Nat} {x : DataW H × List MemPlace} {v : Value} {w : World} {r : Reach} {b0 : Nat} (hval : Value.okWide Tryz.prog w r b0 30 v)
    (h : DataW.trod enc Tryz.prog W base spare held fuel 30 v.cells.toList = some x) (hR : Upto Tryz.prog 30 x.1) : ∃ cs c, v = .agg (cs : List Value).toArray ∧ ChgC (Base.of W) c cs ∧ wfG c := by
  obtain ⟨cs, rfl, -⟩ := okWide_struct Tryz.underlying30 hval
  obtain ⟨s, hs⟩ := chg_upto _ _ _ h hR
  exact ⟨_, s, rfl, hs⟩
end
end Go.Proofs.YtdjacjhojbkgjaaGreat.Rd
end
