/-
  CatalogChanges. Conditions: each theorem's own.
-/
import Derived.Test.YtdjacjhojbkgjaaGreatQ47
import Derived.Test.YtdjacjhojbkgjaaGreatQ41
namespace Go.Proofs.YtdjacjhojbkgjaaGreat.Ct
open Go Go.K Go.Proofs Go.Proofs.YtdjacjhojbkgjaaGreat Go.Proofs.YtdjacjhojbkgjaaGreat.Rw
set_option linter.unusedVariables false
set_option linter.unusedSimpArgs false
set_option maxRecDepth 10000

theorem cel_obj {h : Base} {b o : Nat} {u : Value} (hw : ∃ w, Sat h [] w) (hc : Cel h [] b o u) : ∃ arr T fz, h.mem b = some (.cells arr T fz) ∧ arr[o]? = some u := by
  obtain ⟨w, hs⟩ := hw
  have h1 := hc.run w hs
  have hob : ∃ arr T fz, w.heap[b]? = some (.cells arr T fz) ∧ arr[o]? = some u := by
    unfold World.cell? at h1
    simp only at h1
    split at h1
    · rename_i arr T fz hh
      exact ⟨arr, T, fz, hh, by simpa using h1⟩
    · cases h1
  obtain ⟨arr, T, fz, hh, ha⟩ := hob
  cases hm : h.mem b with
  | some ob =>
    have := hs.imm b ob hm
    rw [hh] at this
    cases this
    exact ⟨arr, T, fz, rfl, ha⟩
  | none =>
    exfalso
    obtain ⟨u', hne⟩ : ∃ u', u' ≠ u := by
      by_cases e : u = .bool true
      · exact ⟨.bool false, by rw [e]; intro x; cases x⟩
      · exact ⟨.bool true, fun x => e x.symm⟩
    have hs2 : Sat h [] (w.setCell ⟨b, o, none⟩ u') := ⟨fun x ob hx => by
      have hxb : x ≠ b := fun e => by rw [e, hm] at hx; cases hx
      rw [RowKit.Below.heap_setCell _ _ _ _ hxb]
      exact hs.imm x ob hx, fun A hA => by cases hA⟩
    have h2 := hc.run _ hs2
    have h3 : (w.setCell ⟨b, o, none⟩ u').cell? ⟨b, o, none⟩ = some u' := by
      have hlt := (Array.getElem?_eq_some_iff.1 ha).1
      simp [World.cell?, World.setCell, Array.getElem?_modify, hh, hlt]
    rw [h3] at h2
    exact hne (by simpa using h2)
theorem cel_thaw {h h' : Base} {L : List Nat} {b o : Nat} {u : Value} (hle : h.le h') (hw : ∃ w, Sat h' [] w) (hL : ∀ b arr T fz, h.mem b = none → h'.mem b = some (.cells arr T fz) → b ∈ L) (hc : Cel h' [] b o u) (g : Nat → List Value) (hg : Cmp2 h' L g) (KK : List Asrt) :
    ∃ u', Cel h (spA h' L g :: KK) b o u' ∧ cmp2 u u' := by
  obtain ⟨arr, T, fz, hm, ha⟩ := cel_obj hw hc
  cases hb : h.mem b with
  | none =>
    have hbL := hL b arr T fz hb hm
    obtain ⟨u', h1, h2⟩ := (hg b hbL arr T fz hm).2 o u ha
    exact ⟨u', K.cel_sp 0 rfl hbL h1, h2⟩
  | some ob =>
    have := hle.mem _ _ hb
    rw [hm] at this
    cases this
    exact ⟨u, K.cel_mem (cs := arr.toList) (by simpa using hb) (by simpa using ha), .inl rfl⟩
set_option maxHeartbeats 8000000 in
theorem CatalogChangesW (h : Base) (cs : List Value) (s : PSch) (cc : List Value) (c : PChg) (hs : SchC h s cs) (hw : wfS s) (hc : ChgC h c cc) (hwc : wfG c) :
    Tr Tryz.prog 3 [.agg cs.toArray, .agg cc.toArray] h [] (fun u h' H' => u = .bool true ∧ H' = []) := by
  obtain ⟨a, k, a2, k2, rfl⟩ := hs.form
  have hdlt := does_lt hw hwc
  obtain ⟨vc, vk, rfl, hvc, hvk⟩ := id hc
  obtain ⟨ac, kc, rfl⟩ := hvc.len
  obtain ⟨ak, kk, rfl⟩ := hvk.len
  refine K.enter Tryz.func3 rfl (Nat.le_of_ble_eq_true rfl) (fun F => ?_)
  simp only [List.nil_append, List.cons_append]
  (repeat' (first | refine X.rq ?_ | (refine X.rc ?_ ?_ <;> intro hc <;> first | (exfalso; omega) | skip)))
  refine K.l_box rfl rfl rfl (fun B2 => ?_)
  refine K.l_box rfl rfl rfl (fun B3 => ?_)
  (repeat' (first | refine X.rq ?_ | (refine X.rc ?_ ?_ <;> intro hc <;> first | (exfalso; omega) | skip)))
  refine K.l_call (Fx.cal rfl) rfl (RCopy h _ s hs hw) (K.pp [] rfl) rfl ?_
  rintro u h1 H' hle1 ⟨a3, k3, a4, k4, es, es2, rfl, hes, hes2, rfl⟩
  simp only [List.set_cons_zero, List.set_cons_succ, List.eraseIdx_cons_zero, List.eraseIdx_cons_succ, List.cons_append, List.nil_append]
  refine K.WL.freezeRowN hes.len.symm (Each.all hes fun x c hc => hc.four) (fun h2 hle2 hs2 => ?_)
  refine K.WL.freezeRowN hes2.len.symm (Each.all hes2 fun x c hc => hc.six) (fun h3 hle3 hs3 => ?_)
  have hcp := copied (hs2.le hle3) (hes.mono fun x c hc => hc.le (hle2.trans hle3)) hs3 (hes2.mono fun x c hc => hc.le (hle2.trans hle3))
  have hle := hle1.trans (hle2.trans hle3)
  replace hs := hs.le hle
  replace hc := hc.le hle
  clear hs2 hs3 hes hes2 hvc hvk
  (repeat' (first | refine X.rq ?_ | (refine X.rc ?_ ?_ <;> intro hc <;> first | (exfalso; omega) | skip)))
  refine K.l_alloc (Fx.zr rfl) rfl rfl (fun B5 => ?_)
  refine X.stw ?_
  simp only [List.set_cons_zero, List.set_cons_succ, List.eraseIdx_cons_zero, List.eraseIdx_cons_succ, List.cons_append, List.nil_append]
  (repeat' (first | refine X.rq ?_ | (refine X.rc ?_ ?_ <;> intro hc <;> first | (exfalso; omega) | skip)))
  refine K.l_call (Fx.cal rfl) rfl (Does h3 _ s c _ hcp hw hc hwc) (K.pp [] rfl) rfl ?_
  rintro u h4 H' hle4 ⟨rfl, cs4, rfl, hsf4⟩
  obtain ⟨a6, k6, a7, k7, rfl⟩ := hsf4.c.form
  simp only [List.set_cons_zero, List.set_cons_succ, List.eraseIdx_cons_zero, List.eraseIdx_cons_succ, List.cons_append, List.nil_append]
  (repeat' (first | refine X.rq ?_ | (refine X.rc ?_ ?_ <;> intro hc <;> first | (exfalso; omega) | skip)))
  refine K.l_alloc (Fx.zr rfl) rfl rfl (fun B6 => ?_)
  refine X.stw ?_
  simp only [List.set_cons_zero, List.set_cons_succ, List.eraseIdx_cons_zero, List.eraseIdx_cons_succ, List.cons_append, List.nil_append]
  (repeat' (first | refine X.rq ?_ | (refine X.rc ?_ ?_ <;> intro hc <;> first | (exfalso; omega) | skip)))
  refine K.l_call (Fx.cal rfl) rfl (Must h4 _ s c _ (hs.le hle4) hw (hc.le hle4) hwc) (K.pp [] rfl) rfl ?_
  rintro u h5 H' hle5 ⟨rfl, cs5, rfl, hsf5⟩
  obtain ⟨a8, k8, a9, k9, rfl⟩ := hsf5.form
  simp only [List.set_cons_zero, List.set_cons_succ, List.eraseIdx_cons_zero, List.eraseIdx_cons_succ, List.cons_append, List.nil_append]
  generalize (doesQ s c).2.1 = id at *
  generalize (doesQ s c).2.2 = ee at *
  generalize (doesQ s c).1 = to at *
  (repeat' (first | refine X.rq ?_ | (refine X.rc ?_ ?_ <;> intro hc <;> first | (exfalso; omega) | skip)))
  refine K.l_alloc (Fx.zr rfl) rfl rfl (fun B9 => ?_)
  refine X.stw ?_
  simp only [List.set_cons_zero, List.set_cons_succ, List.eraseIdx_cons_zero, List.eraseIdx_cons_succ, List.cons_append, List.nil_append]
  (repeat' (first | refine X.rq ?_ | (refine X.rc ?_ ?_ <;> intro hc <;> first | (exfalso; omega) | skip)))
  all_goals first | (exfalso; simp_all; done) | skip
  have hle45 := hle4.trans hle5
  refine K.l_callV (Fx.cal rfl) rfl (SameS h5 _ _ to to (hsf4.c.le hle5) hsf5 hdlt.2 hdlt.2) (K.pp [] rfl) rfl rfl ?_
  simp only [List.nil_append, decide_true]
  (repeat' (first | refine X.rq ?_ | (refine X.rc ?_ ?_ <;> intro hc <;> first | (exfalso; omega) | skip)))
  refine K.l_callV (Fx.cal rfl) rfl (SameS h5 _ _ s s (hcp.le hle45) (hs.le hle45) hw hw) (K.pp [] rfl) rfl rfl ?_
  simp only [List.nil_append, decide_true]
  refine K.WL.dropsA (A := [_]) ?_
  have hto := hdlt.2.tabs
  obtain ⟨_, _, ts, _, e, hvt, ht, _, _⟩ := hsf4.le (K.Base.le.refl h3) hle5
  injection e with e1 _
  subst e1
  refine K.WL.thaw (h := h3) hle45 (fun L g hww hg hL => ?_)
  replace hg := Cmp2.of hg
  (repeat' (first | refine X.rq ?_ | (refine X.rc ?_ ?_ <;> intro hc <;> first | (exfalso; omega) | skip)))
  have hlT := hdlt.2.lt
  refine K.c_loop (σ := Nat × (Nat → List Value)) (fun q => [(2, .pointer (some ⟨B2, 0, none⟩)), (5, .pointer (some ⟨B5, 0, none⟩)), (6, .pointer (some ⟨B6, 0, none⟩)), (12, .int .i64 q.1)]) (fun _ => h3) (fun q => spA h5 L q.2 :: blk B6 25 [.slice a6 to.tabs.length k6, .slice a7 to.idxs.length k7] :: blk B5 25 [bufV a3 s.tabs.length k3, bufV a4 s.idxs.length k4] :: blk B3 30 (cChg c (.slice ac (c.cols.map cC).length kc) (.slice ak (rowN c.keys).length kk)) :: blk B2 25 [.slice a s.tabs.length k, .slice a2 s.idxs.length k2] :: F) (fun q => q.1 ≤ to.tabs.length ∧ Cmp2 h5 L q.2) (fun q => to.tabs.length - q.1) (0, g) ⟨Nat.zero_le _, hg⟩ (by repeat (first | exact K.Sub.nil _ | refine K.Sub.cons rfl ?_)) rfl rfl ?_
  rintro ⟨j, g1⟩ ⟨hj, hg1⟩ KL hKL
  dsimp only at hj hg1 ⊢
  by_cases hjl : j < to.tabs.length
  · have hx1 : to.tabs[j]? = some to.tabs[j] := List.getElem?_eq_getElem hjl
    have hwl := (hto _ (List.getElem_mem hjl)).len
    generalize to.tabs[j] = x at hx1 hwl
    obtain ⟨_, hc1, v9, rfl, hs9, hf9⟩ := ht.get hx1
    obtain ⟨av9, cv9, rfl⟩ := hs9.len
    have hlr : (x.cols.map cC).length = x.cols.length := List.length_map ..
    rw [hlr] at hs9 hf9 hc1
    obtain ⟨bb, oo, rfl, hcx⟩ := hvt.at hc1
    (repeat' (first | refine X.rq ?_ | (refine X.rc ?_ ?_ <;> intro hc <;> first | (exfalso; omega) | skip)))
    refine K.c_loop (σ := Nat × (Nat → List Value)) (fun q => [(2, .pointer (some ⟨B2, 0, none⟩)), (5, .pointer (some ⟨B5, 0, none⟩)), (6, .pointer (some ⟨B6, 0, none⟩)), (12, .int .i64 j), (13, .int .i64 q.1)]) (fun _ => h3) (fun q => spA h5 L q.2 :: blk B6 25 [.slice (some ⟨bb, oo, none⟩) to.tabs.length k6, .slice a7 to.idxs.length k7] :: blk B5 25 [bufV a3 s.tabs.length k3, bufV a4 s.idxs.length k4] :: blk B3 30 (cChg c (.slice ac (c.cols.map cC).length kc) (.slice ak (rowN c.keys).length kk)) :: blk B2 25 [.slice a s.tabs.length k, .slice a2 s.idxs.length k2] :: F) (fun q => q.1 ≤ x.cols.length ∧ Cmp2 h5 L q.2) (fun q => x.cols.length - q.1) (0, g1) ⟨Nat.zero_le _, hg1⟩ (by repeat (first | exact K.Sub.nil _ | refine K.Sub.cons rfl ?_)) rfl rfl ?_
    clear hg1
    rintro ⟨m, g1⟩ ⟨hm, hg1⟩ KO hKO
    dsimp only at hm hg1 ⊢
    obtain ⟨u2, hcel, hcu⟩ := cel_thaw hle45 hww hL (hcx.get 2 _ rfl) g1 hg1 (blk B6 25 [.slice (some ⟨bb, oo, none⟩) to.tabs.length k6, .slice a7 to.idxs.length k7] :: blk B5 25 [bufV a3 s.tabs.length k3, bufV a4 s.idxs.length k4] :: blk B3 30 (cChg c (.slice ac (c.cols.map cC).length kc) (.slice ak (rowN c.keys).length kk)) :: blk B2 25 [.slice a s.tabs.length k, .slice a2 s.idxs.length k2] :: F)
    obtain rfl := cmp2_slice hcu
    rw [show oo + j * 4 + 2 = oo + ((j : Nat) : Int).toNat * 4 + 2 by rw [Int.toNat_natCast]] at hcel
    by_cases hml : m < x.cols.length
    · have hd1 : (x.cols.map cC)[m]? = some (cC x.cols[m]) := by rw [List.getElem?_map, List.getElem?_eq_getElem hml]; rfl
      generalize x.cols[m] = z at hd1
      obtain ⟨bC, arrC, TC, fzC, rfl, hbC, hmC, hfC, hgC⟩ := spR2 hww hL hs9 hf9 hd1 hml
      obtain ⟨u0, hu0, hc0⟩ := hgC g1 hg1 1 _ rfl
      obtain ⟨b1, rfl⟩ := cmp2_int hc0
      have hz0 := hfC 1 (by decide)
      (repeat' (first | refine X.rq ?_ | (refine X.rc ?_ ?_ <;> intro hc <;> first | (exfalso; omega) | skip)))
      refine K.l_storeSp (o := m * 3 + 1) (Fx.sz rfl) (by first | rfl | (show some _ = some _; simp; done)) rfl rfl hbC hmC (List.getElem?_eq_some_iff.1 hu0).1 hz0 ?_
      have hg2 := fun u => hg1.upd (u1 := .int .i64 u) hu0 (.inr (.inl ⟨_, _, _, rfl, rfl⟩))
      (repeat' (first | refine X.rq ?_ | (refine X.rc ?_ ?_ <;> intro hc <;> first | (exfalso; omega) | skip)))
      refine K.a_round hKO (m + 1, _) ⟨by dsimp only; omega, hg2 _⟩ (by repeat (first | exact K.Sub.nil _ | refine K.Sub.cons rfl ?_)) rfl rfl (by dsimp only; omega)
    · obtain rfl : m = x.cols.length := by omega
      (repeat' (first | refine X.rq ?_ | (refine X.rc ?_ ?_ <;> intro hc <;> first | (exfalso; omega) | skip)))
      refine K.a_round hKL (j + 1, _) ⟨by dsimp only; omega, hg1⟩ (by repeat (first | exact K.Sub.nil _ | refine K.Sub.cons rfl ?_)) rfl rfl (by dsimp only; omega)
  obtain rfl : j = to.tabs.length := by omega
  (repeat' (first | refine X.rq ?_ | (refine X.rc ?_ ?_ <;> intro hc <;> first | (exfalso; omega) | skip)))
  refine K.l_callV (Fx.cal rfl) rfl (SameS h3 _ _ s s hcp hs hw hw) (K.pp [] rfl) rfl rfl ?_
  simp only [List.nil_append, decide_true]
  (repeat' (first | refine X.rq ?_ | (refine X.rc ?_ ?_ <;> intro hc <;> first | (exfalso; omega) | skip)))
  refine K.l_call (Fx.cal rfl) rfl (Awake h3) (K.pp [] rfl) rfl ?_
  rintro u h9 H' hle9 ⟨rfl, rfl⟩
  simp only [List.set_cons_zero, List.set_cons_succ, List.eraseIdx_cons_zero, List.eraseIdx_cons_succ, List.cons_append, List.nil_append]
  (repeat' (first | refine X.rq ?_ | (refine X.rc ?_ ?_ <;> intro hc <;> first | (exfalso; omega) | skip)))
  refine K.AT.dropsA (A := [_, _, _, _, _]) ?_
  refine K.done (.inl rfl) rfl (hle.trans hle9) (H' := []) rfl ⟨rfl, rfl⟩
end Go.Proofs.YtdjacjhojbkgjaaGreat.Ct
