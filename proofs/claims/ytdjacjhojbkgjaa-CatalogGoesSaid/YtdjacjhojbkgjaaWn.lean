/-
  CatalogGoes. Conditions: each theorem's own.
-/
import Derived.Test.YtdjacjhojbkgjaaWm

namespace Go.Proofs.Ytdjacjhojbkgjaa.Ct
open Go Go.K Go.Proofs Go.Proofs.Ytdjacjhojbkgjaa Go.Proofs.Ytdjacjhojbkgjaa.Rw
set_option linter.unusedVariables false
set_option linter.unusedSimpArgs false
set_option maxRecDepth 10000

theorem drop_rev {α : Type} {l : List α} {m : Nat} {x : α} (hx : l[m]? = some x) : (l.drop m).reverse = (l.drop (m + 1)).reverse ++ [x] := by
  obtain ⟨h, rfl⟩ := List.getElem?_eq_some_iff.1 hx
  rw [List.drop_eq_getElem_cons h, List.reverse_cons]
theorem Each.reverse {α : Type} {R : α → List Value → Prop} {es : List (List Value)} {xs : List α} (h : Each R es xs) : Each R es.reverse xs.reverse :=
  ⟨by rw [List.length_reverse, List.length_reverse, h.len], fun j c x hc hx => by
    have hj : j < es.length := by
      have := (List.getElem?_eq_some_iff.1 hc).1
      rwa [List.length_reverse] at this
    rw [List.getElem?_reverse hj] at hc
    rw [List.getElem?_reverse (by rw [← h.len]; exact hj)] at hx
    rw [h.len] at hc
    exact h.at_ _ c x hc hx⟩
/-- What is read of a schema's own rows, in whatever order. -/
theorem read_own {l : List (List Val)} {s s2 : PSch} {ok : Bool} (h : ReadP l ok s2) (hm : mayS s = true) (hw : wfS s) (hw2 : wfS s2) (hp : l.Perm (rowsQ s)) : ok = true ∧ s2 = s := by
  cases ok with
  | false => exact absurd hp ((h.no rfl).2 s hw hm)
  | true =>
    obtain ⟨h1, h2⟩ := h.yes rfl
    exact ⟨rfl, rows_inj h1 hm hw2 hw (h2.symm.trans hp)⟩
structure GoJ (hb : Base) (s : PSch) where
  B : Nat
  x : Value
  y : Value
  b : Base
  hle : hb.le b
  hs : SchF hb b s [x, y]
structure GoS where
  k : Nat
  hb : Base
  s : PSch
  x : Value
  y : Value
structure RvS where
  j : Nat
  m : Nat
  a : Option Nat
  k : Nat
set_option maxHeartbeats 16000000 in
theorem CatalogGoesW (h : Base) (v : Value) (es : List (List Value)) (l : List PChg) (hv : SL h 7 v es) (he : Each (ChgC h) es l) (hwl : ∀ c ∈ l, wfG c) (hl : l.length ≤ 9223372036854775807) :
    Tr Try.prog 6 [v] h [] (fun u h' H' => u = .bool true ∧ H' = []) := by
  obtain ⟨ao, ca, rfl⟩ := hv.len
  rw [he.len] at hv ⊢
  refine K.enter Try.func6 rfl (Nat.le_of_ble_eq_true rfl) (fun F => ?_)
  simp only [List.nil_append, List.cons_append]
  (repeat' (first | refine X.rq ?_ | (refine X.rc ?_ ?_ <;> intro hc <;> first | (exfalso; omega) | skip)))
  refine K.l_alloc (Fx.zr rfl) rfl rfl (fun B3 => ?_)
  refine X.stw ?_
  simp only [List.set_cons_zero, List.set_cons_succ, List.eraseIdx_cons_zero, List.eraseIdx_cons_succ, List.cons_append, List.nil_append]
  (repeat' (first | refine X.rq ?_ | (refine X.rc ?_ ?_ <;> intro hc <;> first | (exfalso; omega) | skip)))
  refine K.c_loop (σ := GoS) (fun q => [(0, .slice ao l.length ca), (3, .pointer (some ⟨B3, 0, none⟩)), (4, .int .i64 q.k)]) (fun q => q.hb) (fun q => blk B3 25 [q.x, q.y] :: F)
    (fun q => q.k ≤ l.length ∧ h.le q.hb ∧ SchC q.hb q.s [q.x, q.y] ∧ wfS q.s ∧ mayS q.s = true) (fun q => l.length - q.k) ⟨0, h, zSch, .slice none 0 0, .slice none 0 0⟩ ⟨Nat.zero_le _, K.Base.le.refl _, zSch_c h, zSch_wf, zSch_may⟩ (by repeat (first | exact K.Sub.nil _ | refine K.Sub.cons rfl ?_)) rfl rfl ?_
  rintro ⟨k, hb, s, x, y⟩ ⟨hk, hle, hs, hw, hm⟩ KL hKL
  simp only at hk hle hs hw hm ⊢
  obtain ⟨as_, ks, as2, ks2, e⟩ := hs.form
  obtain ⟨rfl, rfl⟩ : x = .slice as_ s.tabs.length ks ∧ y = .slice as2 s.idxs.length ks2 := by simpa using e
  clear e
  by_cases hgo : k < l.length ∧ k < 60
  · obtain ⟨hkl, hk60⟩ := hgo
    have hx1 : l[k]? = some l[k] := List.getElem?_eq_getElem hkl
    have hwc := hwl _ (List.getElem_mem hkl)
    generalize l[k] = c at hx1 hwc
    obtain ⟨_, hc0, vc, vk, rfl, hvc, hvk⟩ := he.get hx1
    obtain ⟨ac, kc, rfl⟩ := hvc.len
    obtain ⟨ak, kk, rfl⟩ := hvk.len
    have hcc : ChgC h c (cChg c (.slice ac (c.cols.map cC).length kc) (.slice ak (rowN c.keys).length kk)) := ⟨_, _, rfl, hvc, hvk⟩
    obtain ⟨bb, oo, rfl, hcx⟩ := (hv.le hle).at hc0
    have hbad := does_bad (s := s) (c := c)
    have hgood := does_good hw hwc
    have hdlt := does_lt hw hwc
    obtain ⟨to, hto⟩ : ∃ to, (doesQ s c).1 = to := ⟨_, rfl⟩
    obtain ⟨id, hid⟩ : ∃ id, (doesQ s c).2.1 = id := ⟨_, rfl⟩
    obtain ⟨ee, hee⟩ : ∃ ee, (doesQ s c).2.2 = ee := ⟨_, rfl⟩
    rw [hto, hid, hee] at hbad hgood
    rw [hto, hid] at hdlt
    (repeat' (first | refine X.rq ?_ | (refine X.rc ?_ ?_ <;> intro hc <;> first | (exfalso; omega) | skip)))
    all_goals first | (exfalso; omega) | skip
    refine X.drawJ ([blk B3 25 [.slice as_ s.tabs.length ks, .slice as2 s.idxs.length ks2]]) [] (.pu 2 (.pu 3 (.pu 4 (.st 0 (.st 5 (.alt 1 (.alt 6 (.pu 7 (.pu 8 (.pu 9 (.pu 10 (.on 11 (.on 12 (.pu 13 (.pu 14 .nil)))))))) (.on 11 (.on 6 (.pu 7 (.pu 8 (.pu 9 (.pu 10 (.on 12 (.pu 13 (.pu 14 .nil)))))))))) (.on 11 (.on 1 (.on 6 (.pu 7 (.pu 8 (.pu 9 (.pu 10 (.on 12 (.pu 13 (.pu 14 .nil)))))))))))))))) (fun q : GoJ hb to => [(0, .slice (some ⟨bb, oo, none⟩) l.length ca), (3, .pointer (some ⟨B3, 0, none⟩)), (4, .int .i64 k), (5, .pointer (some ⟨q.B, 0, none⟩)), (6, .int .u32 id), (7, eV ee)]) (fun q => q.b) (fun q => blk q.B 25 [q.x, q.y] :: blk B3 25 [.slice as_ s.tabs.length ks, .slice as2 s.idxs.length ks2] :: F) ?_ ?_
    · refine K.d_pu rfl (fun _ _ => X.mv) rfl ?_
      refine K.d_pu rfl (fun _ _ => X.mv) rfl ?_
      refine K.d_pu rfl (fun _ _ => X.ia) rfl ?_
      refine K.d_st rfl (K.p_loadW 0 rfl rfl (Fx.agg rfl) (Fx.sz rfl)) rfl ?_
      refine K.d_st rfl (K.p_loadM (Fx.agg rfl) rfl (Cels.up hcx) (Fx.sz rfl) rfl) rfl ?_
      refine K.d_alt ?_ ?_
      · refine K.d_on rfl (fun KK hKK => ?_)
        refine K.l_call (Fx.cal rfl) rfl (RCopy hb _ s hs hw) (K.pp [] rfl) rfl ?_
        rintro u h1 H' hle1 ⟨a3, k3, a4, k4, es1, es2, rfl, hes, hes2, rfl⟩
        simp only [List.set_cons_zero, List.set_cons_succ, List.eraseIdx_cons_zero, List.eraseIdx_cons_succ, List.cons_append, List.nil_append]
        refine K.WL.freezeRowN hes.len.symm (Each.all hes fun x c hc => hc.four) (fun h2 hle2 hs2 => ?_)
        refine K.WL.freezeRowN hes2.len.symm (Each.all hes2 fun x c hc => hc.six) (fun h3 hle3 hs3 => ?_)
        have hcp := copied (hs2.le hle3) (hes.mono fun x c hc => hc.le (hle2.trans hle3)) hs3 (hes2.mono fun x c hc => hc.le (hle2.trans hle3))
        have hle' := hle1.trans (hle2.trans hle3)
        refine K.l_nil ?_
        refine X.onE hKK ?_
        refine K.d_alt ?_ ?_
        · refine K.d_on rfl (fun KK hKK => ?_)
          refine K.l_call (Fx.cal rfl) rfl (Does h3 _ s c _ hcp hw (hcc.le (hle.trans hle')) hwc) (K.pp [] rfl) rfl ?_
          rintro u h4 H' hle4 ⟨rfl, cs', rfl, hsf⟩
          have hsf' := hsf.le hle' (K.Base.le.refl _)
          have hle'4 := hle'.trans hle4
          obtain ⟨a7, k7, a8, k8, rfl⟩ := hsf.c.form
          rw [hto] at hsf'
          rw [hto, hid, hee]
          simp only [List.set_cons_zero, List.set_cons_succ, List.eraseIdx_cons_zero, List.eraseIdx_cons_succ, List.cons_append, List.nil_append]
          refine K.l_nil ?_
          refine X.onE hKK ?_
          refine K.d_pu rfl (fun _ _ => X.mv) rfl ?_
          refine K.d_pu rfl (fun _ _ => X.ex) rfl ?_
          refine K.d_pu rfl (fun _ _ => X.ex) rfl ?_
          refine K.d_pu rfl (fun _ _ => X.ex) rfl ?_
          refine K.d_on rfl (fun KK hKK => ?_)
          refine K.l_alloc (Fx.zr rfl) rfl rfl (fun B5 => ?_)
          refine K.l_nil ?_
          refine X.onE hKK ?_
          refine K.d_on rfl (fun KK hKK => ?_)
          refine X.stw ?_
          simp only [List.set_cons_zero, List.set_cons_succ, List.eraseIdx_cons_zero, List.eraseIdx_cons_succ, List.cons_append, List.nil_append]
          refine K.l_nil ?_
          refine X.onE hKK ?_
          refine K.d_pu rfl (fun _ _ => X.sg) rfl ?_
          refine K.d_pu rfl (fun _ _ => X.sg) rfl ?_
          refine K.d_nil ?_
          exact K.joined ⟨B5, _, _, h4, hle'.trans hle4, hsf'⟩ (by repeat (first | exact K.Sub.nil _ | refine K.Sub.cons rfl ?_)) rfl rfl
        refine K.d_on rfl (fun KK hKK => ?_)
        refine K.l_alloc (Fx.zr rfl) rfl rfl (fun B5 => ?_)
        refine K.l_nil ?_
        refine X.onE hKK ?_
        refine K.d_on rfl (fun KK hKK => ?_)
        refine K.l_call (Fx.cal rfl) rfl (Does h3 _ s c _ hcp hw (hcc.le (hle.trans hle')) hwc) (K.pp [] rfl) rfl ?_
        rintro u h4 H' hle4 ⟨rfl, cs', rfl, hsf⟩
        have hsf' := hsf.le hle' (K.Base.le.refl _)
        have hle'4 := hle'.trans hle4
        obtain ⟨a7, k7, a8, k8, rfl⟩ := hsf.c.form
        rw [hto] at hsf'
        rw [hto, hid, hee]
        simp only [List.set_cons_zero, List.set_cons_succ, List.eraseIdx_cons_zero, List.eraseIdx_cons_succ, List.cons_append, List.nil_append]
        refine K.l_nil ?_
        refine X.onE hKK ?_
        refine K.d_pu rfl (fun _ _ => X.mv) rfl ?_
        refine K.d_pu rfl (fun _ _ => X.ex) rfl ?_
        refine K.d_pu rfl (fun _ _ => X.ex) rfl ?_
        refine K.d_pu rfl (fun _ _ => X.ex) rfl ?_
        refine K.d_on rfl (fun KK hKK => ?_)
        refine X.stw ?_
        simp only [List.set_cons_zero, List.set_cons_succ, List.eraseIdx_cons_zero, List.eraseIdx_cons_succ, List.cons_append, List.nil_append]
        refine K.l_nil ?_
        refine X.onE hKK ?_
        refine K.d_pu rfl (fun _ _ => X.sg) rfl ?_
        refine K.d_pu rfl (fun _ _ => X.sg) rfl ?_
        refine K.d_nil ?_
        exact K.joined ⟨B5, _, _, h4, hle'.trans hle4, hsf'⟩ (by repeat (first | exact K.Sub.nil _ | refine K.Sub.cons rfl ?_)) rfl rfl
      refine K.d_on rfl (fun KK hKK => ?_)
      refine K.l_alloc (Fx.zr rfl) rfl rfl (fun B5 => ?_)
      refine K.l_nil ?_
      refine X.onE hKK ?_
      refine K.d_on rfl (fun KK hKK => ?_)
      refine K.l_call (Fx.cal rfl) rfl (RCopy hb _ s hs hw) (K.pp [] rfl) rfl ?_
      rintro u h1 H' hle1 ⟨a3, k3, a4, k4, es1, es2, rfl, hes, hes2, rfl⟩
      simp only [List.set_cons_zero, List.set_cons_succ, List.eraseIdx_cons_zero, List.eraseIdx_cons_succ, List.cons_append, List.nil_append]
      refine K.WL.freezeRowN hes.len.symm (Each.all hes fun x c hc => hc.four) (fun h2 hle2 hs2 => ?_)
      refine K.WL.freezeRowN hes2.len.symm (Each.all hes2 fun x c hc => hc.six) (fun h3 hle3 hs3 => ?_)
      have hcp := copied (hs2.le hle3) (hes.mono fun x c hc => hc.le (hle2.trans hle3)) hs3 (hes2.mono fun x c hc => hc.le (hle2.trans hle3))
      have hle' := hle1.trans (hle2.trans hle3)
      refine K.l_nil ?_
      refine X.onE hKK ?_
      refine K.d_on rfl (fun KK hKK => ?_)
      refine K.l_call (Fx.cal rfl) rfl (Does h3 _ s c _ hcp hw (hcc.le (hle.trans hle')) hwc) (K.pp [] rfl) rfl ?_
      rintro u h4 H' hle4 ⟨rfl, cs', rfl, hsf⟩
      have hsf' := hsf.le hle' (K.Base.le.refl _)
      have hle'4 := hle'.trans hle4
      obtain ⟨a7, k7, a8, k8, rfl⟩ := hsf.c.form
      rw [hto] at hsf'
      rw [hto, hid, hee]
      simp only [List.set_cons_zero, List.set_cons_succ, List.eraseIdx_cons_zero, List.eraseIdx_cons_succ, List.cons_append, List.nil_append]
      refine K.l_nil ?_
      refine X.onE hKK ?_
      refine K.d_pu rfl (fun _ _ => X.mv) rfl ?_
      refine K.d_pu rfl (fun _ _ => X.ex) rfl ?_
      refine K.d_pu rfl (fun _ _ => X.ex) rfl ?_
      refine K.d_pu rfl (fun _ _ => X.ex) rfl ?_
      refine K.d_on rfl (fun KK hKK => ?_)
      refine X.stw ?_
      simp only [List.set_cons_zero, List.set_cons_succ, List.eraseIdx_cons_zero, List.eraseIdx_cons_succ, List.cons_append, List.nil_append]
      refine K.l_nil ?_
      refine X.onE hKK ?_
      refine K.d_pu rfl (fun _ _ => X.sg) rfl ?_
      refine K.d_pu rfl (fun _ _ => X.sg) rfl ?_
      refine K.d_nil ?_
      exact K.joined ⟨B5, _, _, h4, hle'.trans hle4, hsf'⟩ (by repeat (first | exact K.Sub.nil _ | refine K.Sub.cons rfl ?_)) rfl rfl
    refine fun q => ?_
    obtain ⟨B5, x5, y5, h4, hle4, hsf⟩ := q
    dsimp only
    obtain ⟨a7, k7, a8, k8, e⟩ := hsf.c.form
    obtain ⟨rfl, rfl⟩ : x5 = .slice a7 to.tabs.length k7 ∧ y5 = .slice a8 to.idxs.length k8 := by simpa using e
    clear e
    have hle04 := hle.trans hle4
    by_cases hee0 : ee = 0
    · obtain ⟨hmt, hwt, hidl, hback⟩ := hgood hee0
      subst hee0
      clear hbad hgood
      (repeat' (first | refine X.rq ?_ | (refine X.rc ?_ ?_ <;> intro hc <;> first | (exfalso; omega) | skip)))
      refine K.l_call (Fx.cal rfl) rfl (MayS h4 _ to hsf.c hwt) (K.pp [] rfl) rfl ?_
      rintro u h5 H' hle5 ⟨rfl, rfl⟩
      rw [hmt]
      simp only [List.set_cons_zero, List.set_cons_succ, List.eraseIdx_cons_zero, List.eraseIdx_cons_succ, List.cons_append, List.nil_append]
      have hle45 := hle4.trans hle5
      have hsc := hsf.c.le hle5
      have hcx5 := hcx.le hle45
      have hs5 := hs.le hle45
      by_cases hid0 : id = 0
      · subst hid0
        (repeat' (first | refine X.rq ?_ | (refine X.rc ?_ ?_ <;> intro hc <;> first | (exfalso; omega) | skip)))
        refine K.WL.perm (K.pp [1, 0] rfl) ?_
        simp only [List.set_cons_zero, List.set_cons_succ, List.eraseIdx_cons_zero, List.eraseIdx_cons_succ, List.cons_append, List.nil_append]
        refine X.stw ?_
        simp only [List.set_cons_zero, List.set_cons_succ, List.eraseIdx_cons_zero, List.eraseIdx_cons_succ, List.cons_append, List.nil_append]
        (repeat' (first | refine X.rq ?_ | (refine X.rc ?_ ?_ <;> intro hc <;> first | (exfalso; omega) | skip)))
        refine K.AT.sel [1] rfl ?_
        refine K.a_round hKL ⟨k + 1, h5, to, _, _⟩ ⟨by simp only; omega, hle04.trans hle5, hsc, hwt, hmt⟩ (by repeat (first | exact K.Sub.nil _ | refine K.Sub.cons rfl ?_)) rfl rfl (by simp only; omega)
      · have hback := hback (by omega)
        (repeat' (first | refine X.rq ?_ | (refine X.rc ?_ ?_ <;> intro hc <;> first | (exfalso; omega) | skip)))
        all_goals first | (exfalso; omega) | skip
        refine K.s_pure (K.p_loadM (Fx.agg rfl) rfl (Cels.up hcx5) (Fx.sz rfl) rfl) rfl ?_
        refine K.l_alloc (Fx.zr rfl) rfl rfl (fun B8 => ?_)
        refine X.stw ?_
        simp only [List.set_cons_zero, List.set_cons_succ, List.eraseIdx_cons_zero, List.eraseIdx_cons_succ, List.cons_append, List.nil_append]
        (repeat' (first | refine X.rq ?_ | (refine X.rc ?_ ?_ <;> intro hc <;> first | (exfalso; omega) | skip)))
        refine X.sto ?_
        simp only [List.set_cons_zero, List.set_cons_succ, List.eraseIdx_cons_zero, List.eraseIdx_cons_succ, List.cons_append, List.nil_append]
        refine K.l_nil ?_
        refine K.a_then (K.c_seq (K.c_join (β := Int) (fun _ => [(0, .slice (some ⟨bb, oo, none⟩) l.length ca), (3, .pointer (some ⟨B3, 0, none⟩)), (4, .int .i64 k), (5, .pointer (some ⟨B5, 0, none⟩)), (6, .int .u32 id), (8, .pointer (some ⟨B8, 0, none⟩))]) (fun _ => h5)
          (fun w => blk B8 64 [.int .i64 w, .string c.name, .string c.table, .slice ac (c.cols.map cC).length kc, .slice ak (rowN c.keys).length kk, .bool c.uniq, .int .u32 c.page] :: blk B5 25 [.slice a7 to.tabs.length k7, .slice a8 to.idxs.length k8] :: blk B3 25 [.slice as_ s.tabs.length ks, .slice as2 s.idxs.length ks2] :: F) (fun w => w = (undoC s to c).what) (fun KJ hJ => ?_) ?_))
        · by_cases hgt : s.idxs.length < to.idxs.length
          · have hwh : (undoC s to c).what = 3 := if_pos hgt
            (repeat' (first | refine X.rq ?_ | (refine X.rc ?_ ?_ <;> intro hc <;> first | (exfalso; omega) | skip)))
            all_goals first | (exfalso; omega) | skip
            refine X.sto ?_
            simp only [List.set_cons_zero, List.set_cons_succ, List.eraseIdx_cons_zero, List.eraseIdx_cons_succ, List.cons_append, List.nil_append]
            (repeat' (first | refine X.rq ?_ | (refine X.rc ?_ ?_ <;> intro hc <;> first | (exfalso; omega) | skip)))
            exact K.a_join hJ 3 hwh.symm (by repeat (first | exact K.Sub.nil _ | refine K.Sub.cons rfl ?_)) rfl rfl
          · have hwh : (undoC s to c).what = 1 := if_neg hgt
            (repeat' (first | refine X.rq ?_ | (refine X.rc ?_ ?_ <;> intro hc <;> first | (exfalso; omega) | skip)))
            all_goals first | (exfalso; omega) | skip
            exact K.a_join hJ 1 hwh.symm (by repeat (first | exact K.Sub.nil _ | refine K.Sub.cons rfl ?_)) rfl rfl
        · rintro w hwh
          subst hwh
          have hcu : ChgC h (undoC s to c) [.int .i64 (undoC s to c).what, .string c.name, .string c.table, .slice ac (c.cols.map cC).length kc, .slice ak (rowN c.keys).length kk, .bool c.uniq, .int .u32 c.page] := ⟨_, _, rfl, hvc, hvk⟩
          have hwu : wfG (undoC s to c) := undo_wf hwc
          have hle05 := hle.trans hle45
          generalize undoC s to c = uc at hback hcu hwu ⊢
          (repeat' (first | refine X.rq ?_ | (refine X.rc ?_ ?_ <;> intro hc <;> first | (exfalso; omega) | skip)))
          refine X.drawJ ([blk B8 64 [.int .i64 uc.what, .string c.name, .string c.table, .slice ac (c.cols.map cC).length kc, .slice ak (rowN c.keys).length kk, .bool c.uniq, .int .u32 c.page], blk B5 25 [.slice a7 to.tabs.length k7, .slice a8 to.idxs.length k8]]) [] (.st 0 (.st 2 (.alt 1 (.alt 3 (.pu 4 (.pu 5 (.pu 6 (.pu 7 (.on 8 (.on 9 (.pu 10 (.pu 11 .nil)))))))) (.on 8 (.on 3 (.pu 4 (.pu 5 (.pu 6 (.pu 7 (.on 9 (.pu 10 (.pu 11 .nil)))))))))) (.on 8 (.on 1 (.on 3 (.pu 4 (.pu 5 (.pu 6 (.pu 7 (.on 9 (.pu 10 (.pu 11 .nil))))))))))))) (fun q : GoJ h5 s => [(0, .slice (some ⟨bb, oo, none⟩) l.length ca), (3, .pointer (some ⟨B3, 0, none⟩)), (4, .int .i64 k), (5, .pointer (some ⟨B5, 0, none⟩)), (9, .pointer (some ⟨q.B, 0, none⟩)), (10, .int .u32 0), (11, eV 0)]) (fun q => q.b) (fun q => blk q.B 25 [q.x, q.y] :: blk B8 64 [.int .i64 uc.what, .string c.name, .string c.table, .slice ac (c.cols.map cC).length kc, .slice ak (rowN c.keys).length kk, .bool c.uniq, .int .u32 c.page] :: blk B5 25 [.slice a7 to.tabs.length k7, .slice a8 to.idxs.length k8] :: blk B3 25 [.slice as_ s.tabs.length ks, .slice as2 s.idxs.length ks2] :: F) ?_ ?_
          · refine K.d_st rfl (K.p_loadW 1 rfl rfl (Fx.agg rfl) (Fx.sz rfl)) rfl ?_
            refine K.d_st rfl (K.p_loadW 0 rfl rfl (Fx.agg rfl) (Fx.sz rfl)) rfl ?_
            refine K.d_alt ?_ ?_
            · refine K.d_on rfl (fun KK hKK => ?_)
              refine K.l_call (Fx.cal rfl) rfl (RCopy h5 _ to hsc hwt) (K.pp [] rfl) rfl ?_
              rintro u h1 H' hle1 ⟨a3, k3, a4, k4, es1, es2, rfl, hes, hes2, rfl⟩
              simp only [List.set_cons_zero, List.set_cons_succ, List.eraseIdx_cons_zero, List.eraseIdx_cons_succ, List.cons_append, List.nil_append]
              refine K.WL.freezeRowN hes.len.symm (Each.all hes fun x c hc => hc.four) (fun h2 hle2 hs2 => ?_)
              refine K.WL.freezeRowN hes2.len.symm (Each.all hes2 fun x c hc => hc.six) (fun h3 hle3 hs3 => ?_)
              have hcp := copied (hs2.le hle3) (hes.mono fun x c hc => hc.le (hle2.trans hle3)) hs3 (hes2.mono fun x c hc => hc.le (hle2.trans hle3))
              have hle' := hle1.trans (hle2.trans hle3)
              refine K.l_nil ?_
              refine X.onE hKK ?_
              refine K.d_alt ?_ ?_
              · refine K.d_on rfl (fun KK hKK => ?_)
                refine K.l_call (Fx.cal rfl) rfl (Does h3 _ to uc _ hcp hwt (hcu.le (hle05.trans hle')) hwu) (K.pp [] rfl) rfl ?_
                rintro u h6 H' hle6 ⟨rfl, cs', rfl, hsf6⟩
                have hsf' := hsf6.le hle' (K.Base.le.refl _)
                have hle'6 := hle'.trans hle6
                obtain ⟨a9, k9, a10, k10, rfl⟩ := hsf6.c.form
                rw [hback] at hsf'
                rw [hback]
                simp only [List.set_cons_zero, List.set_cons_succ, List.eraseIdx_cons_zero, List.eraseIdx_cons_succ, List.cons_append, List.nil_append]
                refine K.l_nil ?_
                refine X.onE hKK ?_
                refine K.d_pu rfl (fun _ _ => X.mv) rfl ?_
                refine K.d_pu rfl (fun _ _ => X.ex) rfl ?_
                refine K.d_pu rfl (fun _ _ => X.ex) rfl ?_
                refine K.d_pu rfl (fun _ _ => X.ex) rfl ?_
                refine K.d_on rfl (fun KK hKK => ?_)
                refine K.l_alloc (Fx.zr rfl) rfl rfl (fun B9 => ?_)
                refine K.l_nil ?_
                refine X.onE hKK ?_
                refine K.d_on rfl (fun KK hKK => ?_)
                refine X.stw ?_
                simp only [List.set_cons_zero, List.set_cons_succ, List.eraseIdx_cons_zero, List.eraseIdx_cons_succ, List.cons_append, List.nil_append]
                refine K.l_nil ?_
                refine X.onE hKK ?_
                refine K.d_pu rfl (fun _ _ => X.sg) rfl ?_
                refine K.d_pu rfl (fun _ _ => X.sg) rfl ?_
                refine K.d_nil ?_
                exact K.joined ⟨B9, _, _, h6, hle'.trans hle6, hsf'⟩ (by repeat (first | exact K.Sub.nil _ | refine K.Sub.cons rfl ?_)) rfl rfl
              refine K.d_on rfl (fun KK hKK => ?_)
              refine K.l_alloc (Fx.zr rfl) rfl rfl (fun B9 => ?_)
              refine K.l_nil ?_
              refine X.onE hKK ?_
              refine K.d_on rfl (fun KK hKK => ?_)
              refine K.l_call (Fx.cal rfl) rfl (Does h3 _ to uc _ hcp hwt (hcu.le (hle05.trans hle')) hwu) (K.pp [] rfl) rfl ?_
              rintro u h6 H' hle6 ⟨rfl, cs', rfl, hsf6⟩
              have hsf' := hsf6.le hle' (K.Base.le.refl _)
              have hle'6 := hle'.trans hle6
              obtain ⟨a9, k9, a10, k10, rfl⟩ := hsf6.c.form
              rw [hback] at hsf'
              rw [hback]
              simp only [List.set_cons_zero, List.set_cons_succ, List.eraseIdx_cons_zero, List.eraseIdx_cons_succ, List.cons_append, List.nil_append]
              refine K.l_nil ?_
              refine X.onE hKK ?_
              refine K.d_pu rfl (fun _ _ => X.mv) rfl ?_
              refine K.d_pu rfl (fun _ _ => X.ex) rfl ?_
              refine K.d_pu rfl (fun _ _ => X.ex) rfl ?_
              refine K.d_pu rfl (fun _ _ => X.ex) rfl ?_
              refine K.d_on rfl (fun KK hKK => ?_)
              refine X.stw ?_
              simp only [List.set_cons_zero, List.set_cons_succ, List.eraseIdx_cons_zero, List.eraseIdx_cons_succ, List.cons_append, List.nil_append]
              refine K.l_nil ?_
              refine X.onE hKK ?_
              refine K.d_pu rfl (fun _ _ => X.sg) rfl ?_
              refine K.d_pu rfl (fun _ _ => X.sg) rfl ?_
              refine K.d_nil ?_
              exact K.joined ⟨B9, _, _, h6, hle'.trans hle6, hsf'⟩ (by repeat (first | exact K.Sub.nil _ | refine K.Sub.cons rfl ?_)) rfl rfl
            refine K.d_on rfl (fun KK hKK => ?_)
            refine K.l_alloc (Fx.zr rfl) rfl rfl (fun B9 => ?_)
            refine K.l_nil ?_
            refine X.onE hKK ?_
            refine K.d_on rfl (fun KK hKK => ?_)
            refine K.l_call (Fx.cal rfl) rfl (RCopy h5 _ to hsc hwt) (K.pp [] rfl) rfl ?_
            rintro u h1 H' hle1 ⟨a3, k3, a4, k4, es1, es2, rfl, hes, hes2, rfl⟩
            simp only [List.set_cons_zero, List.set_cons_succ, List.eraseIdx_cons_zero, List.eraseIdx_cons_succ, List.cons_append, List.nil_append]
            refine K.WL.freezeRowN hes.len.symm (Each.all hes fun x c hc => hc.four) (fun h2 hle2 hs2 => ?_)
            refine K.WL.freezeRowN hes2.len.symm (Each.all hes2 fun x c hc => hc.six) (fun h3 hle3 hs3 => ?_)
            have hcp := copied (hs2.le hle3) (hes.mono fun x c hc => hc.le (hle2.trans hle3)) hs3 (hes2.mono fun x c hc => hc.le (hle2.trans hle3))
            have hle' := hle1.trans (hle2.trans hle3)
            refine K.l_nil ?_
            refine X.onE hKK ?_
            refine K.d_on rfl (fun KK hKK => ?_)
            refine K.l_call (Fx.cal rfl) rfl (Does h3 _ to uc _ hcp hwt (hcu.le (hle05.trans hle')) hwu) (K.pp [] rfl) rfl ?_
            rintro u h6 H' hle6 ⟨rfl, cs', rfl, hsf6⟩
            have hsf' := hsf6.le hle' (K.Base.le.refl _)
            have hle'6 := hle'.trans hle6
            obtain ⟨a9, k9, a10, k10, rfl⟩ := hsf6.c.form
            rw [hback] at hsf'
            rw [hback]
            simp only [List.set_cons_zero, List.set_cons_succ, List.eraseIdx_cons_zero, List.eraseIdx_cons_succ, List.cons_append, List.nil_append]
            refine K.l_nil ?_
            refine X.onE hKK ?_
            refine K.d_pu rfl (fun _ _ => X.mv) rfl ?_
            refine K.d_pu rfl (fun _ _ => X.ex) rfl ?_
            refine K.d_pu rfl (fun _ _ => X.ex) rfl ?_
            refine K.d_pu rfl (fun _ _ => X.ex) rfl ?_
            refine K.d_on rfl (fun KK hKK => ?_)
            refine X.stw ?_
            simp only [List.set_cons_zero, List.set_cons_succ, List.eraseIdx_cons_zero, List.eraseIdx_cons_succ, List.cons_append, List.nil_append]
            refine K.l_nil ?_
            refine X.onE hKK ?_
            refine K.d_pu rfl (fun _ _ => X.sg) rfl ?_
            refine K.d_pu rfl (fun _ _ => X.sg) rfl ?_
            refine K.d_nil ?_
            exact K.joined ⟨B9, _, _, h6, hle'.trans hle6, hsf'⟩ (by repeat (first | exact K.Sub.nil _ | refine K.Sub.cons rfl ?_)) rfl rfl
          refine fun q => ?_
          obtain ⟨B9, x9, y9, h6, hle6, hsf6⟩ := q
          dsimp only
          obtain ⟨a9, k9, a10, k10, e⟩ := hsf6.c.form
          obtain ⟨rfl, rfl⟩ : x9 = .slice a9 s.tabs.length k9 ∧ y9 = .slice a10 s.idxs.length k10 := by simpa using e
          clear e
          (repeat' (first | refine X.rq ?_ | (refine X.rc ?_ ?_ <;> intro hc <;> first | (exfalso; omega) | skip)))
          all_goals first | (exfalso; omega) | skip
          refine K.l_callV (Fx.cal rfl) rfl (SameS h6 _ _ s s hsf6.c (hs5.le hle6) hw hw) (K.pp [] rfl) rfl rfl ?_
          simp only [List.nil_append, decide_true]
          (repeat' (first | refine X.rq ?_ | (refine X.rc ?_ ?_ <;> intro hc <;> first | (exfalso; omega) | skip)))
          refine K.WL.perm (K.pp [3] rfl) ?_
          simp only [List.set_cons_zero, List.set_cons_succ, List.eraseIdx_cons_zero, List.eraseIdx_cons_succ, List.cons_append, List.nil_append]
          refine X.stw ?_
          simp only [List.set_cons_zero, List.set_cons_succ, List.eraseIdx_cons_zero, List.eraseIdx_cons_succ, List.cons_append, List.nil_append]
          (repeat' (first | refine X.rq ?_ | (refine X.rc ?_ ?_ <;> intro hc <;> first | (exfalso; omega) | skip)))
          refine K.AT.sel [1, 1, 1] rfl ?_
          refine K.a_round hKL ⟨k + 1, h6, to, _, _⟩ ⟨by simp only; omega, hle05.trans hle6, hsc.le hle6, hwt, hmt⟩ (by repeat (first | exact K.Sub.nil _ | refine K.Sub.cons rfl ?_)) rfl rfl (by simp only; omega)
    · obtain ⟨rfl, hz⟩ := hbad hee0
      subst hz
      (repeat' (first | refine X.rq ?_ | (refine X.rc ?_ ?_ <;> intro hc <;> first | (exfalso; omega) | skip)))
      all_goals first | (exfalso; omega) | (exfalso; simp [zSch] at *; done) | skip
      refine K.AT.sel [0] rfl ?_
      refine K.a_round hKL ⟨k + 1, h4, s, _, _⟩ ⟨by simp only; omega, hle04, hs.le hle4, hw, hm⟩ (by repeat (first | exact K.Sub.nil _ | refine K.Sub.cons rfl ?_)) rfl rfl (by simp only; omega)
  · have hrn := rows_len hm
    have hrw := rows_wf hw hm
    have hr6 : ∀ r ∈ rowsQ s, r.length = 6 := rows_six
    have hpr : (rowsQ s).reverse.Perm (rowsQ s) := List.reverse_perm _
    (repeat' (first | refine X.rq ?_ | (refine X.rc ?_ ?_ <;> intro hc <;> first | (exfalso; omega) | skip)))
    all_goals first | (exfalso; omega) | skip
    all_goals
      refine K.l_call (Fx.cal rfl) rfl (RCopy hb _ s hs hw) (K.pp [] rfl) rfl ?_
      rintro u h1 H' hle1 ⟨a3, k3, a4, k4, es1, es2, rfl, hes, hes2, rfl⟩
      simp only [List.set_cons_zero, List.set_cons_succ, List.eraseIdx_cons_zero, List.eraseIdx_cons_succ, List.cons_append, List.nil_append]
      refine K.WL.freezeRowN hes.len.symm (Each.all hes fun x c hc => hc.four) (fun h2 hle2 hs2 => ?_)
      refine K.WL.freezeRowN hes2.len.symm (Each.all hes2 fun x c hc => hc.six) (fun h3 hle3 hs3 => ?_)
      have hcp := copied (hs2.le hle3) (hes.mono fun x c hc => hc.le (hle2.trans hle3)) hs3 (hes2.mono fun x c hc => hc.le (hle2.trans hle3))
      have hle' := hle1.trans (hle2.trans hle3)
      (repeat' (first | refine X.rq ?_ | (refine X.rc ?_ ?_ <;> intro hc <;> first | (exfalso; omega) | skip)))
      refine K.l_call (Fx.cal rfl) rfl (Rows h3 _ s hcp hw) (K.pp [] rfl) rfl ?_
      rintro u h4 H' hle4 ⟨rfl, v5, rfl, hr5⟩
      simp only [List.set_cons_zero, List.set_cons_succ, List.eraseIdx_cons_zero, List.eraseIdx_cons_succ, List.cons_append, List.nil_append]
      simp only [hm, if_true] at hr5 ⊢
      obtain ⟨es5, h51, h52⟩ := hr5
      have hel := h52.len
      obtain ⟨a5, k5, rfl⟩ := h51.len
      rw [hel] at h51 ⊢
      generalize hlr : rowsQ s = lr at hrn hrw hr6 hpr h51 h52 hel ⊢
      (repeat' (first | refine X.rq ?_ | (refine X.rc ?_ ?_ <;> intro hc <;> first | (exfalso; omega) | skip)))
      all_goals first | (exfalso; omega) | skip
      refine K.WC.nilBuf 65 1 ?_
      refine K.c_loop (σ := RvS) (fun q => [(3, .pointer (some ⟨B3, 0, none⟩)), (12, .slice a5 lr.length k5), (14, bufV q.a q.j q.k), (15, .int .i64 ((q.m : Int) - 1))]) (fun _ => h4) (fun q => bufA 65 1 q.a q.j q.k (es5.drop q.m).reverse.flatten :: blk B3 25 [.slice as_ s.tabs.length ks, .slice as2 s.idxs.length ks2] :: F) (fun q => q.j + q.m = lr.length) (fun q => q.m) ⟨0, lr.length, none, 0⟩ (Nat.zero_add _) (by repeat (first | exact K.Sub.nil _ | refine K.Sub.cons rfl ?_)) rfl (by simp only; rw [List.drop_of_length_le (by rw [hel]; exact Nat.le_refl _)]; rfl) ?_
      rintro ⟨j, m, a, k'⟩ hjm KM hKM
      simp only at hjm ⊢
      cases m with
      | succ m =>
        rw [show (((m + 1 : Nat) : Int) - 1) = (m : Int) by omega]
        have hx1 : lr[m]? = some (lr[m]'(by omega)) := List.getElem?_eq_getElem (by omega)
        obtain ⟨_, hc0, vw, rfl, hvw⟩ := h52.get hx1
        obtain ⟨aw, kw, rfl⟩ := hvw.len
        obtain ⟨bb, oo, rfl, hcx⟩ := h51.at hc0
        (repeat' (first | refine X.rq ?_ | (refine X.rc ?_ ?_ <;> intro hc <;> first | (exfalso; omega) | skip)))
        refine K.s_pure (K.p_load (Fx.agg rfl) rfl (Cels.up hcx).1) rfl ?_
        (repeat' (first | refine X.rq ?_ | (refine X.rc ?_ ?_ <;> intro hc <;> first | (exfalso; omega) | skip)))
        refine K.l_buildSlice (Fx.und rfl) (Fx.sz rfl) rfl (Fx.zr rfl) rfl rfl rfl rfl rfl (fun B => ?_)
        refine K.l_append_at 1 rfl (Fx.und rfl) (Fx.und rfl) rfl (Fx.sz rfl) (Fx.zr rfl) rfl (Fx.byt rfl) rfl rfl (K.src_cells (K.cels_own (pre := []) (cs := [.slice aw _ kw]) (post := []) 0 rfl rfl) rfl (by simp [oneCell])) (by omega) (by omega) rfl (fun a6 k6 => ?_)
        simp only [List.set_cons_zero, List.set_cons_succ, List.eraseIdx_cons_zero, List.eraseIdx_cons_succ, List.cons_append, List.nil_append]
        (repeat' (first | refine X.rq ?_ | (refine X.rc ?_ ?_ <;> intro hc <;> first | (exfalso; omega) | skip)))
        refine K.AT.sel [0] rfl ?_
        refine K.a_round hKM ⟨j + 1, m, a6, k6⟩ (by simp only; omega) (by repeat (first | exact K.Sub.nil _ | refine K.Sub.cons rfl ?_)) rfl (by simp only; rw [drop_rev hc0, List.flatten_append]; rfl) (by simp only; omega)
      | zero =>
        rw [List.drop_zero]
        (repeat' (first | refine X.rq ?_ | (refine X.rc ?_ ?_ <;> intro hc <;> first | (exfalso; omega) | skip)))
        all_goals first | (exfalso; omega) | skip
        refine K.WL.freezeRowN (by simp; omega) (Each.all (Each.reverse h52) fun x c hc => by obtain ⟨w, rfl, _⟩ := hc; rfl) (fun h6 hle6 hs6 => ?_)
        refine K.l_call (Fx.cal rfl) rfl (Read h6 _ lr.reverse ⟨_, hs6, Each.reverse (h52.mono fun r c hc => RowC.le hc hle6)⟩ (fun r hr => (hrw r (List.mem_reverse.1 hr)).1) (fun r hr => (hrw r (List.mem_reverse.1 hr)).2) (by rw [List.length_reverse]; omega)) (K.pp [] rfl) rfl ?_
        rintro u h7 H' hle7 ⟨rfl, ok2, s2, cs2, rfl, hs2, hw2, hp2⟩
        simp only [List.set_cons_zero, List.set_cons_succ, List.eraseIdx_cons_zero, List.eraseIdx_cons_succ, List.cons_append, List.nil_append]
        obtain ⟨rfl, e2⟩ := read_own hp2 hm hw hw2 (by rw [hlr]; exact hpr)
        rw [e2] at hs2 hw2
        simp only [if_true]
        obtain ⟨a9, k9, a10, k10, rfl⟩ := hs2.form
        (repeat' (first | refine X.rq ?_ | (refine X.rc ?_ ?_ <;> intro hc <;> first | (exfalso; omega) | skip)))
        refine K.l_alloc (Fx.zr rfl) rfl rfl (fun B16 => ?_)
        refine X.stw ?_
        simp only [List.set_cons_zero, List.set_cons_succ, List.eraseIdx_cons_zero, List.eraseIdx_cons_succ, List.cons_append, List.nil_append]
        (repeat' (first | refine X.rq ?_ | (refine X.rc ?_ ?_ <;> intro hc <;> first | (exfalso; omega) | skip)))
        all_goals first | (exfalso; omega) | skip
        have hle47 := hle4.trans (hle6.trans hle7)
        refine K.l_callV (Fx.cal rfl) rfl (SameS h7 _ _ s s hs2 (hs.le (hle'.trans hle47)) hw hw) (K.pp [] rfl) rfl rfl ?_
        simp only [List.nil_append, decide_true]
        (repeat' (first | refine X.rq ?_ | (refine X.rc ?_ ?_ <;> intro hc <;> first | (exfalso; omega) | skip)))
        refine K.l_call (Fx.cal rfl) rfl (Awake h7) (K.pp [] rfl) rfl ?_
        rintro u h9 H' hle9 ⟨rfl, rfl⟩
        simp only [List.set_cons_zero, List.set_cons_succ, List.eraseIdx_cons_zero, List.eraseIdx_cons_succ, List.cons_append, List.nil_append]
        (repeat' (first | refine X.rq ?_ | (refine X.rc ?_ ?_ <;> intro hc <;> first | (exfalso; omega) | skip)))
        refine K.AT.dropsA (A := [_, _]) ?_
        refine K.done (.inl rfl) rfl (hle.trans (hle'.trans (hle47.trans hle9))) (H' := []) rfl ⟨rfl, rfl⟩
end Go.Proofs.Ytdjacjhojbkgjaa.Ct
