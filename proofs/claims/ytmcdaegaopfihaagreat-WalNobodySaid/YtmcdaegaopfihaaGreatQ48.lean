/-
  The law: no log at all. Conditions: each theorem's own.
-/
import Derived.Test.YtmcdaegaopfihaaGreatQ25
import Derived.Test.YtmcdaegaopfihaaGreatQ47
namespace Go.Proofs.YtmcdaegaopfihaaGreat.Wl
open Go Go.K Go.Proofs Go.Proofs.YtmcdaegaopfihaaGreat Go.Proofs.YtmcdaegaopfihaaGreat.Pg Go.Proofs.YtmcdaegaopfihaaGreat.Cc Go.Proofs.YtmcdaegaopfihaaGreat.Rc
set_option linter.unusedVariables false
set_option linter.unusedSimpArgs false
set_option maxRecDepth 10000

set_option maxHeartbeats 8000000 in
theorem WalNobodyW (h : Base) (v : Value) (l : List PAct) (n : Int) (hv : ActsV h v l) (hl : l.length ≤ 9223372036854775807) (hn : in64 n) :
    Tr Tryz.prog 3 [v, .int .i64 n] h [] (fun u h' H' => u = .bool true ∧ H' = []) := by
  have hlong := LLong h v l hv hl
  obtain ⟨es, hv, hel, hr⟩ := hv
  obtain ⟨ao, ca, rfl⟩ := hv.len
  rw [hel] at hv hlong ⊢
  refine K.enter Tryz.func3 rfl (Nat.le_of_ble_eq_true rfl) (fun F => ?_)
  simp only [List.nil_append]
  (repeat' (first | refine X.rq ?_ | (refine X.rc ?_ ?_ <;> intro hc <;> first | (exfalso; omega) | skip)))
  refine K.l_call (Fx.cal rfl) rfl hlong (K.pp [] rfl) rfl ?_
  rintro u h' H' - ⟨rfl, rfl, b, rfl, hb⟩
  simp only [List.nil_append]
  cases b with
  | true =>
    (repeat' (first | refine X.rq ?_ | (refine X.rc ?_ ?_ <;> intro hc <;> first | (exfalso; omega) | skip)))
    refine K.l_call (Fx.cal rfl) rfl (Alive _) (K.pp [] rfl) rfl ?_
    rintro u h9 H' le9 ⟨rfl, rfl⟩
    simp only [List.nil_append]
    (repeat' (first | refine X.rq ?_ | (refine X.rc ?_ ?_ <;> intro hc <;> first | (exfalso; omega) | skip)))
    exact K.done (vs := [.bool true]) (by first | exact Or.inl rfl | exact Or.inr rfl) rfl le9 (H' := []) rfl ⟨rfl, rfl⟩
  | false =>
    obtain ⟨hl2, -⟩ := hb rfl
    (repeat' (first | refine X.rq ?_ | (refine X.rc ?_ ?_ <;> intro hc <;> first | (exfalso; omega) | skip)))
    refine K.l_box rfl rfl rfl (fun B => ?_)
    (repeat' (first | refine X.rq ?_ | (refine X.rc ?_ ?_ <;> intro hc <;> first | (exfalso; omega) | skip)))
    refine X.bs (fun B2 => ?_)
    refine K.WL.bufOf (m := 2) (s := 1) rfl (by unfold maxLen; omega) ?_
    refine K.WL.freezeRowN (es := [Value.pointer none, pv B].map fun f => [f]) rfl (fun e he => by obtain ⟨n, _, rfl⟩ := List.mem_map.1 he; rfl) (fun h2 le2 hs2 => ?_)
    have hv := hv.le le2
    have hr : ∀ (j : Nat) c x, es[j]? = some c → l[j]? = some x → ActC h2 c x := fun j c x h1 h3 => (hr j c x h1 h3).le le2
    clear hlong
    (repeat' (first | refine X.rq ?_ | (refine X.rc ?_ ?_ <;> intro hc <;> first | (exfalso; omega) | skip)))
    refine K.c_loop (σ := Nat) (fun k => [(0, .slice ao l.length ca), (1, .int .i64 n), (6, bufV (some B2) 2 2), (7, .int .i64 k)]) (fun _ => h2) (fun _ => blk B 34 lgZ :: F)
      (fun k => k ≤ 2) (fun k => 2 - k) 0 (Nat.zero_le _) (by repeat (first | exact K.Sub.nil _ | refine K.Sub.cons rfl ?_)) rfl rfl ?_
    rintro k hk KL hKL
    by_cases hk2 : k < 2
    · obtain ⟨vk, hk0, hnone⟩ : ∃ vk, ([Value.pointer none, pv B].map fun f => [f])[((k : Nat) : Int).toNat]? = some [vk] ∧ NoneR vk (blk B 34 lgZ) := by
        match k, hk2 with
        | 0, _ => exact ⟨_, rfl, noneNil _⟩
        | 1, _ => exact ⟨_, rfl, noneNew B⟩
      (repeat' (first | refine X.rq ?_ | (refine X.rc ?_ ?_ <;> intro hc <;> first | (exfalso; omega) | skip)))
      refine K.c_loop (σ := Nat) (fun j => [(0, .slice ao l.length ca), (1, .int .i64 n), (6, bufV (some B2) 2 2), (7, .int .i64 k), (8, .int .i64 j)]) (fun _ => h2) (fun _ => blk B 34 lgZ :: F)
        (fun j => j ≤ l.length) (fun j => l.length - j) 0 (Nat.zero_le _) (by repeat (first | exact K.Sub.nil _ | refine K.Sub.cons rfl ?_)) rfl rfl ?_
      rintro j hj KM hKM
      by_cases hjl : j < l.length
      · have hc1 : es[j]? = some (es[j]'(by omega)) := List.getElem?_eq_getElem (by omega)
        have hc0 : es[((j : Nat) : Int).toNat]? = some (es[j]'(by omega)) := by rw [Int.toNat_natCast]; exact hc1
        have he1 : l[j]? = some (l[j]'hjl) := List.getElem?_eq_getElem hjl
        generalize es[j]'(by omega) = c at hc0 hc1
        generalize l[j]'hjl = x at he1
        obtain ⟨hxw, hxn, -, cs, rfl, hx⟩ := hr j c x hc1 he1
        obtain ⟨hw, ad, ai, al, ay, cd, ci, cl, cy, rfl, _⟩ := hx.cells
        have happ := ZAppend h2 vk _ _ x.r hx hnone
        have hflu := ZFlush h2 vk _ hnone
        have hmar := ZMark h2 vk _ (IntKind.u64.wrap x.n) hnone
        have hres := ZReset h2 vk _ 7 hnone
        (repeat' (first | refine X.rq ?_ | (refine X.rc ?_ ?_ <;> intro hc <;> first | (exfalso; omega) | skip)))
        refine X.draw (_) [] (.pu 0 (.pu 1 (.pu 4 (.pu 5 (.st 2 (.st 3 (.st 6 (.pu 7 (.st 8 (.on 9 (.pu 10 (.pu 11 (.pu 12 (.pu 13 (.pu 14 .nil))))))))))))))) ?_ (hQ := by repeat (first | with_reducible refine K.NoPanic.then ?_ | with_reducible refine K.NoPanic.inBlock ?_ | with_reducible exact K.post_noPanic _ _ | exact K.post_noPanic _ _ | exact K.QN_noPanic | exact K.postS_noPanic | exact K.postX_noPanic | exact K.RPX_noPanic))
        refine K.d_pu rfl (fun _ _ => X.mv) rfl ?_
        refine K.d_pu rfl (fun _ _ => X.mv) rfl ?_
        refine K.d_pu rfl (fun _ _ => X.mv) rfl ?_
        refine K.d_pu rfl (fun _ _ => X.mv) rfl ?_
        refine K.d_stE rfl (K.p_indexL hs2 (Fx.und rfl) (Fx.sz rfl) rfl rfl (by omega) hk0) rfl ?_
        rintro v2 ⟨b2, o2, rfl, hcel2⟩
        refine K.d_st rfl (K.p_load (v := vk) (Fx.agg rfl) rfl (K.Cel.up hcel2.1)) rfl ?_
        refine K.d_stE rfl (K.p_indexL hv (Fx.und rfl) (Fx.sz rfl) rfl rfl (by omega) hc0) rfl ?_
        rintro v6 ⟨b6, o6, rfl, hcel6⟩
        have hcr : Cels h2 [] b6 (o6 + 1) (cR x.r (.slice ad x.r.op.data.length cd) (.slice ai x.r.images.length ci) (.slice al x.r.lives.length cl) (.slice ay x.r.dirty.length cy)) := Cels.take 15 (Cels.drop 1 (by simp [cR]) hcel6)
        refine K.d_pu rfl (fun _ _ => X.fa) rfl ?_
        refine K.d_st rfl (K.p_loadM (vs := cR x.r (.slice ad x.r.op.data.length cd) (.slice ai x.r.images.length ci) (.slice al x.r.lives.length cl) (.slice ay x.r.dirty.length cy)) (Fx.agg rfl) rfl (Cels.up hcr) (Fx.sz rfl) rfl) rfl ?_
        refine K.d_on rfl (fun KK hKK => ?_)
        refine K.l_callV (Fx.cal rfl) rfl happ (K.pp [0] rfl) rfl rfl ?_
        simp only [List.cons_append, List.nil_append]
        refine K.l_nil ?_
        refine X.onE hKK ?_
        refine K.d_pu rfl (fun _ _ => X.mv) rfl ?_
        refine K.d_pu rfl (fun _ _ => X.ex) rfl ?_
        refine K.d_pu rfl (fun _ _ => X.ex) rfl ?_
        refine K.d_pu rfl (fun _ _ => X.sg) rfl ?_
        refine K.d_pu rfl (fun _ _ => X.sg) rfl ?_
        refine K.d_nil ?_
        (repeat' (first | refine X.rq ?_ | (refine X.rc ?_ ?_ <;> intro hc <;> first | (exfalso; omega) | skip)))
        refine X.draw (_) [] (.pu 0 (.pu 1 (.pu 2 (.pu 3 (.pu 4 (.st 5 (.st 6 (.on 7 (.pu 8 (.pu 9 (.pu 10 (.pu 11 (.pu 12 (.pu 15 (.pu 16 (.st 13 (.st 14 (.st 17 (.pu 18 (.st 19 (.pu 20 (.on 21 (.pu 22 (.pu 23 (.pu 24 (.pu 25 (.pu 26 (.st 27 (.st 28 (.on 29 (.pu 30 (.pu 31 .nil)))))))))))))))))))))))))))))))) ?_ (hQ := by repeat (first | with_reducible refine K.NoPanic.then ?_ | with_reducible refine K.NoPanic.inBlock ?_ | with_reducible exact K.post_noPanic _ _ | exact K.post_noPanic _ _ | exact K.QN_noPanic | exact K.postS_noPanic | exact K.postX_noPanic | exact K.RPX_noPanic))
        refine K.d_pu rfl (fun _ _ => X.mv) rfl ?_
        refine K.d_pu rfl (fun _ _ => X.bneq) rfl ?_
        rw [decide_eq_false (show ¬ ((1 : Int) ≠ 1) by decide)]
        refine K.d_pu rfl (fun _ _ => X.mv) rfl ?_
        first | refine K.d_skip rfl rfl rfl rfl ?_ | refine K.d_skipU rfl rfl rfl rfl rfl ?_ | refine K.d_puG rfl rfl rfl (fun _ _ => X.mv) rfl ?_
        first | refine K.d_skip rfl rfl rfl rfl ?_ | refine K.d_skipU rfl rfl rfl rfl rfl ?_ | refine K.d_puG rfl rfl rfl (fun _ _ => X.mv) rfl ?_
        refine K.d_stGE rfl rfl rfl (K.p_indexL hs2 (Fx.und rfl) (Fx.sz rfl) rfl rfl (by omega) hk0) rfl ?_
        rintro v5 ⟨b5, o5, rfl, hcel5⟩
        refine K.d_stG rfl rfl rfl (K.p_load (v := vk) (Fx.agg rfl) rfl (K.Cel.up hcel5.1)) rfl ?_
        refine K.d_on rfl (fun KK hKK => ?_)
        refine K.s_take rfl rfl ?_
        refine K.l_callV (Fx.cal rfl) rfl hflu (K.pp [0] rfl) rfl rfl ?_
        simp only [List.cons_append, List.nil_append]
        refine K.l_nil ?_
        refine X.onE hKK ?_
        first | refine K.d_skip rfl rfl rfl rfl ?_ | refine K.d_skipU rfl rfl rfl rfl rfl ?_ | refine K.d_puG rfl rfl rfl (fun _ _ => X.bneq) rfl ?_
        rw [decide_eq_false (show ¬ ((1 : Int) ≠ 1) by decide)]
        refine K.d_pu rfl (fun _ _ => X.pk) rfl ?_
        refine K.d_pu rfl (fun _ _ => X.mv) rfl ?_
        first | refine K.d_skip rfl rfl rfl rfl ?_ | refine K.d_skipU rfl rfl rfl rfl rfl ?_ | refine K.d_puG rfl rfl rfl (fun _ _ => X.mv) rfl ?_
        first | refine K.d_skip rfl rfl rfl rfl ?_ | refine K.d_skipU rfl rfl rfl rfl rfl ?_ | refine K.d_puG rfl rfl rfl (fun _ _ => X.mv) rfl ?_
        first | refine K.d_skip rfl rfl rfl rfl ?_ | refine K.d_skipU rfl rfl rfl rfl rfl ?_ | refine K.d_puG rfl rfl rfl (fun _ _ => X.mv) rfl ?_
        first | refine K.d_skip rfl rfl rfl rfl ?_ | refine K.d_skipU rfl rfl rfl rfl rfl ?_ | refine K.d_puG rfl rfl rfl (fun _ _ => X.mv) rfl ?_
        refine K.d_stGE rfl rfl rfl (K.p_indexL hs2 (Fx.und rfl) (Fx.sz rfl) rfl rfl (by omega) hk0) rfl ?_
        rintro v13 ⟨b13, o13, rfl, hcel13⟩
        refine K.d_stG rfl rfl rfl (K.p_load (v := vk) (Fx.agg rfl) rfl (K.Cel.up hcel13.1)) rfl ?_
        refine K.d_stGE rfl rfl rfl (K.p_indexL hv (Fx.und rfl) (Fx.sz rfl) rfl rfl (by omega) hc0) rfl ?_
        rintro v17 ⟨b17, o17, rfl, hcel17⟩
        have hn17 : Cel h2 [] b17 (o17 + 2 + 14) (.int .i64 x.n) := Cels.get hcel17 16 _ rfl
        first | refine K.d_skip rfl rfl rfl rfl ?_ | refine K.d_skipU rfl rfl rfl rfl rfl ?_ | refine K.d_puG rfl rfl rfl (fun _ _ => X.fa) rfl ?_
        refine K.d_stG rfl rfl rfl (K.p_load (v := .int .i64 x.n) (Fx.agg rfl) rfl (K.Cel.up hn17)) rfl ?_
        first | refine K.d_skip rfl rfl rfl rfl ?_ | refine K.d_skipU rfl rfl rfl rfl rfl ?_ | refine K.d_puG rfl rfl rfl (fun _ _ => X.cv) rfl ?_
        refine K.d_on rfl (fun KK hKK => ?_)
        refine K.s_take rfl rfl ?_
        refine K.l_callV (Fx.cal rfl) rfl hmar (K.pp [0] rfl) rfl rfl ?_
        simp only [List.cons_append, List.nil_append]
        refine K.l_nil ?_
        refine X.onE hKK ?_
        first | refine K.d_skip rfl rfl rfl rfl ?_ | refine K.d_skipU rfl rfl rfl rfl rfl ?_ | refine K.d_puG rfl rfl rfl (fun _ _ => X.bneq) rfl ?_
        rw [decide_eq_false (show ¬ ((1 : Int) ≠ 1) by decide)]
        refine K.d_pu rfl (fun _ _ => X.pk) rfl ?_
        refine K.d_pu rfl (fun _ _ => X.mv) rfl ?_
        first | refine K.d_skip rfl rfl rfl rfl ?_ | refine K.d_skipU rfl rfl rfl rfl rfl ?_ | refine K.d_puG rfl rfl rfl (fun _ _ => X.mv) rfl ?_
        first | refine K.d_skip rfl rfl rfl rfl ?_ | refine K.d_skipU rfl rfl rfl rfl rfl ?_ | refine K.d_puG rfl rfl rfl (fun _ _ => X.mv) rfl ?_
        refine K.d_stGE rfl rfl rfl (K.p_indexL hs2 (Fx.und rfl) (Fx.sz rfl) rfl rfl (by omega) hk0) rfl ?_
        rintro v27 ⟨b27, o27, rfl, hcel27⟩
        refine K.d_stG rfl rfl rfl (K.p_load (v := vk) (Fx.agg rfl) rfl (K.Cel.up hcel27.1)) rfl ?_
        refine K.d_on rfl (fun KK hKK => ?_)
        refine K.s_take rfl rfl ?_
        refine K.l_callV (Fx.cal rfl) rfl hres (K.pp [0] rfl) rfl rfl ?_
        simp only [List.cons_append, List.nil_append]
        refine K.l_nil ?_
        refine X.onE hKK ?_
        first | refine K.d_skip rfl rfl rfl rfl ?_ | refine K.d_skipU rfl rfl rfl rfl rfl ?_ | refine K.d_puG rfl rfl rfl (fun _ _ => X.bneq) rfl ?_
        rw [decide_eq_false (show ¬ ((1 : Int) ≠ 1) by decide)]
        refine K.d_pu rfl (fun _ _ => X.pk) rfl ?_
        refine K.d_nil ?_
        (repeat' (first | refine X.rq ?_ | (refine X.rc ?_ ?_ <;> intro hc <;> first | (exfalso; omega) | skip)))
        refine K.a_round hKM (j + 1) (by omega) (by repeat (first | exact K.Sub.nil _ | refine K.Sub.cons rfl ?_)) rfl rfl (by omega)
      obtain rfl : j = l.length := by omega
      clear hKM
      obtain ⟨b9, o9, e9, hck⟩ := SL.at (ao := some ⟨B2, 0, none⟩) (la := 2) (ca := 2) hs2 (j := k) (c := [vk]) (by rw [Int.toNat_natCast] at hk0; exact hk0)
      cases e9
      have hck := K.Cel.up (K := blk B 34 lgZ :: F) hck.1
      rw [Nat.zero_add, Nat.mul_one] at hck
      (repeat' (first | refine X.rq ?_ | (refine X.rc ?_ ?_ <;> intro hc <;> first | (exfalso; omega) | skip)))
      refine K.l_callV (Fx.cal rfl) rfl (ZBase _ vk _ hnone) (K.pp [0] rfl) rfl rfl ?_
      simp only [List.cons_append, List.nil_append]
      simp only [List.set_cons_zero, List.set_cons_succ, List.eraseIdx_cons_zero, List.eraseIdx_cons_succ, List.cons_append, List.nil_append]
      (repeat' (first | refine X.rq ?_ | (refine X.rc ?_ ?_ <;> intro hc <;> first | (exfalso; omega) | skip)))
      refine K.l_callV (Fx.cal rfl) rfl (ZEnd _ vk _ hnone) (K.pp [0] rfl) rfl rfl ?_
      simp only [List.cons_append, List.nil_append]
      simp only [List.set_cons_zero, List.set_cons_succ, List.eraseIdx_cons_zero, List.eraseIdx_cons_succ, List.cons_append, List.nil_append]
      (repeat' (first | refine X.rq ?_ | (refine X.rc ?_ ?_ <;> intro hc <;> first | (exfalso; omega) | skip)))
      refine K.l_callV (Fx.cal rfl) rfl (ZDurable _ vk _ hnone) (K.pp [0] rfl) rfl rfl ?_
      simp only [List.cons_append, List.nil_append]
      simp only [List.set_cons_zero, List.set_cons_succ, List.eraseIdx_cons_zero, List.eraseIdx_cons_succ, List.cons_append, List.nil_append]
      (repeat' (first | refine X.rq ?_ | (refine X.rc ?_ ?_ <;> intro hc <;> first | (exfalso; omega) | skip)))
      refine K.l_callV (Fx.cal rfl) rfl (ZCheck _ vk _ hnone) (K.pp [0] rfl) rfl rfl ?_
      simp only [List.cons_append, List.nil_append]
      simp only [List.set_cons_zero, List.set_cons_succ, List.eraseIdx_cons_zero, List.eraseIdx_cons_succ, List.cons_append, List.nil_append]
      (repeat' (first | refine X.rq ?_ | (refine X.rc ?_ ?_ <;> intro hc <;> first | (exfalso; omega) | skip)))
      refine K.l_callV (Fx.cal rfl) rfl (ZKept _ vk _ hnone) (K.pp [0] rfl) rfl rfl ?_
      simp only [List.cons_append, List.nil_append]
      simp only [List.set_cons_zero, List.set_cons_succ, List.eraseIdx_cons_zero, List.eraseIdx_cons_succ, List.cons_append, List.nil_append]
      (repeat' (first | refine X.rq ?_ | (refine X.rc ?_ ?_ <;> intro hc <;> first | (exfalso; omega) | skip)))
      refine K.l_callV (Fx.cal rfl) rfl (ZRoom _ vk _ hnone) (K.pp [0] rfl) rfl rfl ?_
      simp only [List.cons_append, List.nil_append]
      simp only [List.set_cons_zero, List.set_cons_succ, List.eraseIdx_cons_zero, List.eraseIdx_cons_succ, List.cons_append, List.nil_append]
      (repeat' (first | refine X.rq ?_ | (refine X.rc ?_ ?_ <;> intro hc <;> first | (exfalso; omega) | skip)))
      refine K.l_callV (Fx.cal rfl) rfl (ZSectors _ vk _ hnone) (K.pp [0] rfl) rfl rfl ?_
      simp only [List.cons_append, List.nil_append]
      simp only [List.set_cons_zero, List.set_cons_succ, List.eraseIdx_cons_zero, List.eraseIdx_cons_succ, List.cons_append, List.nil_append]
      (repeat' (first | refine X.rq ?_ | (refine X.rc ?_ ?_ <;> intro hc <;> first | (exfalso; omega) | skip)))
      all_goals try (exfalso; omega)
      refine K.a_round hKL (k + 1) (by omega) (by repeat (first | exact K.Sub.nil _ | refine K.Sub.cons rfl ?_)) rfl rfl (by omega)
    · obtain rfl : k = 2 := by omega
      (repeat' (first | refine X.rq ?_ | (refine X.rc ?_ ?_ <;> intro hc <;> first | (exfalso; omega) | skip)))
      refine K.l_callV (Fx.cal rfl) rfl (OpenNil h2) (K.pp [] rfl) rfl rfl ?_
      simp only [List.cons_append, List.nil_append]
      (repeat' (first | refine X.rq ?_ | (refine X.rc ?_ ?_ <;> intro hc <;> first | (exfalso; omega) | skip)))
      refine K.l_callV (Fx.cal rfl) rfl (FormatNil h2 n) (K.pp [] rfl) rfl rfl ?_
      simp only [List.cons_append, List.nil_append]
      (repeat' (first | refine X.rq ?_ | (refine X.rc ?_ ?_ <;> intro hc <;> first | (exfalso; omega) | skip)))
      refine K.l_call (Fx.cal rfl) rfl (Alive _) (K.pp [] rfl) rfl ?_
      rintro u h9 H' le9 ⟨rfl, rfl⟩
      simp only [List.nil_append]
      (repeat' (first | refine X.rq ?_ | (refine X.rc ?_ ?_ <;> intro hc <;> first | (exfalso; omega) | skip)))
      exact K.doneC (vs := [.bool true]) (by first | exact Or.inl rfl | exact Or.inr rfl) (.tmp rfl .nil) (le2.trans le9) (D := [_]) (H' := []) rfl ⟨rfl, rfl⟩
end Go.Proofs.YtmcdaegaopfihaaGreat.Wl
