/-
  Trees of pages: the law's own functions: numbers, images, trees compared; long; a tree copied. Conditions: each theorem's own.
-/
import Derived.Test.YtahdbncfegedjaaXy

namespace Go.Proofs.Ytahdbncfegedjaa.Nd
open Go Go.K Go.Proofs Go.Proofs.Ytahdbncfegedjaa Go.Proofs.Ytahdbncfegedjaa.Pg
set_option linter.unusedVariables false
set_option linter.unusedSimpArgs false
set_option maxRecDepth 10000

section
variable {P : Program} {n : NN} {Q : Exit → Act → World → Prop} {E : Env} {h : Base} {H : List Asrt}
theorem AT.freezeRowE {q : Exit} {T sz m : Nat} {a : Option Nat} {cap : Nat} {cs : List Value} (es : List (List Value)) (hm : m = es.length) (hc : cs = es.flatten) (hz : ∀ e ∈ es, e.length = sz) (hk : ∀ h', h.le h' → SL h' sz (bufV a m cap) es → AT P n Q q E h' H) : AT P n Q q E h (bufA T sz a m cap cs :: H) := by
  subst hm; subst hc
  exact K.AT.freezeRow hz fun h' le hs _ => hk h' le hs
end
set_option maxHeartbeats 1000000 in
theorem Numbers (h : Base) (v1 v2 : Value) (l : List Nat) (hu1 : U32s h v1 l) (hu2 : U32s h v2 l) (hl : l.length ≤ 17592186044415) :
    TrV Try.prog 14 [v1, v2] h [] (.bool true) [] := by
  have hv1 := hu1.1
  have hv2 := hu2.1
  have hlen : (l.map (fun n => [uV n])).length = l.length := List.length_map ..
  obtain ⟨ao, ca, rfl⟩ := hv1.len
  obtain ⟨ap, cb, rfl⟩ := hv2.len
  rw [hlen] at hv1 hv2 ⊢
  refine K.enter Try.func14 rfl (Nat.le_of_ble_eq_true rfl) (fun F => ?_)
  simp only [List.nil_append, List.cons_append]
  (repeat' (first | refine X.rq ?_ | (refine X.rc ?_ ?_ <;> intro hc <;> first | (exfalso; omega) | skip)))
  all_goals first | (exfalso; omega) | skip
  refine K.c_loop (σ := Nat) (fun j => [(0, .slice ao l.length ca), (1, .slice ap l.length cb), (5, .int .i64 j)]) (fun _ => h) (fun _ => F) (fun j => j ≤ l.length) (fun j => l.length - j) 0 (Nat.zero_le _) (by repeat (first | exact K.Sub.nil _ | refine K.Sub.cons rfl ?_)) rfl rfl ?_
  intro j hj KL hKL
  by_cases hjl : j < l.length
  · have hx1 : l[j]? = some l[j] := List.getElem?_eq_getElem hjl
    generalize l[j] = x at hx1
    have hc0 : (l.map (fun n => [uV n]))[j]? = some ([uV x]) := by rw [List.getElem?_map, hx1]; rfl
    obtain ⟨bb, oo, rfl, hcx⟩ := hv1.at hc0
    obtain ⟨b2, o2, rfl, hcy⟩ := hv2.at hc0
    (repeat' (first | refine X.rq ?_ | (refine X.rc ?_ ?_ <;> intro hc <;> first | (exfalso; omega) | skip)))
    refine X.draw ([]) [] (.pu 0 (.pu 1 (.pu 2 (.pu 4 (.pu 5 (.pu 6 (.st 3 (.st 7 (.pu 8 .nil))))))))) ?_ (hQ := by repeat (first | with_reducible refine K.NoPanic.then ?_ | with_reducible refine K.NoPanic.inBlock ?_ | with_reducible exact K.post_noPanic _ _ | exact K.post_noPanic _ _ | exact K.QN_noPanic | exact K.postS_noPanic | exact K.postX_noPanic | exact K.RPX_noPanic))
    refine K.d_pu rfl (fun _ _ => X.mv) rfl ?_
    refine K.d_pu rfl (fun _ _ => X.mv) rfl ?_
    refine K.d_pu rfl (fun _ _ => X.ia) rfl ?_
    refine K.d_pu rfl (fun _ _ => X.mv) rfl ?_
    refine K.d_pu rfl (fun _ _ => X.mv) rfl ?_
    refine K.d_pu rfl (fun _ _ => X.ia) rfl ?_
    refine K.d_st rfl (K.p_load (v := .int .u32 x) (Fx.agg rfl) rfl (Cels.up hcx).1) rfl ?_
    refine K.d_st rfl (K.p_load (v := .int .u32 x) (Fx.agg rfl) rfl (Cels.up hcy).1) rfl ?_
    refine K.d_pu rfl (fun _ _ => X.bneq) rfl ?_
    refine K.d_nil ?_
    (repeat' (first | refine X.rq ?_ | (refine X.rc ?_ ?_ <;> intro hc <;> first | (exfalso; omega) | skip)))
    all_goals first | (exfalso; omega) | skip
    refine K.a_round hKL (j + 1) (by omega) (by repeat (first | exact K.Sub.nil _ | refine K.Sub.cons rfl ?_)) rfl rfl (by omega)
  · obtain rfl : j = l.length := by omega
    (repeat' (first | refine X.rq ?_ | (refine X.rc ?_ ?_ <;> intro hc <;> first | (exfalso; omega) | skip)))
    refine K.done (by first | exact Or.inl rfl | exact Or.inr rfl) rfl (by first | exact K.Base.le.refl _ | assumption) (H' := []) rfl ⟨rfl, rfl, rfl⟩
set_option maxHeartbeats 1000000 in
theorem Images (h : Base) (v1 v2 : Value) (l : List PImg) (hv1 : ImgsV h v1 l) (hv2 : ImgsV h v2 l) (hl : l.length ≤ 17592186044415) :
    TrV Try.prog 36 [v1, v2] h [] (.bool true) [] := by
  obtain ⟨es, hv1, he1, hr1⟩ := hv1
  obtain ⟨fs, hv2, he2, hr2⟩ := hv2
  obtain ⟨ao, ca, rfl⟩ := hv1.len
  obtain ⟨ap, cb, rfl⟩ := hv2.len
  rw [he1] at hv1 ⊢
  rw [he2] at hv2 ⊢
  refine K.enter Try.func36 rfl (Nat.le_of_ble_eq_true rfl) (fun F => ?_)
  simp only [List.nil_append, List.cons_append]
  (repeat' (first | refine X.rq ?_ | (refine X.rc ?_ ?_ <;> intro hc <;> first | (exfalso; omega) | skip)))
  all_goals first | (exfalso; omega) | skip
  refine K.c_loop (σ := Nat) (fun j => [(0, .slice ao l.length ca), (1, .slice ap l.length cb), (5, .int .i64 j)]) (fun _ => h) (fun _ => F) (fun j => j ≤ l.length) (fun j => l.length - j) 0 (Nat.zero_le _) (by repeat (first | exact K.Sub.nil _ | refine K.Sub.cons rfl ?_)) rfl rfl ?_
  intro j hj KL hKL
  by_cases hjl : j < l.length
  · obtain ⟨x, hxj⟩ : ∃ x, l[j]? = some x := ⟨_, List.getElem?_eq_getElem hjl⟩
    obtain ⟨c, hcj⟩ : ∃ x, es[j]? = some x := ⟨_, List.getElem?_eq_getElem (by omega)⟩
    obtain ⟨d, hdj⟩ : ∃ x, fs[j]? = some x := ⟨_, List.getElem?_eq_getElem (by omega)⟩
    obtain ⟨hpg, cs, rfl, hpc⟩ := hr1 j c x hcj hxj
    obtain ⟨hpg2, ds, rfl, hpd⟩ := hr2 j d x hdj hxj
    obtain ⟨bb, oo, rfl, hcx⟩ := hv1.at hcj
    obtain ⟨b2, o2, rfl, hcy⟩ := hv2.at hdj
    have hsame := SameP h cs ds x.to x.to hpc hpd
    obtain ⟨_, cv, rfl, _⟩ := hpc
    obtain ⟨_, cv2, rfl, _⟩ := hpd
    (repeat' (first | refine X.rq ?_ | (refine X.rc ?_ ?_ <;> intro hc <;> first | (exfalso; omega) | skip)))
    refine X.draw ([]) [] (.pu 0 (.pu 1 (.pu 2 (.pu 3 (.pu 5 (.pu 6 (.pu 7 (.pu 8 (.st 4 (.st 9 (.pu 10 (.pu 11 (.pu 12 (.pu 13 (.pu 14 (.pu 15 (.pu 17 (.pu 18 (.pu 19 (.pu 20 (.st 16 (.st 21 (.on 22 (.pu 23 (.pu 24 .nil))))))))))))))))))))))))) ?_ (hQ := by repeat (first | with_reducible refine K.NoPanic.then ?_ | with_reducible refine K.NoPanic.inBlock ?_ | with_reducible exact K.post_noPanic _ _ | exact K.post_noPanic _ _ | exact K.QN_noPanic | exact K.postS_noPanic | exact K.postX_noPanic | exact K.RPX_noPanic))
    refine K.d_pu rfl (fun _ _ => X.mv) rfl ?_
    refine K.d_pu rfl (fun _ _ => X.mv) rfl ?_
    refine K.d_pu rfl (fun _ _ => X.ia) rfl ?_
    refine K.d_pu rfl (fun _ _ => X.fa) rfl ?_
    refine K.d_pu rfl (fun _ _ => X.mv) rfl ?_
    refine K.d_pu rfl (fun _ _ => X.mv) rfl ?_
    refine K.d_pu rfl (fun _ _ => X.ia) rfl ?_
    refine K.d_pu rfl (fun _ _ => X.fa) rfl ?_
    refine K.d_st rfl (K.p_load (v := .int .u32 x.page) (Fx.agg rfl) rfl (Cels.up hcx).1) rfl ?_
    refine K.d_st rfl (K.p_load (v := .int .u32 x.page) (Fx.agg rfl) rfl (Cels.up hcy).1) rfl ?_
    refine K.d_pu rfl (fun _ _ => X.bneq) rfl ?_
    rw [decide_eq_false (show ¬ ((x.page : Int) ≠ x.page) from fun h => h rfl)]
    refine K.d_pu rfl (fun _ _ => X.mv) rfl ?_
    first | refine K.d_skip rfl rfl rfl rfl ?_ | refine K.d_skipU rfl rfl rfl rfl rfl ?_ | refine K.d_puG rfl rfl rfl (fun _ _ => X.mv) rfl ?_
    first | refine K.d_skip rfl rfl rfl rfl ?_ | refine K.d_skipU rfl rfl rfl rfl rfl ?_ | refine K.d_puG rfl rfl rfl (fun _ _ => X.mv) rfl ?_
    first | refine K.d_skip rfl rfl rfl rfl ?_ | refine K.d_skipU rfl rfl rfl rfl rfl ?_ | refine K.d_puG rfl rfl rfl (fun _ _ => X.ia) rfl ?_
    first | refine K.d_skip rfl rfl rfl rfl ?_ | refine K.d_skipU rfl rfl rfl rfl rfl ?_ | refine K.d_puG rfl rfl rfl (fun _ _ => X.fa) rfl ?_
    first | refine K.d_skip rfl rfl rfl rfl ?_ | refine K.d_skipU rfl rfl rfl rfl rfl ?_ | refine K.d_puG rfl rfl rfl (fun _ _ => X.mv) rfl ?_
    first | refine K.d_skip rfl rfl rfl rfl ?_ | refine K.d_skipU rfl rfl rfl rfl rfl ?_ | refine K.d_puG rfl rfl rfl (fun _ _ => X.mv) rfl ?_
    first | refine K.d_skip rfl rfl rfl rfl ?_ | refine K.d_skipU rfl rfl rfl rfl rfl ?_ | refine K.d_puG rfl rfl rfl (fun _ _ => X.ia) rfl ?_
    first | refine K.d_skip rfl rfl rfl rfl ?_ | refine K.d_skipU rfl rfl rfl rfl rfl ?_ | refine K.d_puG rfl rfl rfl (fun _ _ => X.fa) rfl ?_
    refine K.d_stG rfl rfl rfl (K.p_loadM (Fx.agg rfl) rfl (Cels.up hcx).2 (Fx.sz rfl) rfl) rfl ?_
    refine K.d_stG rfl rfl rfl (K.p_loadM (Fx.agg rfl) rfl (Cels.up hcy).2 (Fx.sz rfl) rfl) rfl ?_
    refine K.d_on rfl (fun KK hKK => ?_)
    refine K.s_take rfl rfl ?_
    refine K.l_callV (Fx.cal rfl) rfl hsame (K.pp [] rfl) rfl rfl ?_
    rw [decide_eq_true rfl]
    simp only [List.nil_append]
    refine K.l_nil ?_
    refine X.onE hKK ?_
    first | refine K.d_skip rfl rfl rfl rfl ?_ | refine K.d_skipU rfl rfl rfl rfl rfl ?_ | refine K.d_puG rfl rfl rfl (fun _ _ => X.nt) rfl ?_
    refine K.d_pu rfl (fun _ _ => X.pk) rfl ?_
    refine K.d_nil ?_
    (repeat' (first | refine X.rq ?_ | (refine X.rc ?_ ?_ <;> intro hc <;> first | (exfalso; omega) | skip)))
    refine K.a_round hKL (j + 1) (by omega) (by repeat (first | exact K.Sub.nil _ | refine K.Sub.cons rfl ?_)) rfl rfl (by omega)
  · obtain rfl : j = l.length := by omega
    (repeat' (first | refine X.rq ?_ | (refine X.rc ?_ ?_ <;> intro hc <;> first | (exfalso; omega) | skip)))
    refine K.done (by first | exact Or.inl rfl | exact Or.inr rfl) rfl (by first | exact K.Base.le.refl _ | assumption) (H' := []) rfl ⟨rfl, rfl, rfl⟩
theorem Alike (h : Base) (cs ds : List Value) (t : PTree) (hx : TreeC h cs t) (hy : TreeC h ds t) (hl : t.pages.length ≤ 17592186044415) : TrV Try.prog 15 [.agg cs.toArray, .agg ds.toArray] h [] (.bool true) [] := by
  obtain ⟨hb, he, hpl, pv, rfl, hiv⟩ := hx
  obtain ⟨_, _, _, pv2, rfl, hiv2⟩ := hy
  have him := Images h pv pv2 t.pages hiv hiv2 hl
  obtain ⟨es, hv1, he1, hr1⟩ := hiv
  obtain ⟨fs, hv2, he2, hr2⟩ := hiv2
  obtain ⟨ao, ca, rfl⟩ := hv1.len
  obtain ⟨ap, cb, rfl⟩ := hv2.len
  refine K.enter Try.func15 rfl (Nat.le_of_ble_eq_true rfl) (fun F => ?_)
  (repeat' (first | refine X.rq ?_ | (refine X.rc ?_ ?_ <;> intro hc <;> first | (exfalso; omega) | skip)))
  refine K.l_box rfl rfl rfl (fun B2 => ?_)
  refine K.l_box rfl rfl rfl (fun B3 => ?_)
  (repeat' (first | refine X.rq ?_ | (refine X.rc ?_ ?_ <;> intro hc <;> first | (exfalso; omega) | skip)))
  refine K.l_callV (Fx.cal rfl) rfl him (K.pp [] rfl) rfl rfl ?_
  simp only [List.nil_append]
  (repeat' (first | refine X.rq ?_ | (refine X.rc ?_ ?_ <;> intro hc <;> first | (exfalso; omega) | skip)))
  all_goals
    refine K.AT.drop (K.AT.drop ?_)
    refine K.done (by first | exact Or.inl rfl | exact Or.inr rfl) rfl (by first | exact K.Base.le.refl _ | assumption) (H' := []) rfl ⟨?_, rfl, rfl⟩
    show Value.bool _ = Value.bool _
    congr 1
    first | rfl | (rw [decide_eq_true_iff]) | simp
end Go.Proofs.Ytahdbncfegedjaa.Nd
