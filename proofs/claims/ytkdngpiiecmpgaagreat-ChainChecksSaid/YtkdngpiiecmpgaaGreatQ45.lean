/-
 N6: the texts Nu Nv in one. Conditions: each theorem's own.
-/
import Derived.Test.YtkdngpiiecmpgaaGreatQ35
import Derived.Test.YtkdngpiiecmpgaaGreatQ44
/-! Records in the law: how many, copied, kept; what is told. Conditions: each theorem's own. -/
namespace Go.Proofs.YtkdngpiiecmpgaaGreat.Ch
open Go Go.K Go.Proofs Go.Proofs.YtkdngpiiecmpgaaGreat Go.Proofs.YtkdngpiiecmpgaaGreat.Pg Go.Proofs.YtkdngpiiecmpgaaGreat.Rc
set_option linter.unusedVariables false
set_option linter.unusedSimpArgs false
set_option maxRecDepth 10000

structure SumS where
 j : Nat
 n : Int
set_option maxRecDepth 200000 in
set_option maxHeartbeats 8000000 in
theorem LSize (h : Base) (cs : List Value) (p : Pag) (hx : PagC h cs p) : Tr Tryz.prog 24 [.agg cs.toArray] h [] (fun u h' H' => h = h' ∧ H' = [] ∧ ∃ n : Int, u = .int .i64 n) := by
 obtain ⟨hw, cv, rfl, es, hv, hel, hr⟩ := hx
 have hlen := hw.len
 obtain ⟨ao, ca, rfl⟩ := hv.len
 rw [hel] at hv ⊢
 generalize hpl : p.cells = l at hv hel hr hlen ⊢
 clear hw
 refine K.enter Tryz.func24 rfl (Nat.le_of_ble_eq_true rfl) (fun F => ?_)
 simp only [List.nil_append]
 (repeat' (first | refine X.rq ?_ | (refine X.rc ?_ ?_ <;> intro hc <;> first | (exfalso; omega) | skip)))
 refine K.l_box rfl rfl rfl (fun B1 => ?_)
 (repeat' (first | refine X.rq ?_ | (refine X.rc ?_ ?_ <;> intro hc <;> first | (exfalso; omega) | skip)))
 refine K.c_loop (σ := SumS) (fun q => [(1, .pointer (some ⟨B1, 0, none⟩)), (3, .int .i64 q.n), (4, .int .i64 q.j)]) (fun _ => h) (fun _ => blk B1 50 (cP p (.slice ao l.length ca)) :: F)
  (fun q => q.j ≤ l.length) (fun q => l.length - q.j) ⟨0, 0⟩ (Nat.zero_le _) (by repeat (first | exact K.Sub.nil _ | refine K.Sub.cons rfl ?_)) rfl rfl ?_
 rintro ⟨j, n⟩ hj KL hKL
 dsimp only at hj ⊢
 by_cases hjl : j < l.length
 ·by_cases hj4 : j < 4096
  ·have hc1 : es[j]? = some (es[j]'(by omega)) := List.getElem?_eq_getElem (by omega)
   have hx1 : l[j]? = some (l[j]'hjl) := List.getElem?_eq_getElem hjl
   generalize es[j]'(by omega) = c at hc1
   generalize l[j]'hjl = x at hx1
   obtain ⟨_, hdl, ao3, ca3, rfl, hbv⟩ := hr j c x hc1 hx1
   obtain ⟨bb, oo, rfl, hcx⟩ := hv.at hc1
   have hcd := Cels.get (Cels.up (K := blk B1 50 (cP p (.slice (some ⟨bb, oo, none⟩) l.length ca)) :: F) hcx) 2 (.slice ao3 x.data.length ca3) rfl
   (repeat' (first | refine X.rq ?_ | (refine X.rc ?_ ?_ <;> intro hc <;> first | (exfalso; omega) | skip)))
   refine K.a_round hKL ⟨j + 1, _⟩ (by dsimp only; omega) (by repeat (first | exact K.Sub.nil _ | refine K.Sub.cons rfl ?_)) rfl rfl (by dsimp only; omega)
  ·(repeat' (first | refine X.rq ?_ | (refine X.rc ?_ ?_ <;> intro hc <;> first | (exfalso; omega) | skip)))
   refine K.AT.drop ?_
   refine K.done (by first | exact Or.inl rfl | exact Or.inr rfl) rfl (by first | exact K.Base.le.refl _ | assumption) (H' := []) rfl ⟨rfl, rfl, _, rfl⟩
 ·(repeat' (first | refine X.rq ?_ | (refine X.rc ?_ ?_ <;> intro hc <;> first | (exfalso; omega) | skip)))
  refine K.AT.drop ?_
  refine K.done (by first | exact Or.inl rfl | exact Or.inr rfl) rfl (by first | exact K.Base.le.refl _ | assumption) (H' := []) rfl ⟨rfl, rfl, _, rfl⟩
structure FewR (r : Recd) : Prop where
 img : r.images.length ≤ 200
 liv : r.lives.length ≤ 200
 dir : r.dirty.length ≤ 200
 dat : r.op.data.length ≤ 2000
set_option maxHeartbeats 16000000 in
theorem LLong (h : Base) (v w : Value) (es : List (List Value)) (l : List Recd) (eis : List (List Value)) (ps : List PImg) (hv : SL h 15 v es) (hr : RowsG (RecC h) es l) (hl : l.length ≤ 9223372036854775807) (hv2 : SL h 5 w eis) (hr2 : RowsG (ImgC h) eis ps) (hl2 : ps.length ≤ 9223372036854775807) :
  Tr Tryz.prog 8 [v, w] h [] (fun u h' H' => h = h' ∧ H' = [] ∧ ∃ b, u = .bool b ∧ (b = false → l.length ≤ 200 ∧ (∀ r ∈ l, FewR r) ∧ ps.length ≤ 200)) := by
 have hel := hr.1
 have hel2 := hr2.1
 obtain ⟨ao, ca, rfl⟩ := hv.len
 obtain ⟨ao2, ca2, rfl⟩ := hv2.len
 rw [hel] at hv ⊢
 rw [hel2] at hv2 ⊢
 have hr := fun (_ : Unit) => hr
 have hr2 := fun (_ : Unit) => hr2
 refine K.enter Tryz.func8 rfl (Nat.le_of_ble_eq_true rfl) (fun F => ?_)
 simp only [List.nil_append]
 (repeat' (first | refine X.rq ?_ | (refine X.rc ?_ ?_ <;> intro hc <;> first | (exfalso; omega) | skip)))
 refine K.c_loop (σ := SumS) (fun q => [(0, .slice ao l.length ca), (1, .slice ao2 ps.length ca2), (5, .int .i64 q.n), (6, .int .i64 q.j)]) (fun _ => h) (fun _ => F)
  (fun q => q.j ≤ l.length ∧ q.j ≤ 201 ∧ ∀ i r, i < q.j → l[i]? = some r → FewR r) (fun q => l.length - q.j) ⟨0, 0⟩ ⟨Nat.zero_le _, Nat.zero_le _, (fun i r hi => absurd hi (Nat.not_lt_zero _))⟩ (by repeat (first | exact K.Sub.nil _ | refine K.Sub.cons rfl ?_)) rfl rfl ?_
 rintro ⟨j, n⟩ ⟨hj, hj2, hyes⟩ KL hKL
 dsimp only at hj hj2 hyes ⊢
 have hyes := fun (_ : Unit) => hyes
 by_cases hjl : j < l.length ∧ j ≤ 200
 ·obtain ⟨hjl, hj200⟩ := hjl
  have hc1 : es[j]? = some (es[j]'(by omega)) := List.getElem?_eq_getElem (by omega)
  have hx1 : l[j]? = some (l[j]'hjl) := List.getElem?_eq_getElem hjl
  generalize es[j]'(by omega) = c at hc1
  generalize l[j]'hjl = r at hx1
  obtain ⟨hw, ad, ai, al, ay, cd, ci, cl, cy, rfl, hb, ⟨ems, hi1, hi2, hi3⟩, hl4, hd2⟩ := ((hr ()).2 j c r hc1 hx1).cells
  have himl := hw.images
  have hlvl := hw.lives
  have hdrl := hw.dirty
  have hopl := hw.op.len
  clear hw hb hl4 hd2
  obtain ⟨bb, oo, rfl, hcx⟩ := hv.at hc1
  have g8 := Cels.get (Cels.up (K := F) hcx) 11 (.slice ai r.images.length ci) rfl
  have g9 := Cels.get (Cels.up (K := F) hcx) 12 (.slice al r.lives.length cl) rfl
  have g10 := Cels.get (Cels.up (K := F) hcx) 13 (.slice ay r.dirty.length cy) rfl
  have g7 := Cels.get (Cels.up (K := F) hcx) 10 (.slice ad r.op.data.length cd) rfl
  clear hcx
  by_cases h1 : 200 < r.images.length
  ·(repeat' (first | refine X.rq ?_ | (refine X.rc ?_ ?_ <;> intro hc <;> first | (exfalso; omega) | skip)))
   refine K.done (by first | exact Or.inl rfl | exact Or.inr rfl) rfl (by first | exact K.Base.le.refl _ | assumption) (H' := []) rfl ⟨rfl, rfl, true, rfl, fun e => by cases e⟩
  by_cases h2 : 200 < r.lives.length
  ·(repeat' (first | refine X.rq ?_ | (refine X.rc ?_ ?_ <;> intro hc <;> first | (exfalso; omega) | skip)))
   refine K.done (by first | exact Or.inl rfl | exact Or.inr rfl) rfl (by first | exact K.Base.le.refl _ | assumption) (H' := []) rfl ⟨rfl, rfl, true, rfl, fun e => by cases e⟩
  by_cases h3 : 200 < r.dirty.length
  ·(repeat' (first | refine X.rq ?_ | (refine X.rc ?_ ?_ <;> intro hc <;> first | (exfalso; omega) | skip)))
   refine K.done (by first | exact Or.inl rfl | exact Or.inr rfl) rfl (by first | exact K.Base.le.refl _ | assumption) (H' := []) rfl ⟨rfl, rfl, true, rfl, fun e => by cases e⟩
  by_cases h4 : 2000 < r.op.data.length
  ·(repeat' (first | refine X.rq ?_ | (refine X.rc ?_ ?_ <;> intro hc <;> first | (exfalso; omega) | skip)))
   refine K.done (by first | exact Or.inl rfl | exact Or.inr rfl) rfl (by first | exact K.Base.le.refl _ | assumption) (H' := []) rfl ⟨rfl, rfl, true, rfl, fun e => by cases e⟩
  have hi3 := fun (_ : Unit) => hi3
  (repeat' (first | refine X.rq ?_ | (refine X.rc ?_ ?_ <;> intro hc <;> first | (exfalso; omega) | skip)))
  refine K.c_loop (σ := SumS) (fun q => [(0, .slice (some ⟨bb, oo, none⟩) l.length ca), (1, .slice ao2 ps.length ca2), (5, .int .i64 q.n), (6, .int .i64 j), (7, .int .i64 q.j)]) (fun _ => h) (fun _ => F)
   (fun q => q.j ≤ r.images.length) (fun q => r.images.length - q.j) ⟨0, n⟩ (Nat.zero_le _) (by repeat (first | exact K.Sub.nil _ | refine K.Sub.cons rfl ?_)) rfl rfl ?_
  rintro ⟨k, n2⟩ hk KM hKM
  dsimp only at hk ⊢
  by_cases hkl : k < r.images.length
  ·have hc2 : ems[k]? = some (ems[k]'(by omega)) := List.getElem?_eq_getElem (by omega)
   have hx2 : r.images[k]? = some (r.images[k]'hkl) := List.getElem?_eq_getElem hkl
   generalize ems[k]'(by omega) = e at hc2
   generalize r.images[k]'hkl = m at hx2
   obtain ⟨_, pcs, rfl, hpm⟩ := hi3 () k e m hc2 hx2
   have hsz := LSize h pcs m.to hpm
   obtain ⟨_, cv, rfl, em, hsm5, _⟩ := hpm
   obtain ⟨ao5, ca5, rfl⟩ := hsm5.len
   obtain ⟨b5, o5, rfl, hcm⟩ := hi1.at hc2
   (repeat' (first | refine X.rq ?_ | (refine X.rc ?_ ?_ <;> intro hc <;> first | (exfalso; omega) | skip)))
   refine K.s_pure (K.p_loadM (Fx.agg rfl) rfl (Cels.up hcm).2 (Fx.sz rfl) rfl) rfl ?_
   (repeat' (first | refine X.rq ?_ | (refine X.rc ?_ ?_ <;> intro hc <;> first | (exfalso; omega) | skip)))
   refine K.l_call (Fx.cal rfl) rfl hsz (K.pp [] rfl) rfl ?_
   rintro u h' H' - ⟨e, rfl, n3, rfl⟩
   obtain rfl := e
   simp only [List.nil_append]
   (repeat' (first | refine X.rq ?_ | (refine X.rc ?_ ?_ <;> intro hc <;> first | (exfalso; omega) | skip)))
   refine K.a_round hKM ⟨k + 1, _⟩ (by dsimp only; omega) (by repeat (first | exact K.Sub.nil _ | refine K.Sub.cons rfl ?_)) rfl rfl (by dsimp only; omega)
  ·obtain rfl : k = r.images.length := by omega
   (repeat' (first | refine X.rq ?_ | (refine X.rc ?_ ?_ <;> intro hc <;> first | (exfalso; omega) | skip)))
   refine K.a_round hKL ⟨j + 1, n2⟩ ⟨by dsimp only; omega, by dsimp only; omega, fun i y hi hy => ?_⟩ (by repeat (first | exact K.Sub.nil _ | refine K.Sub.cons rfl ?_)) rfl rfl (by dsimp only; omega)
   dsimp only at hi
   by_cases hij : i = j
   ·subst hij; rw [hx1] at hy; obtain rfl := Option.some.inj hy; exact ⟨by omega, by omega, by omega, by omega⟩
   ·exact hyes () i y (by omega) hy
 ·have hfin := fun (_ : Unit) => (show l.length ≤ 200 → ∀ r ∈ l, FewR r from fun hle r hm => by
   obtain ⟨i, hi⟩ := List.mem_iff_getElem?.1 hm
   have := (List.getElem?_eq_some_iff.1 hi).1
   exact hyes () i r (by omega) hi)
  clear hyes
  have hjx : ¬ j < l.length ∨ ¬ j ≤ 200 := Classical.not_and_iff_not_or_not.1 hjl
  clear hjl
  by_cases hj1 : j < l.length
  all_goals
   (repeat' (first | refine X.rq ?_ | (refine X.rc ?_ ?_ <;> intro hc <;> first | (exfalso; omega) | skip)))
   refine K.c_loop (σ := SumS) (fun q => [(0, .slice ao l.length ca), (1, .slice ao2 ps.length ca2), (5, .int .i64 q.n), (8, .int .i64 q.j)]) (fun _ => h) (fun _ => F)
    (fun q => q.j ≤ ps.length) (fun q => ps.length - q.j) ⟨0, n⟩ (Nat.zero_le _) (by repeat (first | exact K.Sub.nil _ | refine K.Sub.cons rfl ?_)) rfl rfl ?_
   rintro ⟨k, n2⟩ hk KM hKM
   dsimp only at hk ⊢
   by_cases hkl : k < ps.length ∧ k ≤ 200
   ·obtain ⟨hkl, hk200⟩ := hkl
    have hc2 : eis[k]? = some (eis[k]'(by omega)) := List.getElem?_eq_getElem (by omega)
    have hx2 : ps[k]? = some (ps[k]'hkl) := List.getElem?_eq_getElem hkl
    generalize eis[k]'(by omega) = e at hc2
    generalize ps[k]'hkl = m at hx2
    obtain ⟨_, pcs, rfl, hpm⟩ := (hr2 ()).2 k e m hc2 hx2
    have hsz := LSize h pcs m.to hpm
    obtain ⟨_, cv, rfl, em, hsm5, _⟩ := hpm
    obtain ⟨ao5, ca5, rfl⟩ := hsm5.len
    obtain ⟨b5, o5, rfl, hcm⟩ := hv2.at hc2
    (repeat' (first | refine X.rq ?_ | (refine X.rc ?_ ?_ <;> intro hc <;> first | (exfalso; omega) | skip)))
    refine K.s_pure (K.p_loadM (Fx.agg rfl) rfl (Cels.up hcm).2 (Fx.sz rfl) rfl) rfl ?_
    (repeat' (first | refine X.rq ?_ | (refine X.rc ?_ ?_ <;> intro hc <;> first | (exfalso; omega) | skip)))
    refine K.l_call (Fx.cal rfl) rfl hsz (K.pp [] rfl) rfl ?_
    rintro u h' H' - ⟨e, rfl, n3, rfl⟩
    obtain rfl := e
    simp only [List.nil_append]
    (repeat' (first | refine X.rq ?_ | (refine X.rc ?_ ?_ <;> intro hc <;> first | (exfalso; omega) | skip)))
    refine K.a_round hKM ⟨k + 1, _⟩ (by dsimp only; omega) (by repeat (first | exact K.Sub.nil _ | refine K.Sub.cons rfl ?_)) rfl rfl (by dsimp only; omega)
   ·have hkx : ¬ k < ps.length ∨ ¬ k ≤ 200 := Classical.not_and_iff_not_or_not.1 hkl
    clear hkl
    by_cases hk1 : k < ps.length
    all_goals
     by_cases hb1 : 200 < l.length
     ·(repeat' (first | refine X.rq ?_ | (refine X.rc ?_ ?_ <;> intro hc <;> first | (exfalso; omega) | skip)))
      all_goals refine K.done (by first | exact Or.inl rfl | exact Or.inr rfl) rfl (by first | exact K.Base.le.refl _ | assumption) (H' := []) rfl ⟨rfl, rfl, true, rfl, fun e => by cases e⟩
     ·by_cases hb2 : 200 < ps.length
      ·(repeat' (first | refine X.rq ?_ | (refine X.rc ?_ ?_ <;> intro hc <;> first | (exfalso; omega) | skip)))
       all_goals refine K.done (by first | exact Or.inl rfl | exact Or.inr rfl) rfl (by first | exact K.Base.le.refl _ | assumption) (H' := []) rfl ⟨rfl, rfl, true, rfl, fun e => by cases e⟩
      ·(repeat' (first | refine X.rq ?_ | (refine X.rc ?_ ?_ <;> intro hc <;> first | (exfalso; omega) | skip)))
       all_goals refine K.done (by first | exact Or.inl rfl | exact Or.inr rfl) rfl (by first | exact K.Base.le.refl _ | assumption) (H' := []) rfl ⟨rfl, rfl, _, rfl, fun _ => ⟨by omega, hfin () (by omega), by omega⟩⟩
structure CpyS where
 j : Nat
 a : Option Nat
 k : Nat
 es : List (List Value)
 cs : List Value
 b : Base
set_option maxHeartbeats 8000000 in
theorem LCopied (h : Base) (v : Value) (es : List (List Value)) (l : List Recd) (hv : SL h 15 v es) (hr : RowsG (RecC h) es l) (hl : l.length ≤ 1000) (hs : ∀ r ∈ l, shortX r) :
  Tr Tryz.prog 10 [v] h [] (fun u h' H' => H' = [] ∧ ∃ es', SL h' 15 u es' ∧ RowsG (RecC h') es' l) := by
 have hel := hr.1
 obtain ⟨ao, ca, rfl⟩ := hv.len
 rw [hel] at hv ⊢
 have hr := fun (_ : Unit) => hr
 have hs := fun (_ : Unit) => hs
 refine K.enter Tryz.func10 rfl (Nat.le_of_ble_eq_true rfl) (fun F => ?_)
 simp only [List.nil_append]
 (repeat' (first | refine X.rq ?_ | (refine X.rc ?_ ?_ <;> intro hc <;> first | (exfalso; omega) | skip)))
 refine K.WC.nilBuf 63 15 ?_
 refine K.c_loop (σ := CpyS) (fun q => [(0, .slice ao l.length ca), (3, bufV q.a q.j q.k), (4, .int .i64 q.j)]) (fun q => q.b) (fun q => bufA 63 15 q.a q.j q.k q.cs :: F)
  (fun q => q.j ≤ l.length ∧ h.le q.b ∧ RowsG (RecC q.b) q.es (l.take q.j) ∧ q.cs = q.es.flatten) (fun q => l.length - q.j) ⟨0, none, 0, [], [], h⟩ ⟨Nat.zero_le _, .refl _, ⟨rfl, fun j c x hc => by cases hc⟩, rfl⟩ (by repeat (first | exact K.Sub.nil _ | refine K.Sub.cons rfl ?_)) rfl rfl ?_
 rintro ⟨j, a, k, es1, cs1, h1⟩ ⟨hj, le1, hr1, hcs1⟩ KL hKL
 dsimp only at hj le1 hr1 hcs1 ⊢
 by_cases hjl : j < l.length
 ·have hc1 : es[j]? = some (es[j]'(by omega)) := List.getElem?_eq_getElem (by omega)
  have hx1 : l[j]? = some (l[j]'hjl) := List.getElem?_eq_getElem hjl
  have hsx := hs () _ (List.getElem_mem hjl)
  generalize es[j]'(by omega) = c at hc1
  generalize l[j]'hjl = r at hx1 hsx
  have hxc := ((hr ()).2 j c r hc1 hx1).le le1
  have hz := fifteen hxc
  have hcp := RecCopy h1 c r hxc hsx
  obtain ⟨bb, oo, rfl, hcx⟩ := (hv.le le1).at hc1
  clear hxc hsx
  (repeat' (first | refine X.rq ?_ | (refine X.rc ?_ ?_ <;> intro hc <;> first | (exfalso; omega) | skip)))
  refine K.s_pure (K.p_loadM (Fx.agg rfl) rfl (Cels.up hcx) (Fx.sz rfl) hz) rfl ?_
  (repeat' (first | refine X.rq ?_ | (refine X.rc ?_ ?_ <;> intro hc <;> first | (exfalso; omega) | skip)))
  refine K.l_call (Fx.cal rfl) rfl hcp (K.pp [] rfl) rfl ?_
  rintro u h2 H' le2 ⟨rfl, cs2, rfl, hrc2⟩
  have hrc3 := hrc2
  obtain ⟨_, ad, ai, al, ay, cd, ci, cl, cy, rfl, _⟩ := hrc2.cells
  simp only [List.nil_append]
  (repeat' (first | refine X.rq ?_ | (refine X.rc ?_ ?_ <;> intro hc <;> first | (exfalso; omega) | skip)))
  refine K.l_buildSlice (Fx.und rfl) (Fx.sz rfl) rfl (Fx.zr rfl) rfl rfl rfl (cs := cR r (.slice ad r.op.data.length cd) (.slice ai r.images.length ci) (.slice al r.lives.length cl) (.slice ay r.dirty.length cy)) rfl rfl (fun B17 => ?_)
  refine K.l_append_at 1 rfl (Fx.und rfl) (Fx.und rfl) rfl (Fx.sz rfl) (Fx.zr rfl) rfl (Fx.byt rfl) rfl rfl (K.src_cells (K.cels_own (pre := []) (cs := cR r (.slice ad r.op.data.length cd) (.slice ai r.images.length ci) (.slice al r.lives.length cl) (.slice ay r.dirty.length cy)) (post := []) 0 rfl rfl) rfl (by simp [oneCell, cR])) (by omega) (by omega) rfl (fun a6 cap6 => ?_)
  simp only [List.set_cons_zero, List.set_cons_succ, List.eraseIdx_cons_zero, List.eraseIdx_cons_succ, List.cons_append, List.nil_append]
  (repeat' (first | refine X.rq ?_ | (refine X.rc ?_ ?_ <;> intro hc <;> first | (exfalso; omega) | skip)))
  refine K.AT.drop ?_
  refine K.a_round hKL ⟨j + 1, a6, cap6, es1 ++ [cR r (.slice ad r.op.data.length cd) (.slice ai r.images.length ci) (.slice al r.lives.length cl) (.slice ay r.dirty.length cy)], _, h2⟩ ⟨by dsimp only; omega, le1.trans le2, ?_, by dsimp only; rw [hcs1, List.flatten_append]; simp⟩ (by repeat (first | exact K.Sub.nil _ | refine K.Sub.cons rfl ?_)) rfl rfl (by dsimp only; omega)
  dsimp only
  rw [List.take_add_one, hx1]
  exact RowsG.push (RowsG.mono (fun c y hc => hc.le le2) hr1) hrc3
 ·obtain rfl : j = l.length := by omega
  rw [List.take_length] at hr1
  (repeat' (first | refine X.rq ?_ | (refine X.rc ?_ ?_ <;> intro hc <;> first | (exfalso; omega) | skip)))
  refine Ch.AT.freezeRowE es1 hr1.1.symm hcs1 (fun e he => ?_) (fun h2 le2 hsl => ?_)
  ·obtain ⟨i, hi⟩ := List.mem_iff_getElem?.1 he
   have := (List.getElem?_eq_some_iff.1 hi).1
   exact fifteen (hr1.2 i e (l[i]'(by have := hr1.1; omega)) hi (List.getElem?_eq_getElem _))
  have le3 := le1.trans le2
  refine K.done (by first | exact Or.inl rfl | exact Or.inr rfl) rfl (by first | exact K.Base.le.refl _ | assumption) (H' := []) rfl ⟨rfl, es1, hsl, RowsG.mono (fun c y hc => hc.le le2) hr1⟩
set_option maxHeartbeats 8000000 in
theorem LKept (h : Base) (v w : Value) (es es2 : List (List Value)) (l : List Recd) (hv : SL h 15 v es) (hr : RowsG (RecC h) es l) (hv2 : SL h 15 w es2) (hr2 : RowsG (RecC h) es2 l) (hl : l.length ≤ 9223372036854775807) :
  TrV Tryz.prog 14 [v, w] h [] (.bool true) [] := by
 have hel := hr.1
 have hel2 := hr2.1
 obtain ⟨ao, ca, rfl⟩ := hv.len
 obtain ⟨ao2, ca2, rfl⟩ := hv2.len
 rw [hel] at hv ⊢
 rw [hel2] at hv2 ⊢
 have hr := fun (_ : Unit) => hr
 have hr2 := fun (_ : Unit) => hr2
 refine K.enter Tryz.func14 rfl (Nat.le_of_ble_eq_true rfl) (fun F => ?_)
 simp only [List.nil_append]
 (repeat' (first | refine X.rq ?_ | (refine X.rc ?_ ?_ <;> intro hc <;> first | (exfalso; omega) | skip)))
 refine K.c_loop (σ := Nat) (fun j => [(0, .slice ao l.length ca), (1, .slice ao2 l.length ca2), (5, .int .i64 j)]) (fun _ => h) (fun _ => F) (fun j => j ≤ l.length) (fun j => l.length - j) 0 (Nat.zero_le _) (by repeat (first | exact K.Sub.nil _ | refine K.Sub.cons rfl ?_)) rfl rfl ?_
 rintro j hj KL hKL
 by_cases hjl : j < l.length
 ·have hc1 : es[j]? = some (es[j]'(by omega)) := List.getElem?_eq_getElem (by omega)
  have hc2 : es2[j]? = some (es2[j]'(by omega)) := List.getElem?_eq_getElem (by omega)
  have hx1 : l[j]? = some (l[j]'hjl) := List.getElem?_eq_getElem hjl
  generalize es[j]'(by omega) = c at hc1
  generalize es2[j]'(by omega) = d at hc2
  generalize l[j]'hjl = r at hx1
  have x1 := (hr ()).2 j c r hc1 hx1
  have x2 := (hr2 ()).2 j d r hc2 hx1
  have hz1 := fifteen x1
  have hz2 := fifteen x2
  have hsame := SameR h c d r r x1 x2
  rw [decide_eq_true rfl] at hsame
  obtain ⟨_, ad, ai, al, ay, cd, ci, cl, cy, rfl, _⟩ := x1.cells
  obtain ⟨_, ad2, ai2, al2, ay2, cd2, ci2, cl2, cy2, rfl, _⟩ := x2.cells
  clear x1 x2
  obtain ⟨bb, oo, rfl, hcx⟩ := hv.at hc1
  obtain ⟨bb2, oo2, rfl, hcx2⟩ := hv2.at hc2
  (repeat' (first | refine X.rq ?_ | (refine X.rc ?_ ?_ <;> intro hc <;> first | (exfalso; omega) | skip)))
  refine X.draw ([]) [] (.pu 0 (.pu 1 (.pu 2 (.pu 3 (.pu 5 (.pu 6 (.pu 7 (.pu 8 (.st 4 (.st 9 (.pu 10 (.pu 11 (.pu 12 (.pu 13 (.pu 14 (.pu 16 (.pu 17 (.pu 18 (.st 15 (.st 19 (.on 20 (.pu 21 (.pu 22 .nil))))))))))))))))))))))) ?_
  refine K.d_pu rfl (fun _ _ => X.mv) rfl ?_
  refine K.d_pu rfl (fun _ _ => X.mv) rfl ?_
  refine K.d_pu rfl (fun _ _ => X.ia) rfl ?_
  refine K.d_pu rfl (fun _ _ => X.fa) rfl ?_
  refine K.d_pu rfl (fun _ _ => X.mv) rfl ?_
  refine K.d_pu rfl (fun _ _ => X.mv) rfl ?_
  refine K.d_pu rfl (fun _ _ => X.ia) rfl ?_
  refine K.d_pu rfl (fun _ _ => X.fa) rfl ?_
  refine K.d_st rfl (K.p_load (Fx.agg rfl) rfl (Cels.get (Cels.up hcx) 1 (.int .u64 r.lsn) rfl)) rfl ?_
  refine K.d_st rfl (K.p_load (Fx.agg rfl) rfl (Cels.get (Cels.up hcx2) 1 (.int .u64 r.lsn) rfl)) rfl ?_
  refine K.d_pu rfl (fun _ _ => X.bneq) rfl ?_
  rw [decide_eq_false (show ¬ ((r.lsn : Int) ≠ (r.lsn : Int)) from fun h => h rfl)]
  refine K.d_pu rfl (fun _ _ => X.mv) rfl ?_
  first | refine K.d_skip rfl rfl rfl rfl ?_ | refine K.d_skipU rfl rfl rfl rfl rfl ?_ | refine K.d_puG rfl rfl rfl (fun _ _ => X.mv) rfl ?_
  first | refine K.d_skip rfl rfl rfl rfl ?_ | refine K.d_skipU rfl rfl rfl rfl rfl ?_ | refine K.d_puG rfl rfl rfl (fun _ _ => X.mv) rfl ?_
  first | refine K.d_skip rfl rfl rfl rfl ?_ | refine K.d_skipU rfl rfl rfl rfl rfl ?_ | refine K.d_puG rfl rfl rfl (fun _ _ => X.ia) rfl ?_
  first | refine K.d_skip rfl rfl rfl rfl ?_ | refine K.d_skipU rfl rfl rfl rfl rfl ?_ | refine K.d_puG rfl rfl rfl (fun _ _ => X.mv) rfl ?_
  first | refine K.d_skip rfl rfl rfl rfl ?_ | refine K.d_skipU rfl rfl rfl rfl rfl ?_ | refine K.d_puG rfl rfl rfl (fun _ _ => X.mv) rfl ?_
  first | refine K.d_skip rfl rfl rfl rfl ?_ | refine K.d_skipU rfl rfl rfl rfl rfl ?_ | refine K.d_puG rfl rfl rfl (fun _ _ => X.ia) rfl ?_
  refine K.d_stG rfl rfl rfl (K.p_loadM (Fx.agg rfl) rfl (Cels.up hcx) (Fx.sz rfl) rfl) rfl ?_
  refine K.d_stG rfl rfl rfl (K.p_loadM (Fx.agg rfl) rfl (Cels.up hcx2) (Fx.sz rfl) rfl) rfl ?_
  refine K.d_on rfl (fun KK hKK => ?_)
  refine K.s_take rfl rfl ?_
  refine K.l_callV (Fx.cal rfl) rfl hsame (K.pp [] rfl) rfl rfl ?_
  simp only [List.nil_append]
  refine K.l_nil ?_
  refine X.onE hKK ?_
  first | refine K.d_skip rfl rfl rfl rfl ?_ | refine K.d_skipU rfl rfl rfl rfl rfl ?_ | refine K.d_puG rfl rfl rfl (fun _ _ => X.nt) rfl ?_
  refine K.d_pu rfl (fun _ _ => X.pk) rfl ?_
  refine K.d_nil ?_
  (repeat' (first | refine X.rq ?_ | (refine X.rc ?_ ?_ <;> intro hc <;> first | (exfalso; omega) | skip)))
  refine K.a_round hKL (j + 1) (by omega) (by repeat (first | exact K.Sub.nil _ | refine K.Sub.cons rfl ?_)) rfl rfl (by omega)
 ·obtain rfl : j = l.length := by omega
  (repeat' (first | refine X.rq ?_ | (refine X.rc ?_ ?_ <;> intro hc <;> first | (exfalso; omega) | skip)))
  refine K.done (by first | exact Or.inl rfl | exact Or.inr rfl) rfl (by first | exact K.Base.le.refl _ | assumption) (H' := []) rfl ⟨by simp [packV], rfl, rfl⟩
end Go.Proofs.YtkdngpiiecmpgaaGreat.Ch

/-! Who is alive is the document's answer: walked. Conditions: each theorem's own. -/
namespace Go.Proofs.YtkdngpiiecmpgaaGreat.Ch
open Go Go.K Go.Proofs Go.Proofs.YtkdngpiiecmpgaaGreat Go.Proofs.YtkdngpiiecmpgaaGreat.Pg Go.Proofs.YtkdngpiiecmpgaaGreat.Rc
set_option linter.unusedVariables false
set_option linter.unusedSimpArgs false
set_option maxRecDepth 10000

structure RowS where
 j : Nat
 es : List (List Value)
theorem few_small {r : Recd} (h : FewR r) : smallR r := ⟨by have := h.img; omega, by have := h.liv; omega, by have := h.dir; omega, by have := h.dat; omega⟩
theorem few_short {r : Recd} (h : FewR r) (hc : ∀ m ∈ r.images, smallX m.to.cells) : shortX r := ⟨by have := h.img; omega, hc, by have := h.liv; omega, by have := h.dir; omega, h.dat⟩
end Go.Proofs.YtkdngpiiecmpgaaGreat.Ch
