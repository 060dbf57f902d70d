/-
 History repeated makes of pages that have seen some of it what they are at its end: walked. Conditions: each theorem's own.
-/
import Derived.Test.YtkdngpiiecmpgaaGreatQ47
import Derived.Test.YtkdngpiiecmpgaaGreatQ48
namespace Go.Proofs.YtkdngpiiecmpgaaGreat.Ch
open Go Go.K Go.Proofs Go.Proofs.YtkdngpiiecmpgaaGreat Go.Proofs.YtkdngpiiecmpgaaGreat.Pg Go.Proofs.YtkdngpiiecmpgaaGreat.Rc
set_option linter.unusedVariables false
set_option linter.unusedSimpArgs false
set_option maxRecDepth 10000

structure MixS where
 j : Nat
 a : Option Nat
 k : Nat
 es : List (List Value)
 cs : List Value
 m : List PImg
 least : Nat
 b : Base
def SeenF (rs : List Recd) (n j : Nat) (l m : List PImg) : Prop := m.length = j ∧ ∀ (i : Nat) x y, l[i]? = some x → m[i]? = some y → Seen rs n x y
theorem Seen.le {rs : List Recd} {n n' : Nat} {x y : PImg} (h : Seen rs n x y) (hn : n' ≤ n) : Seen rs n' x y := by
 obtain ⟨k, a, b, c⟩ := h
 exact ⟨k, Nat.le_trans hn a, b, c⟩
theorem SeenF.push {rs : List Recd} {n j k : Nat} {l m : List PImg} (h : SeenF rs n j l m) {x : PImg} (hx : l[j]? = some x) (hk : k ≤ rs.length) : SeenF rs (min n k) (j + 1) l (m ++ [runP (rs.take k) x]) := by
 refine ⟨by rw [List.length_append, h.1]; rfl, fun i z y hz hy => ?_⟩
 by_cases hi : i < j
 ·rw [List.getElem?_append_left (by rw [h.1]; exact hi)] at hy
  exact (h.2 i z y hz hy).le (Nat.min_le_left _ _)
 ·have hlt := (List.getElem?_eq_some_iff.1 hy).1
  rw [List.length_append, h.1] at hlt
  have hij : i = j := by simp at hlt; omega
  subst hij
  rw [hx] at hz
  cases hz
  rw [List.getElem?_append_right (by rw [h.1]; exact Nat.le_refl _), h.1, Nat.sub_self] at hy
  cases hy
  exact ⟨k, Nat.min_le_right _ _, hk, rfl⟩
theorem RowsG.take {α : Type} {R : List Value → α → Prop} {es : List (List Value)} {l : List α} (h : RowsG R es l) (k : Nat) : RowsG R (es.take k) (l.take k) :=
 ⟨by rw [List.length_take, List.length_take, h.1], fun j c x hc hx => by
  rw [List.getElem?_take] at hc hx
  split at hc
  ·rename_i hj
   rw [if_pos hj] at hx
   exact h.2 j c x hc hx
  ·cases hc⟩
theorem fiveG {h0 h : Base} {es : List (List Value)} {l : List PImg} (hr : RowsG (ImgG h0 h) es l) : ∀ e ∈ es, e.length = 5 := fun e he => by
 obtain ⟨j, hj⟩ := List.mem_iff_getElem?.1 he
 have hlt := (List.getElem?_eq_some_iff.1 hj).1
 exact (hr.2 j e _ hj (List.getElem?_eq_getElem (by have := hr.1; omega))).c.five
set_option maxHeartbeats 32000000 in
theorem ChainRepeatsW (h : Base) (v : Value) (es : List (List Value)) (l : List PImg) (w : Value) (ers : List (List Value)) (rs : List Recd) (s : Value) (sl : List UInt8) (hv : SL h 5 v es) (hr : RowsG (ImgC h) es l) (hl : l.length ≤ 9223372036854775807) (hls : ∀ m ∈ l, smallX m.to.cells)
  (hv2 : SL h 15 w ers) (hr2 : RowsG (RecC h) ers rs) (hl2 : rs.length ≤ 140737488355328) (hrs : ∀ r ∈ rs, ∀ m ∈ r.images, smallX m.to.cells) (hs : BV h s sl) (hsl : sl.length ≤ 140737488351232) :
  Tr Tryz.prog 6 [v, w, s] h [] (fun u h' H' => u = .bool true ∧ H' = []) := by
 have hlo := LLong h w v ers rs es l hv2 hr2 (by omega) hv hr hl
 have hal0 := Alive h
 refine K.enter Tryz.func6 rfl (Nat.le_of_ble_eq_true rfl) (fun F => ?_)
 simp only [List.nil_append]
 (repeat' (first | refine X.rq ?_ | (refine X.rc ?_ ?_ <;> intro hc <;> first | (exfalso; omega) | skip)))
 refine K.l_call (Fx.cal rfl) rfl hlo (K.pp [] rfl) rfl ?_
 rintro u h' H' - ⟨e, rfl, b, rfl, hb⟩
 obtain rfl := e
 simp only [List.nil_append]
 cases b with
 | true =>
  (repeat' (first | refine X.rq ?_ | (refine X.rc ?_ ?_ <;> intro hc <;> first | (exfalso; omega) | skip)))
  refine K.l_callV (Fx.cal rfl) rfl hal0 (K.pp [] rfl) rfl rfl ?_
  simp only [List.nil_append]
  (repeat' (first | refine X.rq ?_ | (refine X.rc ?_ ?_ <;> intro hc <;> first | (exfalso; omega) | skip)))
  refine K.done (by first | exact Or.inl rfl | exact Or.inr rfl) rfl (by first | exact K.Base.le.refl _ | assumption) (H' := []) rfl ⟨rfl, rfl⟩
 | false =>
  obtain ⟨hl200, hfew, hp200⟩ := hb rfl
  have hsm : ∀ r ∈ rs, smallR r := fun r hm => few_small (hfew r hm)
  have hend := CRedo h v w es l ers rs 0 hv hr (by omega) hv2 hr2 (by omega) hsm (by decide)
  have hsm := fun (_ : Unit) => hsm
  clear hb hfew hrs hlo hls
  have hel := hr.1
  have hel2 := hr2.1
  obtain ⟨ao, ca, rfl⟩ := hv.len
  obtain ⟨ao2, ca2, rfl⟩ := hv2.len
  rw [hel] at hv hend ⊢
  rw [hel2] at hv2 hend ⊢
  obtain ⟨aos, cas, rfl⟩ := hs.len
  (repeat' (first | refine X.rq ?_ | (refine X.rc ?_ ?_ <;> intro hc <;> first | (exfalso; omega) | skip)))
  refine K.c_loop (σ := Nat) (fun j => [(0, .slice ao l.length ca), (1, .slice ao2 rs.length ca2), (2, .slice aos sl.length cas), (7, .int .i64 j)]) (fun _ => h) (fun _ => F) (fun j => j ≤ l.length) (fun j => l.length - j) 0 (Nat.zero_le _) (by repeat (first | exact K.Sub.nil _ | refine K.Sub.cons rfl ?_)) rfl rfl ?_
  rintro j hj KL hKL
  by_cases hjl : j < l.length
  ·have hc1 : es[j]? = some (es[j]'(by omega)) := List.getElem?_eq_getElem (by omega)
   have hx1 : l[j]? = some (l[j]'hjl) := List.getElem?_eq_getElem hjl
   generalize es[j]'(by omega) = c at hc1
   generalize l[j]'hjl = x at hx1
   obtain ⟨_, pcs, rfl, hpx⟩ := hr.2 j c x hc1 hx1
   obtain ⟨hwp, cv, rfl, _⟩ := hpx
   have hlsn := hwp.lsn
   clear hwp
   obtain ⟨bb, oo, rfl, hcx⟩ := hv.at hc1
   by_cases h0 : 0 < rs.length
   ·have hc2 : ers[0]? = some (ers[0]'(by omega)) := List.getElem?_eq_getElem (by omega)
    have hx2 : rs[0]? = some (rs[0]'h0) := List.getElem?_eq_getElem h0
    generalize ers[0]'(by omega) = d at hc2
    generalize rs[0]'h0 = r at hx2
    obtain ⟨hw, ad, ai, al, ay, cd, ci, cl, cy, rfl, _⟩ := (hr2.2 0 d r hc2 hx2).cells
    have hlsn2 := hw.lsn
    clear hw
    obtain ⟨bb2, oo2, rfl, hcx2⟩ := hv2.at hc2
    (repeat' (first | refine X.rq ?_ | (refine X.rc ?_ ?_ <;> intro hc <;> first | (exfalso; omega) | skip)))
    refine X.draw ([]) [] (.pu 0 (.pu 1 (.pu 2 (.pu 3 (.pu 4 (.pu 5 (.pu 6 (.pu 7 (.pu 8 (.pu 10 (.pu 11 (.pu 12 (.st 9 (.st 13 (.pu 14 (.pu 15 .nil)))))))))))))))) ?_
    refine K.d_pu rfl (fun _ _ => X.mv) rfl ?_
    refine K.d_pu rfl (fun _ _ => X.len) rfl ?_
    refine K.d_pu rfl (fun _ _ => X.bgtr) rfl ?_
    rw [decide_eq_true (show ((rs.length : Nat) : Int) > 0 by omega)]
    refine K.d_pu rfl (fun _ _ => X.mv) rfl ?_
    first | refine K.d_skip rfl rfl rfl rfl ?_ | refine K.d_skipU rfl rfl rfl rfl rfl ?_ | refine K.d_puG rfl rfl rfl (fun _ _ => X.mv) rfl ?_
    first | refine K.d_skip rfl rfl rfl rfl ?_ | refine K.d_skipU rfl rfl rfl rfl rfl ?_ | refine K.d_puG rfl rfl rfl (fun _ _ => X.mv) rfl ?_
    first | refine K.d_skip rfl rfl rfl rfl ?_ | refine K.d_skipU rfl rfl rfl rfl rfl ?_ | refine K.d_puG rfl rfl rfl (fun _ _ => X.ia) rfl ?_
    first | refine K.d_skip rfl rfl rfl rfl ?_ | refine K.d_skipU rfl rfl rfl rfl rfl ?_ | refine K.d_puG rfl rfl rfl (fun _ _ => X.fa) rfl ?_
    first | refine K.d_skip rfl rfl rfl rfl ?_ | refine K.d_skipU rfl rfl rfl rfl rfl ?_ | refine K.d_puG rfl rfl rfl (fun _ _ => X.fa) rfl ?_
    first | refine K.d_skip rfl rfl rfl rfl ?_ | refine K.d_skipU rfl rfl rfl rfl rfl ?_ | refine K.d_puG rfl rfl rfl (fun _ _ => X.mv) rfl ?_
    first | refine K.d_skip rfl rfl rfl rfl ?_ | refine K.d_skipU rfl rfl rfl rfl rfl ?_ | refine K.d_puG rfl rfl rfl (fun _ _ => X.ia) rfl ?_
    first | refine K.d_skip rfl rfl rfl rfl ?_ | refine K.d_skipU rfl rfl rfl rfl rfl ?_ | refine K.d_puG rfl rfl rfl (fun _ _ => X.fa) rfl ?_
    refine K.d_stG rfl rfl rfl (K.p_load (Fx.agg rfl) rfl (Cels.get (Cels.up hcx) 2 (.int .u64 x.to.lsn) rfl)) rfl ?_
    refine K.d_stG rfl rfl rfl (K.p_load (Fx.agg rfl) rfl (Cels.get (Cels.up hcx2) 1 (.int .u64 r.lsn) rfl)) rfl ?_
    first | refine K.d_skip rfl rfl rfl rfl ?_ | refine K.d_skipU rfl rfl rfl rfl rfl ?_ | refine K.d_puG rfl rfl rfl (fun _ _ => X.bgeq) rfl ?_
    refine K.d_pu rfl (fun _ _ => X.pk) rfl ?_
    refine K.d_nil ?_
    by_cases hge : r.lsn ≤ x.to.lsn
    ·(repeat' (first | refine X.rq ?_ | (refine X.rc ?_ ?_ <;> intro hc <;> first | (exfalso; omega) | skip)))
     refine K.l_callV (Fx.cal rfl) rfl hal0 (K.pp [] rfl) rfl rfl ?_
     simp only [List.nil_append]
     (repeat' (first | refine X.rq ?_ | (refine X.rc ?_ ?_ <;> intro hc <;> first | (exfalso; omega) | skip)))
     refine K.done (by first | exact Or.inl rfl | exact Or.inr rfl) rfl (by first | exact K.Base.le.refl _ | assumption) (H' := []) rfl ⟨rfl, rfl⟩
    ·(repeat' (first | refine X.rq ?_ | (refine X.rc ?_ ?_ <;> intro hc <;> first | (exfalso; omega) | skip)))
     refine K.a_round hKL (j + 1) (by omega) (by repeat (first | exact K.Sub.nil _ | refine K.Sub.cons rfl ?_)) rfl rfl (by omega)
   ·(repeat' (first | refine X.rq ?_ | (refine X.rc ?_ ?_ <;> intro hc <;> first | (exfalso; omega) | skip)))
    refine X.draw ([]) [] (.pu 0 (.pu 1 (.pu 2 (.pu 3 (.pu 4 (.pu 5 (.pu 6 (.pu 7 (.pu 8 (.pu 10 (.pu 11 (.pu 12 (.st 9 (.st 13 (.pu 14 (.pu 15 .nil)))))))))))))))) ?_
    refine K.d_pu rfl (fun _ _ => X.mv) rfl ?_
    refine K.d_pu rfl (fun _ _ => X.len) rfl ?_
    refine K.d_pu rfl (fun _ _ => X.bgtr) rfl ?_
    rw [decide_eq_false (show ¬ ((rs.length : Nat) : Int) > 0 by omega)]
    refine K.d_pu rfl (fun _ _ => X.mv) rfl ?_
    first | refine K.d_skip rfl rfl rfl rfl ?_ | refine K.d_skipU rfl rfl rfl rfl rfl ?_ | refine K.d_puG rfl rfl rfl (fun _ _ => X.mv) rfl ?_
    first | refine K.d_skip rfl rfl rfl rfl ?_ | refine K.d_skipU rfl rfl rfl rfl rfl ?_ | refine K.d_puG rfl rfl rfl (fun _ _ => X.mv) rfl ?_
    first | refine K.d_skip rfl rfl rfl rfl ?_ | refine K.d_skipU rfl rfl rfl rfl rfl ?_ | refine K.d_puG rfl rfl rfl (fun _ _ => X.ia) rfl ?_
    first | refine K.d_skip rfl rfl rfl rfl ?_ | refine K.d_skipU rfl rfl rfl rfl rfl ?_ | refine K.d_puG rfl rfl rfl (fun _ _ => X.fa) rfl ?_
    first | refine K.d_skip rfl rfl rfl rfl ?_ | refine K.d_skipU rfl rfl rfl rfl rfl ?_ | refine K.d_puG rfl rfl rfl (fun _ _ => X.fa) rfl ?_
    first | refine K.d_skip rfl rfl rfl rfl ?_ | refine K.d_skipU rfl rfl rfl rfl rfl ?_ | refine K.d_puG rfl rfl rfl (fun _ _ => X.mv) rfl ?_
    first | refine K.d_skip rfl rfl rfl rfl ?_ | refine K.d_skipU rfl rfl rfl rfl rfl ?_ | refine K.d_puG rfl rfl rfl (fun _ _ => X.ia) rfl ?_
    first | refine K.d_skip rfl rfl rfl rfl ?_ | refine K.d_skipU rfl rfl rfl rfl rfl ?_ | refine K.d_puG rfl rfl rfl (fun _ _ => X.fa) rfl ?_
    first | refine K.d_skipS rfl rfl rfl rfl ?_ | refine K.d_skipUS rfl rfl rfl rfl rfl ?_ | refine K.d_stG rfl rfl rfl X.ld rfl ?_
    first | refine K.d_skipS rfl rfl rfl rfl ?_ | refine K.d_skipUS rfl rfl rfl rfl rfl ?_ | refine K.d_stG rfl rfl rfl X.ld rfl ?_
    first | refine K.d_skip rfl rfl rfl rfl ?_ | refine K.d_skipU rfl rfl rfl rfl rfl ?_ | refine K.d_puG rfl rfl rfl (fun _ _ => X.bgeq) rfl ?_
    refine K.d_pu rfl (fun _ _ => X.pk) rfl ?_
    refine K.d_nil ?_
    (repeat' (first | refine X.rq ?_ | (refine X.rc ?_ ?_ <;> intro hc <;> first | (exfalso; omega) | skip)))
    refine K.a_round hKL (j + 1) (by omega) (by repeat (first | exact K.Sub.nil _ | refine K.Sub.cons rfl ?_)) rfl rfl (by omega)
  ·(repeat' (first | refine X.rq ?_ | (refine X.rc ?_ ?_ <;> intro hc <;> first | (exfalso; omega) | skip)))
   refine K.l_call (Fx.cal rfl) rfl hend (K.pp [] rfl) rfl ?_
   rintro u1 h1 H' le1 hor
   rcases hor with ⟨he0, _, rfl, rfl⟩ | ⟨he0, a1, n1, k1, esE, hn1, hrE, rfl, rfl⟩
   ·simp only [List.nil_append]
    have hal := Alive h1
    generalize (RedoQ l rs 0).2 = en at he0 ⊢
    (repeat' (first | refine X.rq ?_ | (refine X.rc ?_ ?_ <;> intro hc <;> first | (exfalso; omega) | skip)))
    refine K.l_callV (Fx.cal rfl) rfl hal (K.pp [] rfl) rfl rfl ?_
    simp only [List.nil_append]
    (repeat' (first | refine X.rq ?_ | (refine X.rc ?_ ?_ <;> intro hc <;> first | (exfalso; omega) | skip)))
    refine K.done (by first | exact Or.inl rfl | exact Or.inr rfl) rfl (by first | exact K.Base.le.refl _ | assumption) (H' := []) rfl ⟨rfl, rfl⟩
   ·obtain ⟨hF, hfin⟩ := Full.of he0
    rw [hfin] at hn1 hrE
    simp only [List.nil_append, List.cons_append]
    refine K.WL.freezeRowN (hn1.trans hrE.1.symm) (fiveG hrE) (fun h2 le2 hvE => ?_)
    generalize K.bufV a1 n1 k1 = xE at hvE ⊢
    have hrE2 : RowsG (ImgC h2) esE (l.map (runP rs)) := RowsG.mono (fun c x hc => hc.c.le le2) hrE
    have hv2' := hv.le (le1.trans le2)
    have hr2' : RowsG (ImgC h2) es l := RowsG.mono (fun c x hc => hc.le (le1.trans le2)) hr
    have hw2' := hv2.le (le1.trans le2)
    have hwr2' : RowsG (RecC h2) ers rs := RowsG.mono (fun c x hc => hc.le (le1.trans le2)) hr2
    have hs2' := hs.le (le1.trans le2)
    clear hrE hend hn1 hfin he0 hj hjl hal0
    (repeat' (first | refine X.rq ?_ | (refine X.rc ?_ ?_ <;> intro hc <;> first | (exfalso; omega) | skip)))
    refine K.WC.nilBuf 52 5 ?_
    refine K.c_loop (σ := MixS) (fun q => [(0, .slice ao l.length ca), (1, .slice ao2 rs.length ca2), (2, .slice aos sl.length cas), (8, xE), (10, K.bufV q.a q.j q.k), (11, .int .i64 q.least), (12, .int .i64 q.j)]) (fun q => q.b)
     (fun q => bufA 52 5 q.a q.j q.k q.cs :: F)
     (fun q => q.j ≤ l.length ∧ h2.le q.b ∧ RowsG (ImgC q.b) q.es q.m ∧ q.cs = q.es.flatten ∧ SeenF rs q.least q.j l q.m ∧ q.least ≤ rs.length) (fun q => l.length - q.j)
     ⟨0, none, 0, [], [], [], rs.length, h2⟩ ⟨Nat.zero_le _, .refl _, ⟨rfl, fun j c x hc => by cases hc⟩, rfl, ⟨rfl, fun j c x _ hc => by cases hc⟩, Nat.le_refl _⟩ (by repeat (first | exact K.Sub.nil _ | refine K.Sub.cons rfl ?_)) rfl rfl ?_
    rintro ⟨j, a, k, es1, cs1, m1, least, h3⟩ ⟨hj, le3, hr3, hcs1, hsf, hle⟩ KM hKM
    dsimp only at hj le3 hr3 hcs1 hsf hle ⊢
    by_cases hjl : j < l.length
    ·have hx1 : l[j]? = some (l[j]'hjl) := List.getElem?_eq_getElem hjl
     generalize l[j]'hjl = x at hx1
     (repeat' (first | refine X.rs ?_ | (refine X.rd ?_ ?_ <;> intro hc <;> first | (exfalso; omega) | skip)))
     apply K.c_seq
     apply K.c_seq
     refine X.w ?_
     (repeat' (first | refine X.rs ?_ | (refine X.rd ?_ ?_ <;> intro hc <;> first | (exfalso; omega) | skip)))
     apply K.c_seq
     apply K.c_block
     apply K.c_seq
     refine X.w ?_
     (repeat' (first | refine X.rs ?_ | (refine X.rd ?_ ?_ <;> intro hc <;> first | (exfalso; omega) | skip)))
     apply K.c_seq
     have hs3 := hs2'.le le3
     refine K.c_join (β := Nat) (fun n => [(0, .slice ao l.length ca), (1, .slice ao2 rs.length ca2), (2, .slice aos sl.length cas), (8, xE), (10, K.bufV a j k), (11, .int .i64 least), (12, .int .i64 j), (13, .int .i64 n)]) (fun _ => h3) (fun _ => bufA 52 5 a j k cs1 :: F) (fun n => n ≤ rs.length) (fun KJ hJ => ?_) ?_
     ·by_cases hjs : j < sl.length
      ·have hb1 : sl[j]? = some (sl[j]'hjs) := List.getElem?_eq_getElem hjs
       have hb0 : sl[((j : Nat) : Int).toNat]? = some (sl[j]'hjs) := by rw [Int.toNat_natCast]; exact hb1
       generalize sl[j]'hjs = q at hb0 hb1
       (repeat' (first | refine X.rq ?_ | (refine X.rc ?_ ?_ <;> intro hc <;> first | (exfalso; omega) | skip)))
       refine K.s_pureE (K.p_indexB hs3 (Fx.und rfl) (Fx.sz rfl) rfl rfl (by omega) hb0) rfl ?_
       rintro v2 ⟨b2', o2, rfl, hcel⟩
       have hq := q.toNat_lt
       have hcel := K.Cel.up (K := bufA 52 5 a j k cs1 :: F) hcel
       (repeat' (first | refine X.rq ?_ | (refine X.rc ?_ ?_ <;> intro hc <;> first | (exfalso; omega) | skip)))
       have hmod : ((q.toNat : Nat) : Int) % (((rs.length : Nat) : Int) + 1) = ((q.toNat % (rs.length + 1) : Nat) : Int) := by simp
       rw [hmod]
       exact K.a_join hJ (q.toNat % (rs.length + 1)) (by have := Nat.mod_lt q.toNat (show 0 < rs.length + 1 by omega); omega) (by repeat (first | exact K.Sub.nil _ | refine K.Sub.cons rfl ?_)) rfl rfl
      ·(repeat' (first | refine X.rq ?_ | (refine X.rc ?_ ?_ <;> intro hc <;> first | (exfalso; omega) | skip)))
       exact K.a_join hJ rs.length (Nat.le_refl _) (by repeat (first | exact K.Sub.nil _ | refine K.Sub.cons rfl ?_)) rfl rfl
     ·intro n hn
      clear hs3
      have hta : (rs.take n).length = n := by rw [List.length_take]; omega
      have hre := CRedo h3 (.slice ao l.length ca) (.slice ao2 n ca2) es l (ers.take n) (rs.take n) 0 (hv2'.le le3) (RowsG.mono (fun c x hc => hc.le le3) hr2') (by omega) ((hw2'.le le3).take (by omega)) (Ch.RowsG.take (RowsG.mono (fun c x hc => hc.le le3) hwr2') n) (by omega) (fun r hr => hsm () r (List.mem_of_mem_take hr)) (by decide)
      have hnca : n ≤ ca2 := by have := hw2'.cap; omega
      obtain ⟨e1, e2⟩ := Full.of (by rw [(hF.take n).run])
      have e3 := (hF.take n).run
      (repeat' (first | refine X.rq ?_ | (refine X.rc ?_ ?_ <;> intro hc <;> first | (exfalso; omega) | skip)))
      refine K.s_pure (K.p_sliceU (Fx.und rfl) (Fx.sz rfl) rfl rfl rfl hnca) rfl ?_
      (repeat' (first | refine X.rq ?_ | (refine X.rc ?_ ?_ <;> intro hc <;> first | (exfalso; omega) | skip)))
      refine K.l_call (Fx.cal rfl) rfl hre (K.pp [] rfl) rfl ?_
      rintro u4 h4 H' le4 hor
      rw [RedoneAll, e3] at hor
      rcases hor with ⟨he0, _, _, _⟩ | ⟨_, a4, n4, k4, es4, hn4, hr4, rfl, rfl⟩
      ·exact absurd rfl he0
      simp only [List.nil_append, List.cons_append]
      refine K.WL.freezeRowN (hn4.trans hr4.1.symm) (fiveG hr4) (fun h5 le5 hv5 => ?_)
      dsimp only at hn4 hr4
      generalize K.bufV a4 n4 k4 = x4 at hv5 ⊢
      have hr5 : RowsG (ImgC h5) es4 (l.map (runP (rs.take n))) := RowsG.mono (fun c x hc => hc.c.le le5) hr4
      have hl4 : es4.length = l.length := by rw [hr5.1, List.length_map]
      have hc4 : es4[j]? = some (es4[j]'(by omega)) := List.getElem?_eq_getElem (by omega)
      generalize es4[j]'(by omega) = ce at hc4
      have him := hr5.2 j ce (runP (rs.take n) x) hc4 (by rw [List.getElem?_map, hx1]; rfl)
      have hsp := hsf.push hx1 hn
      generalize runP (rs.take n) x = y at him hsp
      obtain ⟨hyp, pcs, rfl, hyw, cv, rfl, ey, hsy, hey, _⟩ := him
      obtain ⟨aoy, cay, rfl⟩ := hsy.len
      obtain ⟨ao4, ca4, rfl⟩ := hv5.len
      rw [hl4] at hv5 ⊢
      obtain ⟨bb, oo, rfl, hcx⟩ := hv5.at hc4
      have hcx := Cels.up (K := bufA 52 5 a j k cs1 :: F) hcx
      clear hr4 hn4 e1 e2 e3 hre
      (repeat' (first | refine X.rq ?_ | (refine X.rc ?_ ?_ <;> intro hc <;> first | (exfalso; omega) | skip)))
      refine K.l_buildSlice (Fx.und rfl) (Fx.sz rfl) rfl (Fx.zr rfl) rfl rfl rfl (cs := .int .u32 y.page :: cP y.to (.slice aoy ey.length cay)) rfl rfl (fun B19 => ?_)
      refine K.l_append_at 1 rfl (Fx.und rfl) (Fx.und rfl) rfl (Fx.sz rfl) (Fx.zr rfl) rfl (Fx.byt rfl) rfl rfl (K.src_cells (K.cels_own (pre := []) (cs := .int .u32 y.page :: cP y.to (.slice aoy ey.length cay)) (post := []) 0 rfl rfl) rfl (by simp [oneCell, cP])) (by omega) (by omega) rfl (fun a6 cap6 => ?_)
      simp only [List.set_cons_zero, List.set_cons_succ, List.eraseIdx_cons_zero, List.eraseIdx_cons_succ, List.cons_append, List.nil_append]
      (repeat' (first | refine X.rq ?_ | (refine X.rc ?_ ?_ <;> intro hc <;> first | (exfalso; omega) | skip)))
      have hmin : min ((least : Nat) : Int) ((n : Nat) : Int) = ((min least n : Nat) : Int) := by omega
      rw [hmin]
      refine K.AT.drop ?_
      refine K.a_round hKM ⟨j + 1, a6, cap6, es1 ++ [.int .u32 y.page :: cP y.to (.slice aoy ey.length cay)], _, m1 ++ [y], min least n, h5⟩ ⟨by dsimp only; omega, le3.trans (le4.trans le5), RowsG.push (RowsG.mono (fun c x hc => hc.le (le4.trans le5)) hr3) ⟨hyp, _, rfl, hyw, _, rfl, ey, hsy, hey, by assumption⟩, by dsimp only; rw [hcs1, List.flatten_append]; simp, hsp, by dsimp only; omega⟩ (by repeat (first | exact K.Sub.nil _ | refine K.Sub.cons rfl ?_)) rfl rfl (by dsimp only; omega)
    ·obtain rfl : j = l.length := by omega
     have hsl' : SeenL rs least l m1 := hsf
     (repeat' (first | refine X.rs ?_ | (refine X.rd ?_ ?_ <;> intro hc <;> first | (exfalso; omega) | skip)))
     apply K.c_seq
     apply K.c_seq
     refine X.w ?_
     (repeat' (first | refine X.rs ?_ | (refine X.rd ?_ ?_ <;> intro hc <;> first | (exfalso; omega) | skip)))
     refine K.c_exit ?_
     (repeat' (first | refine X.rs ?_ | (refine X.rd ?_ ?_ <;> intro hc <;> first | (exfalso; omega) | skip)))
     apply K.c_seq
     refine X.w ?_
     (repeat' (first | refine X.rs ?_ | (refine X.rd ?_ ?_ <;> intro hc <;> first | (exfalso; omega) | skip)))
     apply K.c_seq
     have hw3 := hw2'.le le3
     have hwr3 : RowsG (RecC h3) ers rs := RowsG.mono (fun c x hc => hc.le le3) hwr2'
     have hrise := rightQ_rise hF.right
     have hrise := fun (_ : Unit) => hrise
     have hwr3 := fun (_ : Unit) => hwr3
     refine K.c_join (β := Nat) (fun f => [(0, .slice ao l.length ca), (1, .slice ao2 rs.length ca2), (8, xE), (10, K.bufV a l.length k), (16, .int .u64 f)]) (fun _ => h3) (fun _ => bufA 52 5 a l.length k cs1 :: F) (fun f => f < 18446744073709551616 ∧ ∀ (j : Nat) r, rs[j]? = some r → r.lsn < f → j < least) (fun KJ hJ => ?_) ?_
     ·by_cases hll : least < rs.length
      ·have hc1 : ers[least]? = some (ers[least]'(by omega)) := List.getElem?_eq_getElem (by omega)
       have hx1 : rs[least]? = some (rs[least]'hll) := List.getElem?_eq_getElem hll
       generalize ers[least]'(by omega) = d at hc1
       generalize rs[least]'hll = r at hx1
       obtain ⟨hw, ad, ai, al, ay, cd, ci, cl, cy, rfl, _⟩ := ((hwr3 ()).2 least d r hc1 hx1).cells
       have hlsn := hw.lsn
       clear hw
       obtain ⟨bb, oo, rfl, hcx⟩ := hw3.at hc1
       have hcx := Cels.up (K := bufA 52 5 a l.length k cs1 :: F) hcx
       (repeat' (first | refine X.rq ?_ | (refine X.rc ?_ ?_ <;> intro hc <;> first | (exfalso; omega) | skip)))
       refine K.s_pure (K.p_load (Fx.agg rfl) rfl (Cels.get hcx 1 (.int .u64 r.lsn) rfl)) rfl ?_
       (repeat' (first | refine X.rq ?_ | (refine X.rc ?_ ?_ <;> intro hc <;> first | (exfalso; omega) | skip)))
       refine K.a_join hJ r.lsn ⟨hlsn, fun j q hq hlt => ?_⟩ (by repeat (first | exact K.Sub.nil _ | refine K.Sub.cons rfl ?_)) rfl rfl
       rcases Nat.lt_or_ge j least with h1 | h1
       ·exact h1
       ·exfalso
        obtain ⟨hj1, rfl⟩ := List.getElem?_eq_some_iff.1 hq
        obtain ⟨hj2, rfl⟩ := List.getElem?_eq_some_iff.1 hx1
        rcases Nat.lt_or_ge least j with h2 | h2
        ·have := List.pairwise_iff_getElem.1 (hrise ()) least j hj2 hj1 h2
         omega
        ·obtain rfl : j = least := by omega
         omega
      ·have hlast : ∀ (j : Nat) r, rs[j]? = some r → j < least := fun j r hj => by
        have := (List.getElem?_eq_some_iff.1 hj).1
        omega
       have hlast := fun (_ : Unit) => hlast
       by_cases h0 : 0 < rs.length
       ·have hc1 : ers[rs.length - 1]? = some (ers[rs.length - 1]'(by omega)) := List.getElem?_eq_getElem (by omega)
        have hx1 : rs[rs.length - 1]? = some (rs[rs.length - 1]'(by omega)) := List.getElem?_eq_getElem (by omega)
        generalize ers[rs.length - 1]'(by omega) = d at hc1
        generalize rs[rs.length - 1]'(by omega) = r at hx1
        obtain ⟨hw, ad, ai, al, ay, cd, ci, cl, cy, rfl, _⟩ := ((hwr3 ()).2 (rs.length - 1) d r hc1 hx1).cells
        have hlsn := hw.lsn
        clear hw
        have hc1' : ers[(((rs.length : Nat) : Int) - 1).toNat]? = some (cR r (.slice ad r.op.data.length cd) (.slice ai r.images.length ci) (.slice al r.lives.length cl) (.slice ay r.dirty.length cy)) := by
         rw [show (((rs.length : Nat) : Int) - 1).toNat = rs.length - 1 by omega]; exact hc1
        (repeat' (first | refine X.rq ?_ | (refine X.rc ?_ ?_ <;> intro hc <;> first | (exfalso; omega) | skip)))
        refine K.s_pureE (K.p_indexL hw3 (Fx.und rfl) (Fx.sz rfl) rfl rfl (by omega) hc1') rfl ?_
        rintro v2 ⟨b2', o2, rfl, hcel⟩
        have hcel := Cels.up (K := bufA 52 5 a l.length k cs1 :: F) hcel
        (repeat' (first | refine X.rq ?_ | (refine X.rc ?_ ?_ <;> intro hc <;> first | (exfalso; omega) | skip)))
        refine K.s_pure (K.p_load (Fx.agg rfl) rfl (Cels.get hcel 1 (.int .u64 r.lsn) rfl)) rfl ?_
        (repeat' (first | refine X.rq ?_ | (refine X.rc ?_ ?_ <;> intro hc <;> first | (exfalso; omega) | skip)))
        have hwrap : IntKind.u64.wrap ((r.lsn : Int) + 1) = (((r.lsn + 1) % 18446744073709551616 : Nat) : Int) := by
         rw [wu64]; omega
        rw [hwrap]
        exact K.a_join hJ _ ⟨Nat.mod_lt _ (by decide), fun j r hj _ => hlast () j r hj⟩ (by repeat (first | exact K.Sub.nil _ | refine K.Sub.cons rfl ?_)) rfl rfl
       ·(repeat' (first | refine X.rq ?_ | (refine X.rc ?_ ?_ <;> intro hc <;> first | (exfalso; omega) | skip)))
        exact K.a_join hJ 0 ⟨by decide, fun j r hj _ => hlast () j r hj⟩ (by repeat (first | exact K.Sub.nil _ | refine K.Sub.cons rfl ?_)) rfl rfl
     ·rintro f ⟨hf, hlow⟩
      have hx := hF.mixed hlow hsl'
      have hy := hF.mixed (f := 0) (fun j r _ hl => absurd hl (by omega)) hsl'
      have hz := hF.end
      have hm1 := hsl'.1
      have hm1' : m1.length = es1.length := hr3.1.symm
      subst hcs1
      (repeat' (first | refine X.rq ?_ | (refine X.rc ?_ ?_ <;> intro hc <;> first | (exfalso; omega) | skip)))
      refine K.WL.freezeRowN (hm1.symm.trans hm1') (RowsG.sz (n := 5) (fun c x hc => hc.five) hr3) (fun h4 le4 hv4 => ?_)
      generalize K.bufV a l.length k = xM at hv4 ⊢
      have hr4 : RowsG (ImgC h4) es1 m1 := RowsG.mono (fun c x hc => hc.le le4) hr3
      refine K.l_call (Fx.cal rfl) rfl (CRedo h4 xM (.slice ao2 rs.length ca2) es1 m1 ers rs f hv4 hr4 (by omega) (hw3.le le4) (RowsG.mono (fun c x hc => hc.le le4) (hwr3 ())) (by omega) (hsm ()) hf) (K.pp [] rfl) rfl ?_
      rintro u5 g5 H' le5 hor
      rw [RedoneAll, hx] at hor
      rcases hor with ⟨he0, _⟩ | ⟨_, a5, n5, k5, es5, hn5, hr5, rfl, rfl⟩
      ·exact absurd rfl he0
      simp only [List.nil_append, List.cons_append]
      refine K.WL.freezeRowN (hn5.trans hr5.1.symm) (fiveG hr5) (fun h5 lf5 hv5 => ?_)
      have hr5 : RowsG (ImgC h5) es5 (l.map (runP rs)) := RowsG.mono (fun c x hc => hc.c.le lf5) hr5
      generalize K.bufV a5 n5 k5 = x5 at hv5 ⊢
      have lg5 := le5.trans lf5
      clear hn5
      (repeat' (first | refine X.rq ?_ | (refine X.rc ?_ ?_ <;> intro hc <;> first | (exfalso; omega) | skip)))
      refine K.l_call (Fx.cal rfl) rfl (CRedo h5 xM (.slice ao2 rs.length ca2) es1 m1 ers rs 0 (hv4.le lg5) (RowsG.mono (fun c x hc => hc.le lg5) hr4) (by omega) (hw3.le (le4.trans lg5)) (RowsG.mono (fun c x hc => hc.le (le4.trans lg5)) (hwr3 ())) (by omega) (hsm ()) (by decide)) (K.pp [] rfl) rfl ?_
      rintro u6 g6 H' le6 hor
      rw [RedoneAll, hy] at hor
      rcases hor with ⟨he0, _⟩ | ⟨_, a6, n6, k6, es6, hn6, hr6, rfl, rfl⟩
      ·exact absurd rfl he0
      simp only [List.nil_append, List.cons_append]
      refine K.WL.freezeRowN (hn6.trans hr6.1.symm) (fiveG hr6) (fun h6 lf6 hv6 => ?_)
      have hr6 : RowsG (ImgC h6) es6 (l.map (runP rs)) := RowsG.mono (fun c x hc => hc.c.le lf6) hr6
      generalize K.bufV a6 n6 k6 = x6 at hv6 ⊢
      have lg6 := le6.trans lf6
      clear hn6
      (repeat' (first | refine X.rq ?_ | (refine X.rc ?_ ?_ <;> intro hc <;> first | (exfalso; omega) | skip)))
      refine K.l_call (Fx.cal rfl) rfl (CRedo h6 xE (.slice ao2 rs.length ca2) esE (l.map (runP rs)) ers rs 0 (hvE.le (le3.trans (le4.trans (lg5.trans lg6)))) (RowsG.mono (fun c x hc => hc.le (le3.trans (le4.trans (lg5.trans lg6)))) hrE2) (by rw [List.length_map]; omega) (hw3.le (le4.trans (lg5.trans lg6))) (RowsG.mono (fun c x hc => hc.le (le4.trans (lg5.trans lg6))) (hwr3 ())) (by omega) (hsm ()) (by decide)) (K.pp [] rfl) rfl ?_
      rintro u7 g7 H' le7 hor
      rw [RedoneAll, hz] at hor
      rcases hor with ⟨he0, _⟩ | ⟨_, a7, n7, k7, es7, hn7, hr7, rfl, rfl⟩
      ·exact absurd rfl he0
      simp only [List.nil_append, List.cons_append]
      refine K.WL.freezeRowN (hn7.trans hr7.1.symm) (fiveG hr7) (fun h7 lf7 hv7 => ?_)
      have hr7 : RowsG (ImgC h7) es7 (l.map (runP rs)) := RowsG.mono (fun c x hc => hc.c.le lf7) hr7
      generalize K.bufV a7 n7 k7 = x7 at hv7 ⊢
      have lg7 := le7.trans lf7
      clear hn7
      have leE := le3.trans (le4.trans (lg5.trans (lg6.trans lg7)))
      have leF : h.le h7 := (le1.trans le2).trans leE
      have hll : (l.map (runP rs)).length ≤ 9223372036854775807 := by rw [List.length_map]; omega
      have hE := hvE.le leE
      have hRE : RowsG (ImgC h7) esE (l.map (runP rs)) := RowsG.mono (fun c x hc => hc.le leE) hrE2
      have p5 := LPages h7 x5 xE es5 esE (l.map (runP rs)) (hv5.le (lg6.trans lg7)) (RowsG.mono (fun c x hc => hc.le (lg6.trans lg7)) hr5) hE hRE hll
      have p6 := LPages h7 x6 xE es6 esE (l.map (runP rs)) (hv6.le lg7) (RowsG.mono (fun c x hc => hc.le lg7) hr6) hE hRE hll
      have p7 := LPages h7 x7 xE es7 esE (l.map (runP rs)) hv7 hr7 hE hRE hll
      have hal := Alive h7
      (repeat' (first | refine X.rq ?_ | (refine X.rc ?_ ?_ <;> intro hc <;> first | (exfalso; omega) | skip)))
      refine K.l_callV (Fx.cal rfl) rfl p5 (K.pp [] rfl) rfl rfl ?_
      simp only [List.nil_append]
      (repeat' (first | refine X.rq ?_ | (refine X.rc ?_ ?_ <;> intro hc <;> first | (exfalso; omega) | skip)))
      refine K.l_callV (Fx.cal rfl) rfl p6 (K.pp [] rfl) rfl rfl ?_
      simp only [List.nil_append]
      (repeat' (first | refine X.rq ?_ | (refine X.rc ?_ ?_ <;> intro hc <;> first | (exfalso; omega) | skip)))
      refine K.l_callV (Fx.cal rfl) rfl p7 (K.pp [] rfl) rfl rfl ?_
      simp only [List.nil_append]
      (repeat' (first | refine X.rq ?_ | (refine X.rc ?_ ?_ <;> intro hc <;> first | (exfalso; omega) | skip)))
      refine K.l_callV (Fx.cal rfl) rfl hal (K.pp [] rfl) rfl rfl ?_
      simp only [List.nil_append]
      (repeat' (first | refine X.rq ?_ | (refine X.rc ?_ ?_ <;> intro hc <;> first | (exfalso; omega) | skip)))
      refine K.done (by first | exact Or.inl rfl | exact Or.inr rfl) rfl (by first | exact K.Base.le.refl _ | assumption) (H' := []) rfl ⟨rfl, rfl⟩
end Go.Proofs.YtkdngpiiecmpgaaGreat.Ch
