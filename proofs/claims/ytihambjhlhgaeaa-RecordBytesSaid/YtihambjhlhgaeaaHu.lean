/-
  Records in the law: whether one is more than is gone through. Conditions: each theorem's own.
-/
import Derived.Test.YtihambjhlhgaeaaHt

namespace Go.Proofs.Ytihambjhlhgaeaa.Rc
open Go Go.K Go.Proofs Go.Proofs.Ytihambjhlhgaeaa Go.Proofs.Ytihambjhlhgaeaa.Pg Go.Proofs.Ytihambjhlhgaeaa.Cc Go.Proofs.Ytihambjhlhgaeaa.Rb
set_option linter.unusedVariables false
set_option linter.unusedSimpArgs false
set_option maxRecDepth 10000

/-- An image that is gone through. -/
def shortI (x : PImg) : Prop := x.to.cells.length ≤ 300 ∧ ∀ z ∈ x.to.cells, z.data.length ≤ 2000
structure shortR (r : Recd) : Prop where
  img : r.images.length ≤ 300
  cel : ∀ x ∈ r.images, shortI x
  liv : r.lives.length ≤ 3000
  dir : r.dirty.length ≤ 3000
  dat : r.op.data.length ≤ 2000
theorem shortR.small {r : Recd} (hs : shortR r) : smallR r := ⟨by have := hs.img; omega, by have := hs.liv; omega, by have := hs.dir; omega, by have := hs.dat; omega⟩
def LongP (h : Base) (G : Prop) (u : Value) (h' : Base) (H' : List Asrt) : Prop := h' = h ∧ H' = [] ∧ ∃ b, u = .bool b ∧ (b = false → G)
set_option maxHeartbeats 2000000 in
theorem RLong (h : Base) (cs : List Value) (r : Recd) (hx : RecC h cs r) : Tr Try.prog 8 [.agg cs.toArray] h [] (LongP h (shortR r)) := by
  obtain ⟨hw, ad, ai, al, ay, cd, ci, cl, cy, rfl, hb, ⟨es, hi1, hi2, hi3⟩, hl4, hd2⟩ := hx.cells
  have w1 := hw.images
  have w2 := hw.lives
  have w3 := hw.dirty
  have w4 := hw.op.len
  clear hx hb hl4 hd2 hw
  refine K.enter Try.func8 rfl (Nat.le_of_ble_eq_true rfl) (fun F => ?_)
  simp only [List.nil_append]
  (repeat' (first | refine X.rq ?_ | (refine X.rc ?_ ?_ <;> intro hc <;> first | (exfalso; omega) | skip)))
  refine K.l_box rfl rfl rfl (fun B1 => ?_)
  (repeat' (first | refine X.rq ?_ | (refine X.rc ?_ ?_ <;> intro hc <;> first | (exfalso; omega) | skip)))
  refine K.c_loop (σ := Nat) (fun j => [(1, .pointer (some ⟨B1, 0, none⟩)), (3, .int .i64 j)]) (fun _ => h) (fun _ => blk B1 31 (cR r (.slice ad r.op.data.length cd) (.slice ai r.images.length ci) (.slice al r.lives.length cl) (.slice ay r.dirty.length cy)) :: F)
    (fun j => j ≤ r.images.length ∧ j ≤ 301 ∧ ∀ _ : Unit, ∀ (i : Nat) x, i < j → r.images[i]? = some x → shortI x) (fun j => r.images.length - j) 0 ⟨Nat.zero_le _, Nat.zero_le _, fun _ i x hi => by omega⟩ (by repeat (first | exact K.Sub.nil _ | refine K.Sub.cons rfl ?_)) rfl rfl ?_
  rintro j ⟨hj, hj3, hyes⟩ KL hKL
  by_cases hjl : j < r.images.length ∧ j ≤ 300
  · obtain ⟨hjl, hj300⟩ := hjl
    have hc1 : es[j]? = some (es[j]'(by omega)) := List.getElem?_eq_getElem (by omega)
    have hc0 : es[((j : Nat) : Int).toNat]? = some (es[j]'(by omega)) := by rw [Int.toNat_natCast]; exact hc1
    have he1 : r.images[j]? = some (r.images[j]'(by omega)) := List.getElem?_eq_getElem hjl
    generalize es[j]'(by omega) = c at hc0 hc1
    generalize r.images[j]'(by omega) = x at he1
    obtain ⟨hpg, cs, rfl, hwp, cv, rfl, es5, hv5, hel5, hr5⟩ := hi3 j c x hc1 he1
    obtain ⟨ao5, ca5, rfl⟩ := hv5.len
    have hwl := hwp.len
    clear hwp
    rw [hel5] at hv5
    (repeat' (first | refine X.rq ?_ | (refine X.rc ?_ ?_ <;> intro hc <;> first | (exfalso; omega) | skip)))
    refine K.s_pureE (K.p_indexL hi1 (Fx.und rfl) (Fx.sz rfl) rfl rfl (by omega) hc0) rfl ?_
    rintro v2 ⟨b, o, rfl, hcel⟩
    have hq1 := (Cels.up (K := blk B1 31 (cR r (.slice ad r.op.data.length cd) (.slice ai r.images.length ci) (.slice al r.lives.length cl) (.slice ay r.dirty.length cy)) :: F) hcel).2.2.2.2.1
    rw [hel5] at hq1
    clear hcel hi1 hi3
    (repeat' (first | refine X.rq ?_ | (refine X.rc ?_ ?_ <;> intro hc <;> first | (exfalso; omega) | skip)))
    · refine K.AT.drop ?_
      refine K.done (by first | exact Or.inl rfl | exact Or.inr rfl) rfl (by first | exact K.Base.le.refl _ | assumption) (H' := []) rfl ⟨rfl, rfl, true, rfl, fun e => by cases e⟩
    · refine K.c_loop (σ := Nat) (fun k => [(1, .pointer (some ⟨B1, 0, none⟩)), (3, .int .i64 j), (4, .slice ao5 x.to.cells.length ca5), (5, .int .i64 k)]) (fun _ => h) (fun _ => blk B1 31 (cR r (.slice ad r.op.data.length cd) (.slice ai r.images.length ci) (.slice al r.lives.length cl) (.slice ay r.dirty.length cy)) :: F)
        (fun k => k ≤ x.to.cells.length ∧ ∀ _ : Unit, ∀ (i : Nat) z, i < k → x.to.cells[i]? = some z → z.data.length ≤ 2000) (fun k => x.to.cells.length - k) 0 ⟨Nat.zero_le _, fun _ i z hi => by omega⟩ (by repeat (first | exact K.Sub.nil _ | refine K.Sub.cons rfl ?_)) rfl rfl ?_
      rintro k ⟨hk, hyk⟩ KM hKM
      by_cases hkl : k < x.to.cells.length
      · have hd1 : es5[k]? = some (es5[k]'(by omega)) := List.getElem?_eq_getElem (by omega)
        have hd0 : es5[((k : Nat) : Int).toNat]? = some (es5[k]'(by omega)) := by rw [Int.toNat_natCast]; exact hd1
        have hz1 : x.to.cells[k]? = some (x.to.cells[k]'(by omega)) := List.getElem?_eq_getElem hkl
        generalize es5[k]'(by omega) = d at hd0 hd1
        generalize x.to.cells[k]'(by omega) = z at hz1
        obtain ⟨_, hzl, ao6, ca6, rfl, _⟩ := hr5 k d z hd1 hz1
        (repeat' (first | refine X.rq ?_ | (refine X.rc ?_ ?_ <;> intro hc <;> first | (exfalso; omega) | skip)))
        refine K.s_pureE (K.p_indexL hv5 (Fx.und rfl) (Fx.sz rfl) rfl rfl (by omega) hd0) rfl ?_
        rintro v3 ⟨b3, o3, rfl, hcel3⟩
        have hq3 := (Cels.up (K := blk B1 31 (cR r (.slice ad r.op.data.length cd) (.slice ai r.images.length ci) (.slice al r.lives.length cl) (.slice ay r.dirty.length cy)) :: F) hcel3).2.2.1
        (repeat' (first | refine X.rq ?_ | (refine X.rc ?_ ?_ <;> intro hc <;> first | (exfalso; omega) | skip)))
        · refine K.AT.drop ?_
          refine K.done (by first | exact Or.inl rfl | exact Or.inr rfl) rfl (by first | exact K.Base.le.refl _ | assumption) (H' := []) rfl ⟨rfl, rfl, true, rfl, fun e => by cases e⟩
        · refine K.a_round hKM (k + 1) ⟨by omega, fun _ i y hi h2 => ?_⟩ (by repeat (first | exact K.Sub.nil _ | refine K.Sub.cons rfl ?_)) rfl rfl (by omega)
          by_cases hik : i < k
          · exact hyk () i y hik h2
          · obtain rfl : i = k := by omega
            rw [hz1] at h2; cases h2; omega
      · obtain rfl : k = x.to.cells.length := by omega
        (repeat' (first | refine X.rq ?_ | (refine X.rc ?_ ?_ <;> intro hc <;> first | (exfalso; omega) | skip)))
        refine K.a_round hKL (j + 1) ⟨by omega, by omega, fun _ i y hi h2 => ?_⟩ (by repeat (first | exact K.Sub.nil _ | refine K.Sub.cons rfl ?_)) rfl rfl (by omega)
        by_cases hij : i < j
        · exact hyes () i y hij h2
        · obtain rfl : i = j := by omega
          rw [he1] at h2; cases h2
          refine ⟨by omega, fun z hz => ?_⟩
          obtain ⟨m, hm, rfl⟩ := List.mem_iff_getElem.1 hz
          exact hyk () m _ hm (List.getElem?_eq_getElem hm)
  · have hfin : r.images.length ≤ 300 → ∀ x ∈ r.images, shortI x := fun hl x hx => by
      obtain ⟨m, hm, rfl⟩ := List.mem_iff_getElem.1 hx
      exact hyes () m _ (by omega) (List.getElem?_eq_getElem hm)
    have hfin2 : ∀ _ : Unit, (r.images.length ≤ 300 ∧ r.lives.length ≤ 3000 ∧ r.dirty.length ≤ 3000 ∧ r.op.data.length ≤ 2000) → shortR r := fun _ ⟨a, b, c, d⟩ => ⟨a, hfin a, b, c, d⟩
    clear hfin hyes hi3
    (repeat' (first | refine X.rq ?_ | (refine X.rc ?_ ?_ <;> intro hc <;> first | (exfalso; omega) | skip)))
    all_goals
      refine K.AT.drop ?_
      refine K.done (by first | exact Or.inl rfl | exact Or.inr rfl) rfl (by first | exact K.Base.le.refl _ | assumption) (H' := []) rfl ⟨rfl, rfl, _, rfl, fun e => ?_⟩
      refine hfin2 () ?_
      simp only [decide_eq_false_iff_not, decide_eq_true_eq, reduceCtorEq] at e <;> omega
theorem RLongs (h : Base) (v : Value) (es : List (List Value)) (l : List Recd) (hv : SL h 15 v es) (hel : es.length = l.length) (hl : l.length ≤ 9223372036854775807) (hr : ∀ (j : Nat) c x, es[j]? = some c → l[j]? = some x → RecC h c x) :
    Tr Try.prog 21 [v] h [] (LongP h (l.length ≤ 300 ∧ ∀ x ∈ l, shortR x)) := by
  obtain ⟨ao, ca, rfl⟩ := hv.len
  rw [hel] at hv ⊢
  refine K.enter Try.func21 rfl (Nat.le_of_ble_eq_true rfl) (fun F => ?_)
  simp only [List.nil_append]
  (repeat' (first | refine X.rq ?_ | (refine X.rc ?_ ?_ <;> intro hc <;> first | (exfalso; omega) | skip)))
  refine K.c_loop (σ := Nat) (fun j => [(0, .slice ao l.length ca), (3, .int .i64 j)]) (fun _ => h) (fun _ => F)
    (fun j => j ≤ l.length ∧ j ≤ 301 ∧ ∀ _ : Unit, ∀ (i : Nat) x, i < j → l[i]? = some x → shortR x) (fun j => l.length - j) 0 ⟨Nat.zero_le _, Nat.zero_le _, fun _ i x hi => by omega⟩ (by repeat (first | exact K.Sub.nil _ | refine K.Sub.cons rfl ?_)) rfl rfl ?_
  rintro j ⟨hj, hj3, hyes⟩ KL hKL
  by_cases hjl : j < l.length ∧ j ≤ 300
  · obtain ⟨hjl, hj300⟩ := hjl
    have hc1 : es[j]? = some (es[j]'(by omega)) := List.getElem?_eq_getElem (by omega)
    have hc0 : es[((j : Nat) : Int).toNat]? = some (es[j]'(by omega)) := by rw [Int.toNat_natCast]; exact hc1
    have he1 : l[j]? = some (l[j]'(by omega)) := List.getElem?_eq_getElem hjl
    generalize es[j]'(by omega) = c at hc0 hc1
    generalize l[j]'(by omega) = x at he1
    have hxc := hr j c x hc1 he1
    have hcl : c.length = 15 := by obtain ⟨_, _, _, _, _, _, _, _, _, e, _⟩ := hxc.cells; rw [e]; rfl
    have hlong := RLong h c x hxc
    (repeat' (first | refine X.rq ?_ | (refine X.rc ?_ ?_ <;> intro hc <;> first | (exfalso; omega) | skip)))
    refine K.s_pureE (K.p_indexL hv (Fx.und rfl) (Fx.sz rfl) rfl rfl (by omega) hc0) rfl ?_
    rintro v2 ⟨b, o, rfl, hcel⟩
    refine K.s_pure (K.p_loadM (Fx.agg rfl) rfl (Cels.up hcel) (Fx.sz rfl) hcl) rfl ?_
    refine K.l_call (Fx.cal rfl) rfl hlong (K.pp [] rfl) rfl ?_
    rintro u h' H' - ⟨e, rfl, b5, rfl, hb5⟩
    obtain rfl := e.symm
    simp only [List.nil_append]
    cases b5 with
    | true =>
      (repeat' (first | refine X.rq ?_ | (refine X.rc ?_ ?_ <;> intro hc <;> first | (exfalso; omega) | skip)))
      refine K.done (by first | exact Or.inl rfl | exact Or.inr rfl) rfl (by first | exact K.Base.le.refl _ | assumption) (H' := []) rfl ⟨rfl, rfl, true, rfl, fun e => by cases e⟩
    | false =>
      (repeat' (first | refine X.rq ?_ | (refine X.rc ?_ ?_ <;> intro hc <;> first | (exfalso; omega) | skip)))
      refine K.a_round hKL (j + 1) ⟨by omega, by omega, fun _ i y hi h2 => ?_⟩ (by repeat (first | exact K.Sub.nil _ | refine K.Sub.cons rfl ?_)) rfl rfl (by omega)
      by_cases hij : i < j
      · exact hyes () i y hij h2
      · obtain rfl : i = j := by omega
        rw [he1] at h2; cases h2
        exact hb5 rfl
  · have hfin : ∀ _ : Unit, l.length ≤ 300 → l.length ≤ 300 ∧ ∀ x ∈ l, shortR x := fun _ hl => ⟨hl, fun x hx => by
      obtain ⟨m, hm, rfl⟩ := List.mem_iff_getElem.1 hx
      exact hyes () m _ (by omega) (List.getElem?_eq_getElem hm)⟩
    clear hyes
    (repeat' (first | refine X.rq ?_ | (refine X.rc ?_ ?_ <;> intro hc <;> first | (exfalso; omega) | skip)))
    all_goals
      refine K.done (by first | exact Or.inl rfl | exact Or.inr rfl) rfl (by first | exact K.Base.le.refl _ | assumption) (H' := []) rfl ⟨rfl, rfl, _, rfl, fun e => ?_⟩
      refine hfin () ?_
      simp only [decide_eq_false_iff_not] at e
      omega
end Go.Proofs.Ytihambjhlhgaeaa.Rc
