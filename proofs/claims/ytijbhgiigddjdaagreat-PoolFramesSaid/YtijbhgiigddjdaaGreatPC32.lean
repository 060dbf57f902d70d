/-
 Which records may be, their size, their bytes: the code. Conditions: each theorem's own.
-/
import Derived.Test.YtijbhgiigddjdaaGreatPC30
import Derived.Test.YtijbhgiigddjdaaGreatPC31
set_option linter.unusedVariables false
set_option linter.unusedSimpArgs false
set_option maxRecDepth 10000
set_option maxHeartbeats 16000000
namespace Go.Proofs.YtijbhgiigddjdaaGreat.Rc
open Go.K Pg Ca

theorem rise_nil {α : Type} {l : List α} (f : α → Nat) (h : l.length = 0) : riseQ 0 (l.map f) = true := by
 rw [List.eq_nil_of_length_eq_zero h]; rfl
theorem okR_t {r : Recd} (hb : bareP r) (hk : r.kind = 1 ∨ r.kind = 5 ∨ r.kind = 6 ∨ r.kind = 7) : okR r ↔ r.txn ≠ 0 := by
 have hb0 := hb
 obtain ⟨_, _, _, _, b5, b6⟩ := hb
 constructor
 ·rintro ⟨_, _, h3, _⟩
  exact h3 (by unfold hasT; omega)
 ·intro h
  obtain ⟨_, e1, e2⟩ := b5 (by omega)
  have e3 := b6 (by omega)
  refine ⟨by omega, hb0, fun _ => h, fun hk2 => by omega, fun hk4 => by omega, rise_nil _ e3, fun x hx => ?_, rise_nil _ e1, rise_nil _ e2⟩
  rw [List.eq_nil_of_length_eq_zero e3] at hx; cases hx
theorem okR_23 {r : Recd} (hb : bareP r) (hk : r.kind = 2 ∨ r.kind = 3) : okR r ↔ r.txn ≠ 0 ∧ doesP r := by
 have hb0 := hb
 obtain ⟨_, _, _, _, b5, b6⟩ := hb
 constructor
 ·rintro ⟨_, _, h3, h4, _⟩
  exact ⟨h3 (by unfold hasT; omega), h4 hk⟩
 ·rintro ⟨h, hd⟩
  obtain ⟨_, e1, e2⟩ := b5 (by omega)
  have e3 := b6 (by omega)
  refine ⟨by omega, hb0, fun _ => h, fun _ => hd, fun hk4 => by omega, rise_nil _ e3, fun x hx => ?_, rise_nil _ e1, rise_nil _ e2⟩
  rw [List.eq_nil_of_length_eq_zero e3] at hx; cases hx
theorem okR_4 {r : Recd} (hb : bareP r) (hk : r.kind = 4) : okR r ↔ r.images.length ≠ 0 ∧ riseQ 0 (r.images.map PImg.page) = true ∧ r.images.all imgQ = true := by
 have hb0 := hb
 obtain ⟨_, _, _, _, b5, b6⟩ := hb
 rw [List.all_eq_true]
 constructor
 ·rintro ⟨_, _, _, _, h5, h6, h7, _⟩
  exact ⟨h5 hk, h6, h7⟩
 ·rintro ⟨h1, h2, h3⟩
  obtain ⟨_, e1, e2⟩ := b5 (by omega)
  exact ⟨by omega, hb0, fun ht => by unfold hasT at ht; omega, fun hk2 => by omega, fun _ => h1, h2, h3, rise_nil _ e1, rise_nil _ e2⟩
theorem okR_8 {r : Recd} (hb : bareP r) (hk : r.kind = 8) : okR r ↔ riseQ 0 (r.lives.map PLive.txn) = true ∧ riseQ 0 (r.dirty.map PDirty.page) = true := by
 have hb0 := hb
 obtain ⟨_, _, _, _, b5, b6⟩ := hb
 constructor
 ·rintro ⟨_, _, _, _, _, _, _, h8, h9⟩
  exact ⟨h8, h9⟩
 ·rintro ⟨h1, h2⟩
  have e3 := b6 (by omega)
  refine ⟨by omega, hb0, fun ht => by unfold hasT at ht; omega, fun hk2 => by omega, fun _ => by omega, rise_nil _ e3, fun x hx => ?_, h1, h2⟩
  rw [List.eq_nil_of_length_eq_zero e3] at hx; cases hx
theorem imgF_of {h : Base} {c : List Value} {x : PImg} (hc : ImgC h c x) : ImgF c x.page := by
 obtain ⟨_, cs, rfl, _, cv, rfl, es, hv, _⟩ := hc
 obtain ⟨ao, ca, rfl⟩ := hv.len
 exact ⟨_, _, _, _, _, _, rfl⟩
theorem bodyN_len {r : Recd} (hok : okR r) (hs : smallR r) : (bodyN r).length ≤ 900000000 := by
 obtain ⟨⟨hk1, hk8⟩, hbare, htx, hdo, him, hri, hiq, hrl, hrd⟩ := hok
 obtain ⟨hs1, hs3, hs4, hs5⟩ := hs
 have h1 := cu_len r.txn
 have h2 := cu_len r.prev
 have h3 := cu_len r.undo
 have h4 := cu_len r.page
 have h5 := cu_len r.root
 have h6 := cu_len r.op.slot.toNat
 have h7 := cu_len r.op.txn
 have h8 := cu_len r.op.data.length
 have h9 := cu_len r.images.length
 have h10 := flat_len imgN 12040 r.images fun x hx => imgN_len (hiq x hx)
 have h11 := cu_len r.lives.length
 have h12 := flat_len liveN 31 r.lives fun x _ => liveN_len x
 have h13 := cu_len r.dirty.length
 have h14 := flat_len dirtN 20 r.dirty fun x _ => dirtN_len x
 have h15 := cu_len r.next
 have h16 : r.images.length * 12040 ≤ 66000 * 12040 := Nat.mul_le_mul_right _ hs1
 have h17 : r.lives.length * 31 ≤ 66000 * 31 := Nat.mul_le_mul_right _ hs3
 have h18 : r.dirty.length * 20 ≤ 100000 * 20 := Nat.mul_le_mul_right _ hs4
 unfold bodyN
 rw [List.length_append, lebs_length]
 unfold fieldsN opN
 split
 ·omega
 split
 ·simp only [List.length_append]; omega
 split
 ·split
  ·simp only [List.length_append, lebs_length]; omega
  ·simp only [List.length_append, lebs_length, List.length_nil]; omega
 split
 ·simp only [List.length_append]; omega
 split
 ·simp only [List.length_append]; omega
 ·simp only [List.length_nil]; omega
theorem all_at {α : Type} {l : List α} {j : Nat} {x : α} (f : α → Bool) (h : l[j]? = some x) : (l.take (j + 1)).all f = ((l.take j).all f && f x) := by
 obtain ⟨hj, rfl⟩ := List.getElem?_eq_some_iff.1 h
 rw [List.take_succ_eq_append_getElem hj, List.all_append]
 simp
theorem RecMay (h : Base) (cs : List Value) (r : Recd) (hx : RecC h cs r) (hs : smallR r) : TrV Tryz.prog 131 [.agg cs.toArray] h [] (.bool (mayR r)) [] := by
 have hx0 := hx
 have hbare := PBare h cs r hx
 have hdoes := PDoes h cs r hx
 have hbody := PBody h cs r hx
 obtain ⟨hw, ad, ai, al, ay, cd, ci, cl, cy, rfl, hb, ⟨es, hi1, hi2, hi3⟩, hl4, hd2⟩ := hx.cells
 have hs1 := hs.1
 have hs3 := hs.2.1
 have hs4 := hs.2.2.1
 have ht4 := hw.txn
 refine K.en Tryz.func131 fun F => ?_
 simp only [List.nil_append]
 (repeat' first | refine X.rq ?_ | refine X.rc ?_ ?_ <;> intro hc <;> try omega)
 refine K.l_box rfl rfl rfl (fun B1 => ?_)
 (repeat' first | refine X.rq ?_ | refine X.rc ?_ ?_ <;> intro hc <;> try omega)
 refine K.l_callV (Fx.cal rfl) rfl hbare (K.pp [] rfl) rfl rfl ?_
 simp only [List.nil_append]
 by_cases hbp : bareP r
 ·rw [decide_eq_true hbp]
  (repeat' first | refine X.rk ?_ | refine X.rd ?_ ?_ <;> intro hc <;> try omega)
  refine X.w ?_
  (repeat' first | refine X.rk ?_ | refine X.rd ?_ ?_ <;> intro hc <;> try omega)
  refine X.w ?_
  (repeat' first | refine X.rk ?_ | refine X.rd ?_ ?_ <;> intro hc <;> try omega)
  skip
  by_cases hk19 : r.kind < 1 ∨ 8 < r.kind
  ·(repeat' first | refine X.rq ?_ | refine X.rc ?_ ?_ <;> intro hc <;> try omega)
   refine K.AT.drop ?_
   refine K.dl rfl (H' := []) rfl ⟨?_, rfl, rfl⟩
   rw [show mayR r = false from by unfold mayR; rw [decide_eq_false fun ho => by have := ho.1; omega, Bool.false_and]]
   rfl
  refine K.c_join (β := Bool) (fun b => [(1, .pointer (some ⟨B1, 0, none⟩)), (3, .bool b)]) (fun _ => h) (fun _ => blk B1 92 (cR r (.slice ad r.op.data.length cd) (.slice ai r.images.length ci) (.slice al r.lives.length cl) (.slice ay r.dirty.length cy)) :: F) (fun b => b = decide (okR r)) (fun KJ hJ => ?_) (fun b hbo => ?_)
  ·have hkk : (r.kind = 1 ∨ r.kind = 5 ∨ r.kind = 6 ∨ r.kind = 7) ∨ (r.kind = 2 ∨ r.kind = 3) ∨ r.kind = 4 ∨ r.kind = 8 := by omega
   have hnn : decide ((r.txn : Int) ≠ 0) = decide (r.txn ≠ 0) := decide_eq_decide.2 (by omega)
   rcases hkk with hk0 | hk0 | hk0 | hk0
   ·have hok := okR_t hbp hk0
    rcases hk0 with hk | hk | hk | hk
    all_goals
     (repeat' first | refine X.rq ?_ | refine X.rc ?_ ?_ <;> intro hc <;> try omega)
     refine K.a_join hJ (decide ((r.txn : Int) ≠ 0)) (hnn.trans (decide_eq_decide.2 hok.symm)) (by repeat (first | exact K.Sub.nil _ | refine K.Sub.cons rfl ?_)) rfl rfl
   ·have hok := okR_23 hbp hk0
    have hdoes := hdoes hk0
    by_cases htx : r.txn = 0
    ·rw [decide_eq_false (fun ho => (hok.1 ho).1 htx)] at hJ
     rcases hk0 with hk | hk
     all_goals
      (repeat' first | refine X.rq ?_ | refine X.rc ?_ ?_ <;> intro hc <;> try omega)
      refine K.a_join hJ false rfl (by repeat (first | exact K.Sub.nil _ | refine K.Sub.cons rfl ?_)) rfl rfl
    ·have hok : decide (okR r) = decide (doesP r) := decide_eq_decide.2 ⟨fun h => (hok.1 h).2, fun h => hok.2 ⟨htx, h⟩⟩
     rcases hk0 with hk | hk
     all_goals
      (repeat' first | refine X.rq ?_ | refine X.rc ?_ ?_ <;> intro hc <;> try omega)
      refine K.l_callV (Fx.cal rfl) rfl hdoes (K.pp [] rfl) rfl rfl ?_
      simp only [List.nil_append]
      (repeat' first | refine X.rq ?_ | refine X.rc ?_ ?_ <;> intro hc <;> try omega)
      refine K.a_join hJ (decide (doesP r)) hok.symm (by repeat (first | exact K.Sub.nil _ | refine K.Sub.cons rfl ?_)) rfl rfl
   ·have hok := okR_4 hbp hk0
    have hrise := RiseImg h (.slice ai r.images.length ci) es (r.images.map PImg.page) hi1 (by omega) (by rw [List.length_map]; exact hi2) (fun x hx => by
     obtain ⟨y, hy, rfl⟩ := List.mem_map.1 hx
     obtain ⟨i, hi, rfl⟩ := List.mem_iff_getElem.1 hy
     exact (hi3 i _ _ (List.getElem?_eq_getElem (by omega)) (List.getElem?_eq_getElem hi)).1) (fun j c n hc hn => by
     rw [List.getElem?_map] at hn
     obtain ⟨x, hx, rfl⟩ := Option.map_eq_some_iff.1 hn
     exact imgF_of (hi3 j c x hc hx))
    refine X.w ?_
    (repeat' first | refine X.rk ?_ | refine X.rd ?_ ?_ <;> intro hc <;> try omega)
    refine X.w ?_
    (repeat' first | refine X.rk ?_ | refine X.rd ?_ ?_ <;> intro hc <;> try omega)
    refine X.w ?_
    (repeat' first | refine X.rk ?_ | refine X.rd ?_ ?_ <;> intro hc <;> try omega)
    refine X.w ?_
    (repeat' first | refine X.rk ?_ | refine X.rd ?_ ?_ <;> intro hc <;> try omega)
    refine K.c_join (β := Bool) (fun b => [(1, .pointer (some ⟨B1, 0, none⟩)), (3, .bool b)]) (fun _ => h) (fun _ => blk B1 92 (cR r (.slice ad r.op.data.length cd) (.slice ai r.images.length ci) (.slice al r.lives.length cl) (.slice ay r.dirty.length cy)) :: F) (fun b => b = (decide (r.images.length ≠ 0) && riseQ 0 (r.images.map PImg.page))) (fun KL hL => ?_) (fun b hb0 => ?_)
    ·skip
     by_cases hl0 : r.images.length = 0
     ·(repeat' first | refine X.rq ?_ | refine X.rc ?_ ?_ <;> intro hc <;> try omega)
      refine K.a_join hL false (by rw [decide_eq_false (by omega), Bool.false_and]) (by repeat (first | exact K.Sub.nil _ | refine K.Sub.cons rfl ?_)) rfl rfl
     ·(repeat' first | refine X.rq ?_ | refine X.rc ?_ ?_ <;> intro hc <;> try omega)
      skip
      refine K.l_callV (Fx.cal rfl) rfl hrise (K.pp [] rfl) rfl rfl ?_
      simp only [List.nil_append]
      (repeat' first | refine X.rq ?_ | refine X.rc ?_ ?_ <;> intro hc <;> try omega)
      refine K.a_join hL (riseQ 0 (r.images.map PImg.page)) (by rw [decide_eq_true hl0, Bool.true_and]) (by repeat (first | exact K.Sub.nil _ | refine K.Sub.cons rfl ?_)) rfl rfl
    ·(repeat' first | refine X.rq ?_ | refine X.rc ?_ ?_ <;> intro hc <;> try omega)
     refine K.c_loop (σ := Nat × Bool) (fun q => [(1, .pointer (some ⟨B1, 0, none⟩)), (3, .bool q.2), (34, .slice ai r.images.length ci), (35, .int .i64 r.images.length), (36, .int .i64 q.1)]) (fun _ => h) (fun _ => blk B1 92 (cR r (.slice ad r.op.data.length cd) (.slice ai r.images.length ci) (.slice al r.lives.length cl) (.slice ay r.dirty.length cy)) :: F)
      (fun q => q.1 ≤ r.images.length ∧ q.2 = (b && (r.images.take q.1).all imgQ)) (fun q => r.images.length - q.1) (0, b) ⟨Nat.zero_le _, by simp⟩ (by repeat (first | exact K.Sub.nil _ | refine K.Sub.cons rfl ?_)) rfl rfl ?_
     rintro ⟨j, t⟩ ⟨hj, ht⟩ KL hKL
     dsimp only at hj ht ⊢
     by_cases hjl : j < r.images.length
     ·have hc1 : es[j]? = some (es[j]'(by omega)) := List.getElem?_eq_getElem (by omega)
      have hc0 : es[((j : Nat) : Int).toNat]? = some (es[j]'(by omega)) := by rw [Int.toNat_natCast]; exact hc1
      have hx1 : r.images[j]? = some (r.images[j]'(by omega)) := List.getElem?_eq_getElem (by omega)
      generalize es[j]'(by omega) = c at hc0 hc1
      generalize r.images[j]'(by omega) = x at hx1
      obtain ⟨hpg, cs, rfl, hpc⟩ := hi3 j c x hc1 hx1
      have hmay := PMay h cs x.to hpc
      have hat := all_at imgQ hx1
      have hwp := hpc.1.lsn
      obtain ⟨_, cv, rfl, es5, hv5, _⟩ := hpc
      obtain ⟨ao5, ca5, rfl⟩ := hv5.len
      (repeat' first | refine X.rq ?_ | refine X.rc ?_ ?_ <;> intro hc <;> try omega)
      refine K.s_pureE (K.p_indexL hi1 (Fx.und rfl) (Fx.sz rfl) rfl rfl (by omega) hc0) rfl ?_
      rintro v2 ⟨b2, o2, rfl, hcel⟩
      refine K.s_pure (K.p_loadM (Fx.agg rfl) rfl (Cels.up hcel) (Fx.sz rfl) rfl) rfl ?_
      refine K.l_alloc (Fx.zr rfl) rfl rfl (fun B5 => ?_)
      refine X.stw ?_
      simp only [Go.K.nmz]
      cases t with
      | false =>
       (repeat' first | refine X.rq ?_ | refine X.rc ?_ ?_ <;> intro hc <;> try omega)
       refine K.AT.drop ?_
       refine K.a_round hKL (j + 1, false) ⟨by dsimp only; omega, ?_⟩ (by repeat (first | exact K.Sub.nil _ | refine K.Sub.cons rfl ?_)) rfl rfl (by dsimp only; omega)
       dsimp only
       rw [hat, ← Bool.and_assoc, ← ht, Bool.false_and]
      | true =>
       have hfin : (b && (r.images.take (j + 1)).all imgQ) = imgQ x := by rw [hat, ← Bool.and_assoc, ← ht, Bool.true_and]
       (repeat' first | refine X.rq ?_ | refine X.rc ?_ ?_ <;> intro hc <;> try omega)
       skip
       refine K.s_pure (K.p_loadM (Fx.agg rfl) rfl (K.cels_own (pre := [.int .u32 x.page]) (cs := cP x.to (.slice ao5 es5.length ca5)) (post := []) 0 rfl rfl) (Fx.sz rfl) rfl) rfl ?_
       refine K.s_take rfl rfl ?_
       refine K.l_callV (Fx.cal rfl) rfl hmay (K.pp [] rfl) rfl rfl ?_
       simp only [List.nil_append]
       cases hmx : mayQ x.to with
       | false =>
        (repeat' first | refine X.rq ?_ | refine X.rc ?_ ?_ <;> intro hc <;> try omega)
        refine K.AT.drop ?_
        refine K.a_round hKL (j + 1, false) ⟨by dsimp only; omega, ?_⟩ (by repeat (first | exact K.Sub.nil _ | refine K.Sub.cons rfl ?_)) rfl rfl (by dsimp only; omega)
        dsimp only
        rw [hfin, imgQ, hmx, Bool.false_and]
       | true =>
        (repeat' first | refine X.rq ?_ | refine X.rc ?_ ?_ <;> intro hc <;> try omega)
        refine K.AT.drop ?_
        refine K.a_round hKL (j + 1, decide ((x.to.lsn : Int) = 0)) ⟨by dsimp only; omega, ?_⟩ (by repeat (first | exact K.Sub.nil _ | refine K.Sub.cons rfl ?_)) rfl rfl (by dsimp only; omega)
        dsimp only
        rw [hfin, imgQ, hmx, Bool.true_and]
        exact decide_eq_decide.2 (by omega)
     ·obtain rfl : j = r.images.length := by omega
      rw [List.take_length] at ht
      (repeat' first | refine X.rq ?_ | refine X.rc ?_ ?_ <;> intro hc <;> try omega)
      skip
      refine K.a_join hJ t ?_ (by repeat (first | exact K.Sub.nil _ | refine K.Sub.cons rfl ?_)) rfl rfl
      rw [ht, hb0]
      rw [decide_eq_decide.2 hok, Bool.decide_and, Bool.decide_and, Bool.decide_eq_true, Bool.decide_eq_true, Bool.and_assoc]
   ·have hok := okR_8 hbp hk0
    have hrl := RiseLive h (.slice al r.lives.length cl) (r.lives.map cL) (r.lives.map PLive.txn) hl4 (by rw [List.length_map]; omega) (by simp) (fun x hx => by
     obtain ⟨y, hy, rfl⟩ := List.mem_map.1 hx
     exact (hw.live y hy).txn) (fun j c n hc hn => by
     rw [List.getElem?_map] at hn hc
     obtain ⟨x, hx, rfl⟩ := Option.map_eq_some_iff.1 hn
     rw [hx] at hc
     cases hc
     exact ⟨_, _, _, rfl⟩)
    have hrd := RiseDirt h (.slice ay r.dirty.length cy) (r.dirty.map cD) (r.dirty.map PDirty.page) hd2 (by rw [List.length_map]; omega) (by simp) (fun x hx => by
     obtain ⟨y, hy, rfl⟩ := List.mem_map.1 hx
     exact (hw.dirt y hy).page) (fun j c n hc hn => by
     rw [List.getElem?_map] at hn hc
     obtain ⟨x, hx, rfl⟩ := Option.map_eq_some_iff.1 hn
     rw [hx] at hc
     cases hc
     exact ⟨_, rfl⟩)
    have hok : decide (okR r) = (riseQ 0 (r.lives.map PLive.txn) && riseQ 0 (r.dirty.map PDirty.page)) := by
     rw [decide_eq_decide.2 hok, Bool.decide_and, Bool.decide_eq_true, Bool.decide_eq_true]
    rw [hok] at hJ
    generalize riseQ 0 (r.lives.map PLive.txn) = t1 at hJ hrl
    generalize riseQ 0 (r.dirty.map PDirty.page) = t2 at hJ hrd
    (repeat' first | refine X.rq ?_ | refine X.rc ?_ ?_ <;> intro hc <;> try omega)
    refine K.l_callV (Fx.cal rfl) rfl hrl (K.pp [] rfl) rfl rfl ?_
    simp only [List.nil_append]
    cases t1 with
    | false =>
     (repeat' first | refine X.rq ?_ | refine X.rc ?_ ?_ <;> intro hc <;> try omega)
     refine K.a_join hJ false rfl (by repeat (first | exact K.Sub.nil _ | refine K.Sub.cons rfl ?_)) rfl rfl
    | true =>
     (repeat' first | refine X.rq ?_ | refine X.rc ?_ ?_ <;> intro hc <;> try omega)
     refine K.l_callV (Fx.cal rfl) rfl hrd (K.pp [] rfl) rfl rfl ?_
     simp only [List.nil_append]
     (repeat' first | refine X.rq ?_ | refine X.rc ?_ ?_ <;> intro hc <;> try omega)
     refine K.a_join hJ t2 rfl (by repeat (first | exact K.Sub.nil _ | refine K.Sub.cons rfl ?_)) rfl rfl
  ·subst hbo
   by_cases hok : okR r
   ·rw [decide_eq_true hok]
    have hbody := hbody hok hs
    have hmr : mayR r = decide (((bodyN r).length : Int) + 2 ≤ 16384) := by unfold mayR; rw [decide_eq_true hok, Bool.true_and]; exact decide_eq_decide.2 (by omega)
    have hbl := bodyN_len hok hs
    (repeat' first | refine X.rq ?_ | refine X.rc ?_ ?_ <;> intro hc <;> try omega)
    refine K.l_call (Fx.cal rfl) rfl hbody (K.pp [] rfl) rfl ?_
    rintro u h' H' - ⟨e, a9, c9, rfl, rfl⟩
    obtain rfl := e.symm
    simp only [Go.K.cna]
    (repeat' first | refine X.rq ?_ | refine X.rc ?_ ?_ <;> intro hc <;> try omega)
    refine K.AT.sel [0, 0] rfl ?_
    refine K.dl rfl (H' := []) rfl ⟨?_, rfl, rfl⟩
    rw [hmr]
    rfl
   ·rw [decide_eq_false hok]
    (repeat' first | refine X.rq ?_ | refine X.rc ?_ ?_ <;> intro hc <;> try omega)
    refine K.AT.drop ?_
    refine K.dl rfl (H' := []) rfl ⟨?_, rfl, rfl⟩
    rw [show mayR r = false from by unfold mayR; rw [decide_eq_false hok, Bool.false_and]]
    rfl
 ·rw [decide_eq_false hbp]
  (repeat' first | refine X.rq ?_ | refine X.rc ?_ ?_ <;> intro hc <;> try omega)
  refine K.AT.drop ?_
  refine K.dl rfl (H' := []) rfl ⟨?_, rfl, rfl⟩
  rw [show mayR r = false from by unfold mayR; rw [decide_eq_false fun ho => hbp ho.2.1, Bool.false_and]]
  rfl
end Go.Proofs.YtijbhgiigddjdaaGreat.Rc
