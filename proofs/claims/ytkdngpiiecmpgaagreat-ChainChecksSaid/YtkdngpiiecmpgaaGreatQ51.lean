/-
  A log read from a checkpoint that says what is so, and less of the dirty pages: walked. Conditions: each theorem's own.
-/
import Derived.Test.YtkdngpiiecmpgaaGreatQ45
import Derived.Test.YtkdngpiiecmpgaaGreatQ50

namespace Go.Proofs.YtkdngpiiecmpgaaGreat.Ch
open Go Go.K Go.Proofs Go.Proofs.YtkdngpiiecmpgaaGreat Go.Proofs.YtkdngpiiecmpgaaGreat.Pg Go.Proofs.YtkdngpiiecmpgaaGreat.Rc
set_option linter.unusedVariables false
set_option linter.unusedSimpArgs false
set_option maxRecDepth 10000

theorem RowsG.take {α : Type} {R : List Value → α → Prop} {es : List (List Value)} {l : List α} (h : RowsG R es l) (k : Nat) : RowsG R (es.take k) (l.take k) :=
  ⟨by rw [List.length_take, List.length_take, h.1], fun j c x hc hx => by
    rw [List.getElem?_take] at hc hx
    split at hc
    · rename_i hj
      rw [if_pos hj] at hx
      exact h.2 j c x hc hx
    · cases hc⟩
theorem RowsG.append {α : Type} {R : List Value → α → Prop} {es es2 : List (List Value)} {l l2 : List α} (h : RowsG R es l) (h2 : RowsG R es2 l2) : RowsG R (es ++ es2) (l ++ l2) :=
  ⟨by rw [List.length_append, List.length_append, h.1, h2.1], fun j c x hc hx => by
    by_cases hj : j < es.length
    · rw [List.getElem?_append_left hj] at hc
      rw [List.getElem?_append_left (by rw [← h.1]; exact hj)] at hx
      exact h.2 j c x hc hx
    · rw [List.getElem?_append_right (by omega)] at hc
      rw [List.getElem?_append_right (by rw [← h.1]; omega), ← h.1] at hx
      exact h2.2 _ c x hc hx⟩
theorem ones_R {h : Base} {es : List (List Value)} {l : List Recd} (hr : RowsG (RecC h) es l) : ∀ e ∈ es, ones e = true := fun e he => by
  obtain ⟨j, hj⟩ := List.mem_iff_getElem?.1 he
  have hlt := (List.getElem?_eq_some_iff.1 hj).1
  obtain ⟨_, _, _, _, _, _, _, _, _, e1, _⟩ := (hr.2 j e _ hj (List.getElem?_eq_getElem (by have := hr.1; omega))).cells
  rw [e1]; rfl
theorem fifteens {h : Base} {es : List (List Value)} {l : List Recd} (hr : RowsG (RecC h) es l) : ∀ e ∈ es, e.length = 15 := RowsG.sz (n := 15) (fun c x hc => fifteen hc) hr
theorem analyse_zero {l : List Recd} {s : St} (h : analyseQ l 0 = some s) : rightQ 0 l = true ∧ hearsQ St0 l = some s := by
  unfold analyseQ at h
  split at h
  · cases h
  · rename_i hr
    rw [if_pos rfl] at h
    exact ⟨by simpa using hr, h⟩
/-- The record of a checkpoint. -/
def checkR (lsn : Nat) (a : List PLive) (d : List PDirty) (n : Nat) : Recd := ⟨8, lsn, 0, 0, 0, 0, 0, zO, [], a, d, n⟩
theorem checkR_c {h : Base} {lsn n : Nat} {a : List PLive} {d : List PDirty} {aL aD : Option Addr} {kL kD : Nat} (h1 : lsn < 18446744073709551616) (h2 : n < 4294967296) (hL : SL h 4 (.slice aL a.length kL) (a.map cL)) (hD : SL h 2 (.slice aD d.length kD) (d.map cD)) (ha : ∀ x ∈ a, wfL x) (hd : ∀ x ∈ d, wfD x) (ha2 : a.length ≤ 17000) (hd2 : d.length ≤ 100000) :
    RecC h (cR (checkR lsn a d n) (.slice none 0 0) (.slice none 0 0) (.slice aL a.length kL) (.slice aD d.length kD)) (checkR lsn a d n) :=
  ⟨⟨(by decide : in64 8), h1, (by decide : 0 < 4294967296), (by decide : 0 < 18446744073709551616), (by decide : 0 < 18446744073709551616), (by decide : 0 < 4294967296), (by decide : 0 < 4294967296), (⟨by decide, by decide, by decide, by decide⟩ : wfO zO), h2, (by decide : 0 ≤ 9223372036854775807), Nat.le_trans ha2 (by decide), Nat.le_trans hd2 (by decide), ha, hd⟩, none, 0, .slice none 0 0, _, _, rfl, BV.nil, ⟨[], SL.nil, rfl, fun j c x hc _ => by cases hc⟩, hL, hD⟩
structure JoD where
  ao : Option Addr
  k : Nat
  d : List PDirty
set_option maxHeartbeats 32000000 in
theorem ChainChecksW (h : Base) (v : Value) (es : List (List Value)) (l : List Recd) (t : Nat) (fw : Bool) (hv : SL h 15 v es) (hr : RowsG (RecC h) es l) (hl : l.length ≤ 140737488355328) (hcs : ∀ r ∈ l, ∀ m ∈ r.images, smallX m.to.cells) (ht : t < 256) :
    Tr Tryz.prog 7 [v, .int .u8 t, .bool fw] h [] (fun u h' H' => u = .bool true ∧ H' = []) := by
  have hlo := LLong h v (.slice none 0 0) es l [] [] hv hr (by omega) SL.nil RowsG.nil (by decide)
  have hal0 := Alive h
  have hel := hr.1
  obtain ⟨ao, ca, rfl⟩ := hv.len
  rw [hel] at hv hlo ⊢
  refine K.enter Tryz.func7 rfl (Nat.le_of_ble_eq_true rfl) (fun F => ?_)
  simp only [List.nil_append]
  (repeat' (first | refine X.rq ?_ | (refine X.rc ?_ ?_ <;> intro hc <;> first | (exfalso; omega) | skip)))
  refine K.l_call (Fx.cal rfl) rfl hlo (K.pp [] rfl) rfl ?_
  rintro u h' H' - ⟨e, rfl, b, rfl, hb⟩
  obtain rfl := e
  simp only [List.nil_append]
  cases b with
  | true =>
    (repeat' (first | refine X.rq ?_ | (refine X.rc ?_ ?_ <;> intro hc <;> first | (exfalso; omega) | skip)))
    refine K.l_callV (Fx.cal rfl) rfl hal0 (K.pp [] rfl) rfl rfl ?_
    simp only [List.nil_append]
    (repeat' (first | refine X.rq ?_ | (refine X.rc ?_ ?_ <;> intro hc <;> first | (exfalso; omega) | skip)))
    refine K.done (by first | exact Or.inl rfl | exact Or.inr rfl) rfl (by first | exact K.Base.le.refl _ | assumption) (H' := []) rfl ⟨rfl, rfl⟩
  | false =>
    obtain ⟨hl200, hfew, _⟩ := hb rfl
    have hsm : ∀ r ∈ l, smallR r := fun r hm => few_small (hfew r hm)
    have him : ∀ r ∈ l, r.images.length ≤ 200 := fun r hm => (hfew r hm).img
    clear hb hfew hcs hlo
    by_cases h0 : l.length = 0
    · (repeat' (first | refine X.rq ?_ | (refine X.rc ?_ ?_ <;> intro hc <;> first | (exfalso; omega) | skip)))
      refine K.l_callV (Fx.cal rfl) rfl hal0 (K.pp [] rfl) rfl rfl ?_
      simp only [List.nil_append]
      (repeat' (first | refine X.rq ?_ | (refine X.rc ?_ ?_ <;> intro hc <;> first | (exfalso; omega) | skip)))
      refine K.done (by first | exact Or.inl rfl | exact Or.inr rfl) rfl (by first | exact K.Base.le.refl _ | assumption) (H' := []) rfl ⟨rfl, rfl⟩
    · have han := CAnalyse h (.slice ao l.length ca) es l 0 hv hr (by omega) hsm (by decide)
      have hca : l.length ≤ ca := by
        have := hv.cap (by omega)
        omega
      (repeat' (first | refine X.rq ?_ | (refine X.rc ?_ ?_ <;> intro hc <;> first | (exfalso; omega) | skip)))
      refine K.l_call (Fx.cal rfl) rfl han (K.pp [] rfl) rfl ?_
      rintro u h' H' - ⟨e, hor⟩
      obtain rfl := e
      rcases hor with ⟨hno, rfl, rfl⟩ | ⟨s, m1, c1, m2, c2, a1, k1, a2, k2, hs, hrel, rfl, rfl⟩
      · simp only [List.nil_append]
        (repeat' (first | refine X.rq ?_ | (refine X.rc ?_ ?_ <;> intro hc <;> first | (exfalso; omega) | skip)))
        refine K.l_callV (Fx.cal rfl) rfl hal0 (K.pp [] rfl) rfl rfl ?_
        simp only [List.nil_append]
        (repeat' (first | refine X.rq ?_ | (refine X.rc ?_ ?_ <;> intro hc <;> first | (exfalso; omega) | skip)))
        refine K.done (by first | exact Or.inl rfl | exact Or.inr rfl) rfl (by first | exact K.Base.le.refl _ | assumption) (H' := []) rfl ⟨rfl, rfl⟩
      · obtain ⟨hright, hh⟩ := analyse_zero hs
        have hll := (hears_len hh him).1
        have hlD := (hears_len hh him).2.1
        have hrll : s.lives.length ≤ 200 := by
          have : St0.lives.length = 0 := rfl
          omega
        have hrdl : s.dirty.length ≤ 100000 := by
          have : St0.dirty.length = 0 := rfl
          omega
        have hwn := hrel.wn
        clear hrel hll hlD han
        have hzl : s.lives.length = (s.lives.map cL).length := (List.length_map ..).symm
        have hzd : s.dirty.length = (s.dirty.map cD).length := (List.length_map ..).symm
        simp only [List.nil_append, List.cons_append]
        refine K.WL.freezeRowN hzd (two_D s.dirty) (fun h1 le1 hD => ?_)
        refine K.WL.freezeRowN hzl (four_L s.lives) (fun h2 le2 hL => ?_)
        have hD := hD.le le2
        have le12 := le1.trans le2
        generalize K.bufV a1 s.lives.length k1 = vL at hL ⊢
        generalize K.bufV a2 s.dirty.length k2 = vD at hD ⊢
        obtain ⟨aL, kL, rfl⟩ := hL.len
        obtain ⟨aD, kD, rfl⟩ := hD.len
        rw [← hzl] at hL ⊢
        rw [← hzd] at hD ⊢
        have hv := hv.le le12
        have hr : RowsG (RecC h2) es l := RowsG.mono (fun c x hc => hc.le le12) hr
        have hmod : ((t : Nat) : Int) % ((l.length : Nat) : Int) = ((t % l.length : Nat) : Int) := by simp
        have hn : t % l.length < l.length := Nat.mod_lt _ (by omega)
        generalize t % l.length = n at hmod hn
        obtain ⟨sN, hAN, hHN, hck⟩ := checks hright hh hn
        have himN : ∀ r ∈ l.take n, r.images.length ≤ 200 := fun r hm => him r (List.mem_of_mem_take hm)
        have hNl : sN.lives.length ≤ 200 := by
          have h1 := (hears_len hHN himN).1
          have : St0.lives.length = 0 := rfl
          rw [List.length_take] at h1
          omega
        have hNd : sN.dirty.length ≤ 100000 := by
          have h1 := (hears_len hHN himN).2.1
          have : St0.dirty.length = 0 := rfl
          rw [List.length_take] at h1
          omega
        have hta : (l.take n).length = n := by rw [List.length_take]; omega
        have han := CAnalyse h2 (.slice ao n ca) (es.take n) (l.take n) 0 (hv.take (by omega)) (Ch.RowsG.take hr n) (by omega) (fun r hm => hsm r (List.mem_of_mem_take hm)) (by decide)
        have hck := fun (_ : Unit) => hck
        have hrise := rightQ_rise hright
        have hrise := fun (_ : Unit) => hrise
        clear hright hh him himN hHN hs
        (repeat' (first | refine X.rq ?_ | (refine X.rc ?_ ?_ <;> intro hc <;> first | (exfalso; omega) | skip)))
        rw [hmod]
        (repeat' (first | refine X.rq ?_ | (refine X.rc ?_ ?_ <;> intro hc <;> first | (exfalso; omega) | skip)))
        refine K.s_pure (K.p_sliceU (Fx.und rfl) (Fx.sz rfl) rfl rfl rfl (show n ≤ ca by omega)) rfl ?_
        (repeat' (first | refine X.rq ?_ | (refine X.rc ?_ ?_ <;> intro hc <;> first | (exfalso; omega) | skip)))
        refine K.l_call (Fx.cal rfl) rfl han (K.pp [] rfl) rfl ?_
        rintro u h' H' - ⟨e, hor⟩
        obtain rfl := e
        rcases hor with ⟨hno, _⟩ | ⟨s', m3, c3, m4, c4, a3, k3, a4, k4, hs', hrel, rfl, rfl⟩
        · rw [hAN] at hno; cases hno
        rw [hAN] at hs'
        obtain rfl := Option.some.inj hs'
        have hwl := hrel.wl
        have hwd := hrel.wd
        have hwnN := hrel.wn
        clear hrel hs' han
        have hzl2 : sN.lives.length = (sN.lives.map cL).length := (List.length_map ..).symm
        have hzd2 : sN.dirty.length = (sN.dirty.map cD).length := (List.length_map ..).symm
        simp only [List.nil_append, List.cons_append]
        refine K.WL.freezeRowN hzd2 (two_D sN.dirty) (fun h3 le3 hD2 => ?_)
        refine K.WL.freezeRowN hzl2 (four_L sN.lives) (fun h4 le4 hL2 => ?_)
        have hD2 := hD2.le le4
        have le34 := le3.trans le4
        have le04 := le12.trans le34
        generalize K.bufV a3 sN.lives.length k3 = vL at hL2 ⊢
        generalize K.bufV a4 sN.dirty.length k4 = vD at hD2 ⊢
        obtain ⟨aL2, kL2, rfl⟩ := hL2.len
        obtain ⟨aD2, kD2, rfl⟩ := hD2.len
        rw [← hzl2] at hL2 ⊢
        rw [← hzd2] at hD2 ⊢
        have hv := hv.le le34
        have hr : RowsG (RecC h4) es l := RowsG.mono (fun c x hc => hc.le le34) hr
        have hL := hL.le le34
        have hD := hD.le le34
        have hr := fun (_ : Unit) => hr
        have hwl := fun (_ : Unit) => hwl
        have hwd := fun (_ : Unit) => hwd
        have hal := Alive h4
        clear hal0
        (repeat' (first | refine X.rs ?_ | (refine X.rd ?_ ?_ <;> intro hc <;> first | (exfalso; omega) | skip)))
        apply K.c_seq
        refine K.c_join (β := Unit) (fun _ => [(0, .slice ao l.length ca), (2, .bool fw), (7, .slice aL s.lives.length kL), (8, .slice aD s.dirty.length kD), (9, .int .u32 s.next), (11, .int .i64 n), (12, .slice aL2 sN.lives.length kL2), (13, .slice aD2 sN.dirty.length kD2), (14, .int .u32 sN.next)]) (fun _ => h4) (fun _ => F) (fun _ => (n = 0 → ∀ q, l[0]? = some q → 2 ≤ q.lsn) ∧ ∀ q p, 0 < n → l[n]? = some q → l[n - 1]? = some p → p.lsn + 1 < q.lsn) (fun KJ hJ => ?_) ?_
        · by_cases hn0 : 0 < n
          · have hc1 : es[n]? = some (es[n]'(by omega)) := List.getElem?_eq_getElem (by omega)
            have hx1 : l[n]? = some (l[n]'hn) := List.getElem?_eq_getElem hn
            have hc2 : es[n - 1]? = some (es[n - 1]'(by omega)) := List.getElem?_eq_getElem (by omega)
            have hx2 : l[n - 1]? = some (l[n - 1]'(by omega)) := List.getElem?_eq_getElem (by omega)
            generalize es[n]'(by omega) = c at hc1
            generalize es[n - 1]'(by omega) = d at hc2
            generalize l[n]'hn = q at hx1
            generalize l[n - 1]'(by omega) = p at hx2
            have hlt : p.lsn < q.lsn := by
              obtain ⟨j1, rfl⟩ := List.getElem?_eq_some_iff.1 hx1
              obtain ⟨j2, rfl⟩ := List.getElem?_eq_some_iff.1 hx2
              exact List.pairwise_iff_getElem.1 (hrise ()) (n - 1) n j2 j1 (by omega)
            obtain ⟨hw, ad, ai, al, ay, cd, ci, cl, cy, rfl, _⟩ := ((hr ()).2 n c q hc1 hx1).cells
            obtain ⟨hw2, ad2, ai2, al2, ay2, cd2, ci2, cl2, cy2, rfl, _⟩ := ((hr ()).2 (n - 1) d p hc2 hx2).cells
            have hlsn := hw.lsn
            have hlsn2 := hw2.lsn
            clear hw hw2
            obtain ⟨bb, oo, rfl, hcx⟩ := hv.at hc1
            obtain ⟨bb2, oo2, e, hcx2⟩ := hv.at hc2
            obtain ⟨rfl, rfl⟩ : bb = bb2 ∧ oo = oo2 := by cases e; exact ⟨rfl, rfl⟩
            clear e hck
            by_cases hge : q.lsn ≤ p.lsn + 1
            · (repeat' (first | refine X.rq ?_ | (refine X.rc ?_ ?_ <;> intro hc <;> first | (exfalso; omega) | skip)))
              refine X.draw ([]) [] (.pu 0 (.pu 1 (.pu 2 (.pu 3 (.pu 4 (.pu 5 (.pu 6 (.pu 7 (.pu 8 (.pu 9 (.pu 11 (.pu 12 (.pu 13 (.pu 14 (.pu 15 (.st 10 (.st 16 (.pu 17 (.pu 18 (.pu 19 (.pu 20 (.pu 21 (.pu 22 (.pu 23 (.pu 24 (.pu 25 (.pu 26 (.pu 27 (.st 28 (.pu 29 (.pu 30 (.pu 31 .nil)))))))))))))))))))))))))))))))) ?_ (hQ := by repeat (first | with_reducible refine K.NoPanic.then ?_ | with_reducible refine K.NoPanic.inBlock ?_ | with_reducible exact K.post_noPanic _ _ | exact K.post_noPanic _ _))
              refine K.d_pu rfl (fun _ _ => X.mv) rfl ?_
              refine K.d_pu rfl (fun _ _ => X.bneq) rfl ?_
              refine K.d_pu rfl (fun _ _ => X.mv) rfl ?_
              first | refine K.d_skip rfl rfl rfl rfl ?_ | refine K.d_skipU rfl rfl rfl rfl rfl ?_ | refine K.d_puG rfl rfl rfl (fun _ _ => X.mv) rfl ?_
              first | refine K.d_skip rfl rfl rfl rfl ?_ | refine K.d_skipU rfl rfl rfl rfl rfl ?_ | refine K.d_puG rfl rfl rfl (fun _ _ => X.bgtr) rfl ?_
              rw [decide_eq_true (show ((n : Nat) : Int) > 0 by omega)]
              first | refine K.d_skip rfl rfl rfl rfl ?_ | refine K.d_skipU rfl rfl rfl rfl rfl ?_ | refine K.d_puG rfl rfl rfl (fun _ _ => X.mv) rfl ?_
              first | refine K.d_skip rfl rfl rfl rfl ?_ | refine K.d_skipU rfl rfl rfl rfl rfl ?_ | refine K.d_puG rfl rfl rfl (fun _ _ => X.mv) rfl ?_
              first | refine K.d_skip rfl rfl rfl rfl ?_ | refine K.d_skipU rfl rfl rfl rfl rfl ?_ | refine K.d_puG rfl rfl rfl (fun _ _ => X.mv) rfl ?_
              first | refine K.d_skip rfl rfl rfl rfl ?_ | refine K.d_skipU rfl rfl rfl rfl rfl ?_ | refine K.d_puG rfl rfl rfl (fun _ _ => X.ia) rfl ?_
              first | refine K.d_skip rfl rfl rfl rfl ?_ | refine K.d_skipU rfl rfl rfl rfl rfl ?_ | refine K.d_puG rfl rfl rfl (fun _ _ => X.fa) rfl ?_
              first | refine K.d_skip rfl rfl rfl rfl ?_ | refine K.d_skipU rfl rfl rfl rfl rfl ?_ | refine K.d_puG rfl rfl rfl (fun _ _ => X.mv) rfl ?_
              first | refine K.d_skip rfl rfl rfl rfl ?_ | refine K.d_skipU rfl rfl rfl rfl rfl ?_ | refine K.d_puG rfl rfl rfl (fun _ _ => X.mv) rfl ?_
              first | refine K.d_skip rfl rfl rfl rfl ?_ | refine K.d_skipU rfl rfl rfl rfl rfl ?_ | refine K.d_puG rfl rfl rfl (fun _ _ => X.bsub) rfl ?_
              rw [show ((n : Nat) : Int) - 1 = ((n - 1 : Nat) : Int) by omega]
              first | refine K.d_skip rfl rfl rfl rfl ?_ | refine K.d_skipU rfl rfl rfl rfl rfl ?_ | refine K.d_puG rfl rfl rfl (fun _ _ => X.ia) rfl ?_
              first | refine K.d_skip rfl rfl rfl rfl ?_ | refine K.d_skipU rfl rfl rfl rfl rfl ?_ | refine K.d_puG rfl rfl rfl (fun _ _ => X.fa) rfl ?_
              refine K.d_stG rfl rfl rfl (K.p_load (Fx.agg rfl) rfl (Cels.get (Cels.up hcx) 1 (.int .u64 q.lsn) rfl)) rfl ?_
              refine K.d_stG rfl rfl rfl (K.p_load (Fx.agg rfl) rfl (Cels.get (Cels.up hcx2) 1 (.int .u64 p.lsn) rfl)) rfl ?_
              first | refine K.d_skip rfl rfl rfl rfl ?_ | refine K.d_skipU rfl rfl rfl rfl rfl ?_ | refine K.d_puG rfl rfl rfl (fun _ _ => X.badd) rfl ?_
              first | refine K.d_skip rfl rfl rfl rfl ?_ | refine K.d_skipU rfl rfl rfl rfl rfl ?_ | refine K.d_puG rfl rfl rfl (fun _ _ => X.bleq) rfl ?_
              rw [decide_eq_true (show ((q.lsn : Nat) : Int) ≤ ((p.lsn : Nat) : Int) + 1 by omega)]
              first | refine K.d_skip rfl rfl rfl rfl ?_ | refine K.d_skipU rfl rfl rfl rfl rfl ?_ | refine K.d_puG rfl rfl rfl (fun _ _ => X.pk) rfl ?_
              refine K.d_pu rfl (fun _ _ => X.pk) rfl ?_
              refine K.d_pu rfl (fun _ _ => X.mv) rfl ?_
              first | refine K.d_skip rfl rfl rfl rfl ?_ | refine K.d_skipU rfl rfl rfl rfl rfl ?_ | refine K.d_puG rfl rfl rfl (fun _ _ => X.mv) rfl ?_
              first | refine K.d_skip rfl rfl rfl rfl ?_ | refine K.d_skipU rfl rfl rfl rfl rfl ?_ | refine K.d_puG rfl rfl rfl (fun _ _ => X.beql) rfl ?_
              first | refine K.d_skip rfl rfl rfl rfl ?_ | refine K.d_skipU rfl rfl rfl rfl rfl ?_ | refine K.d_puG rfl rfl rfl (fun _ _ => X.mv) rfl ?_
              first | refine K.d_skip rfl rfl rfl rfl ?_ | refine K.d_skipU rfl rfl rfl rfl rfl ?_ | refine K.d_puG rfl rfl rfl (fun _ _ => X.mv) rfl ?_
              first | refine K.d_skip rfl rfl rfl rfl ?_ | refine K.d_skipU rfl rfl rfl rfl rfl ?_ | refine K.d_puG rfl rfl rfl (fun _ _ => X.ia) rfl ?_
              first | refine K.d_skip rfl rfl rfl rfl ?_ | refine K.d_skipU rfl rfl rfl rfl rfl ?_ | refine K.d_puG rfl rfl rfl (fun _ _ => X.fa) rfl ?_
              first | refine K.d_skipS rfl rfl rfl rfl ?_ | refine K.d_skipUS rfl rfl rfl rfl rfl ?_ | refine K.d_stG rfl rfl rfl X.ld rfl ?_
              first | refine K.d_skip rfl rfl rfl rfl ?_ | refine K.d_skipU rfl rfl rfl rfl rfl ?_ | refine K.d_puG rfl rfl rfl (fun _ _ => X.blss) rfl ?_
              first | refine K.d_skip rfl rfl rfl rfl ?_ | refine K.d_skipU rfl rfl rfl rfl rfl ?_ | refine K.d_puG rfl rfl rfl (fun _ _ => X.pk) rfl ?_
              refine K.d_pu rfl (fun _ _ => X.pk) rfl ?_
              refine K.d_nil ?_
              (repeat' (first | refine X.rq ?_ | (refine X.rc ?_ ?_ <;> intro hc <;> first | (exfalso; omega) | skip)))
              refine K.l_callV (Fx.cal rfl) rfl hal (K.pp [] rfl) rfl rfl ?_
              simp only [List.nil_append]
              (repeat' (first | refine X.rq ?_ | (refine X.rc ?_ ?_ <;> intro hc <;> first | (exfalso; omega) | skip)))
              refine K.done (by first | exact Or.inl rfl | exact Or.inr rfl) rfl (by first | exact K.Base.le.refl _ | assumption) (H' := []) rfl ⟨rfl, rfl⟩
            · (repeat' (first | refine X.rq ?_ | (refine X.rc ?_ ?_ <;> intro hc <;> first | (exfalso; omega) | skip)))
              refine X.draw ([]) [] (.pu 0 (.pu 1 (.pu 2 (.pu 3 (.pu 4 (.pu 5 (.pu 6 (.pu 7 (.pu 8 (.pu 9 (.pu 11 (.pu 12 (.pu 13 (.pu 14 (.pu 15 (.st 10 (.st 16 (.pu 17 (.pu 18 (.pu 19 (.pu 20 (.pu 21 (.pu 22 (.pu 23 (.pu 24 (.pu 25 (.pu 26 (.pu 27 (.st 28 (.pu 29 (.pu 30 (.pu 31 .nil)))))))))))))))))))))))))))))))) ?_ (hQ := by repeat (first | with_reducible refine K.NoPanic.then ?_ | with_reducible refine K.NoPanic.inBlock ?_ | with_reducible exact K.post_noPanic _ _ | exact K.post_noPanic _ _))
              refine K.d_pu rfl (fun _ _ => X.mv) rfl ?_
              refine K.d_pu rfl (fun _ _ => X.bneq) rfl ?_
              refine K.d_pu rfl (fun _ _ => X.mv) rfl ?_
              first | refine K.d_skip rfl rfl rfl rfl ?_ | refine K.d_skipU rfl rfl rfl rfl rfl ?_ | refine K.d_puG rfl rfl rfl (fun _ _ => X.mv) rfl ?_
              first | refine K.d_skip rfl rfl rfl rfl ?_ | refine K.d_skipU rfl rfl rfl rfl rfl ?_ | refine K.d_puG rfl rfl rfl (fun _ _ => X.bgtr) rfl ?_
              rw [decide_eq_true (show ((n : Nat) : Int) > 0 by omega)]
              first | refine K.d_skip rfl rfl rfl rfl ?_ | refine K.d_skipU rfl rfl rfl rfl rfl ?_ | refine K.d_puG rfl rfl rfl (fun _ _ => X.mv) rfl ?_
              first | refine K.d_skip rfl rfl rfl rfl ?_ | refine K.d_skipU rfl rfl rfl rfl rfl ?_ | refine K.d_puG rfl rfl rfl (fun _ _ => X.mv) rfl ?_
              first | refine K.d_skip rfl rfl rfl rfl ?_ | refine K.d_skipU rfl rfl rfl rfl rfl ?_ | refine K.d_puG rfl rfl rfl (fun _ _ => X.mv) rfl ?_
              first | refine K.d_skip rfl rfl rfl rfl ?_ | refine K.d_skipU rfl rfl rfl rfl rfl ?_ | refine K.d_puG rfl rfl rfl (fun _ _ => X.ia) rfl ?_
              first | refine K.d_skip rfl rfl rfl rfl ?_ | refine K.d_skipU rfl rfl rfl rfl rfl ?_ | refine K.d_puG rfl rfl rfl (fun _ _ => X.fa) rfl ?_
              first | refine K.d_skip rfl rfl rfl rfl ?_ | refine K.d_skipU rfl rfl rfl rfl rfl ?_ | refine K.d_puG rfl rfl rfl (fun _ _ => X.mv) rfl ?_
              first | refine K.d_skip rfl rfl rfl rfl ?_ | refine K.d_skipU rfl rfl rfl rfl rfl ?_ | refine K.d_puG rfl rfl rfl (fun _ _ => X.mv) rfl ?_
              first | refine K.d_skip rfl rfl rfl rfl ?_ | refine K.d_skipU rfl rfl rfl rfl rfl ?_ | refine K.d_puG rfl rfl rfl (fun _ _ => X.bsub) rfl ?_
              rw [show ((n : Nat) : Int) - 1 = ((n - 1 : Nat) : Int) by omega]
              first | refine K.d_skip rfl rfl rfl rfl ?_ | refine K.d_skipU rfl rfl rfl rfl rfl ?_ | refine K.d_puG rfl rfl rfl (fun _ _ => X.ia) rfl ?_
              first | refine K.d_skip rfl rfl rfl rfl ?_ | refine K.d_skipU rfl rfl rfl rfl rfl ?_ | refine K.d_puG rfl rfl rfl (fun _ _ => X.fa) rfl ?_
              refine K.d_stG rfl rfl rfl (K.p_load (Fx.agg rfl) rfl (Cels.get (Cels.up hcx) 1 (.int .u64 q.lsn) rfl)) rfl ?_
              refine K.d_stG rfl rfl rfl (K.p_load (Fx.agg rfl) rfl (Cels.get (Cels.up hcx2) 1 (.int .u64 p.lsn) rfl)) rfl ?_
              first | refine K.d_skip rfl rfl rfl rfl ?_ | refine K.d_skipU rfl rfl rfl rfl rfl ?_ | refine K.d_puG rfl rfl rfl (fun _ _ => X.badd) rfl ?_
              first | refine K.d_skip rfl rfl rfl rfl ?_ | refine K.d_skipU rfl rfl rfl rfl rfl ?_ | refine K.d_puG rfl rfl rfl (fun _ _ => X.bleq) rfl ?_
              rw [decide_eq_false (show ¬ ((q.lsn : Nat) : Int) ≤ ((p.lsn : Nat) : Int) + 1 by omega)]
              first | refine K.d_skip rfl rfl rfl rfl ?_ | refine K.d_skipU rfl rfl rfl rfl rfl ?_ | refine K.d_puG rfl rfl rfl (fun _ _ => X.pk) rfl ?_
              refine K.d_pu rfl (fun _ _ => X.pk) rfl ?_
              refine K.d_pu rfl (fun _ _ => X.mv) rfl ?_
              first | refine K.d_skip rfl rfl rfl rfl ?_ | refine K.d_skipU rfl rfl rfl rfl rfl ?_ | refine K.d_puG rfl rfl rfl (fun _ _ => X.mv) rfl ?_
              first | refine K.d_skip rfl rfl rfl rfl ?_ | refine K.d_skipU rfl rfl rfl rfl rfl ?_ | refine K.d_puG rfl rfl rfl (fun _ _ => X.beql) rfl ?_
              rw [decide_eq_false (show ¬ ((n : Nat) : Int) = 0 by omega)]
              first | refine K.d_skip rfl rfl rfl rfl ?_ | refine K.d_skipU rfl rfl rfl rfl rfl ?_ | refine K.d_puG rfl rfl rfl (fun _ _ => X.mv) rfl ?_
              first | refine K.d_skip rfl rfl rfl rfl ?_ | refine K.d_skipU rfl rfl rfl rfl rfl ?_ | refine K.d_puG rfl rfl rfl (fun _ _ => X.mv) rfl ?_
              first | refine K.d_skip rfl rfl rfl rfl ?_ | refine K.d_skipU rfl rfl rfl rfl rfl ?_ | refine K.d_puG rfl rfl rfl (fun _ _ => X.ia) rfl ?_
              first | refine K.d_skip rfl rfl rfl rfl ?_ | refine K.d_skipU rfl rfl rfl rfl rfl ?_ | refine K.d_puG rfl rfl rfl (fun _ _ => X.fa) rfl ?_
              first | refine K.d_skipS rfl rfl rfl rfl ?_ | refine K.d_skipUS rfl rfl rfl rfl rfl ?_ | refine K.d_stG rfl rfl rfl X.ld rfl ?_
              first | refine K.d_skip rfl rfl rfl rfl ?_ | refine K.d_skipU rfl rfl rfl rfl rfl ?_ | refine K.d_puG rfl rfl rfl (fun _ _ => X.blss) rfl ?_
              first | refine K.d_skip rfl rfl rfl rfl ?_ | refine K.d_skipU rfl rfl rfl rfl rfl ?_ | refine K.d_puG rfl rfl rfl (fun _ _ => X.pk) rfl ?_
              refine K.d_pu rfl (fun _ _ => X.pk) rfl ?_
              refine K.d_nil ?_
              (repeat' (first | refine X.rq ?_ | (refine X.rc ?_ ?_ <;> intro hc <;> first | (exfalso; omega) | skip)))
              refine K.a_join hJ () ⟨fun e => by omega, fun q' p' _ hq hp => ?_⟩ (by repeat (first | exact K.Sub.nil _ | refine K.Sub.cons rfl ?_)) rfl rfl
              rw [hx1] at hq
              rw [hx2] at hp
              cases hq
              cases hp
              omega
          · obtain rfl : n = 0 := by omega
            have hc1 : es[0]? = some (es[0]'(by omega)) := List.getElem?_eq_getElem (by omega)
            have hx1 : l[0]? = some (l[0]'hn) := List.getElem?_eq_getElem hn
            generalize es[0]'(by omega) = c at hc1
            generalize l[0]'hn = q at hx1
            obtain ⟨hw, ad, ai, al, ay, cd, ci, cl, cy, rfl, _⟩ := ((hr ()).2 0 c q hc1 hx1).cells
            have hlsn := hw.lsn
            clear hw hck
            obtain ⟨bb, oo, rfl, hcx⟩ := hv.at hc1
            by_cases hge : q.lsn < 2
            · (repeat' (first | refine X.rq ?_ | (refine X.rc ?_ ?_ <;> intro hc <;> first | (exfalso; omega) | skip)))
              refine X.draw ([]) [] (.pu 0 (.pu 1 (.pu 2 (.pu 3 (.pu 4 (.pu 5 (.pu 6 (.pu 7 (.pu 8 (.pu 9 (.pu 11 (.pu 12 (.pu 13 (.pu 14 (.pu 15 (.st 10 (.st 16 (.pu 17 (.pu 18 (.pu 19 (.pu 20 (.pu 21 (.pu 22 (.pu 23 (.pu 24 (.pu 25 (.pu 26 (.pu 27 (.st 28 (.pu 29 (.pu 30 (.pu 31 .nil)))))))))))))))))))))))))))))))) ?_ (hQ := by repeat (first | with_reducible refine K.NoPanic.then ?_ | with_reducible refine K.NoPanic.inBlock ?_ | with_reducible exact K.post_noPanic _ _ | exact K.post_noPanic _ _))
              refine K.d_pu rfl (fun _ _ => X.mv) rfl ?_
              refine K.d_pu rfl (fun _ _ => X.bneq) rfl ?_
              refine K.d_pu rfl (fun _ _ => X.mv) rfl ?_
              first | refine K.d_skip rfl rfl rfl rfl ?_ | refine K.d_skipU rfl rfl rfl rfl rfl ?_ | refine K.d_puG rfl rfl rfl (fun _ _ => X.mv) rfl ?_
              first | refine K.d_skip rfl rfl rfl rfl ?_ | refine K.d_skipU rfl rfl rfl rfl rfl ?_ | refine K.d_puG rfl rfl rfl (fun _ _ => X.bgtr) rfl ?_
              first | refine K.d_skip rfl rfl rfl rfl ?_ | refine K.d_skipU rfl rfl rfl rfl rfl ?_ | refine K.d_puG rfl rfl rfl (fun _ _ => X.mv) rfl ?_
              first | refine K.d_skip rfl rfl rfl rfl ?_ | refine K.d_skipU rfl rfl rfl rfl rfl ?_ | refine K.d_puG rfl rfl rfl (fun _ _ => X.mv) rfl ?_
              first | refine K.d_skip rfl rfl rfl rfl ?_ | refine K.d_skipU rfl rfl rfl rfl rfl ?_ | refine K.d_puG rfl rfl rfl (fun _ _ => X.mv) rfl ?_
              first | refine K.d_skip rfl rfl rfl rfl ?_ | refine K.d_skipU rfl rfl rfl rfl rfl ?_ | refine K.d_puG rfl rfl rfl (fun _ _ => X.ia) rfl ?_
              first | refine K.d_skip rfl rfl rfl rfl ?_ | refine K.d_skipU rfl rfl rfl rfl rfl ?_ | refine K.d_puG rfl rfl rfl (fun _ _ => X.fa) rfl ?_
              first | refine K.d_skip rfl rfl rfl rfl ?_ | refine K.d_skipU rfl rfl rfl rfl rfl ?_ | refine K.d_puG rfl rfl rfl (fun _ _ => X.mv) rfl ?_
              first | refine K.d_skip rfl rfl rfl rfl ?_ | refine K.d_skipU rfl rfl rfl rfl rfl ?_ | refine K.d_puG rfl rfl rfl (fun _ _ => X.mv) rfl ?_
              first | refine K.d_skip rfl rfl rfl rfl ?_ | refine K.d_skipU rfl rfl rfl rfl rfl ?_ | refine K.d_puG rfl rfl rfl (fun _ _ => X.bsub) rfl ?_
              first | refine K.d_skip rfl rfl rfl rfl ?_ | refine K.d_skipU rfl rfl rfl rfl rfl ?_ | refine K.d_puG rfl rfl rfl (fun _ _ => X.ia) rfl ?_
              first | refine K.d_skip rfl rfl rfl rfl ?_ | refine K.d_skipU rfl rfl rfl rfl rfl ?_ | refine K.d_puG rfl rfl rfl (fun _ _ => X.fa) rfl ?_
              first | refine K.d_skipS rfl rfl rfl rfl ?_ | refine K.d_skipUS rfl rfl rfl rfl rfl ?_ | refine K.d_stG rfl rfl rfl X.ld rfl ?_
              first | refine K.d_skipS rfl rfl rfl rfl ?_ | refine K.d_skipUS rfl rfl rfl rfl rfl ?_ | refine K.d_stG rfl rfl rfl X.ld rfl ?_
              first | refine K.d_skip rfl rfl rfl rfl ?_ | refine K.d_skipU rfl rfl rfl rfl rfl ?_ | refine K.d_puG rfl rfl rfl (fun _ _ => X.badd) rfl ?_
              first | refine K.d_skip rfl rfl rfl rfl ?_ | refine K.d_skipU rfl rfl rfl rfl rfl ?_ | refine K.d_puG rfl rfl rfl (fun _ _ => X.bleq) rfl ?_
              first | refine K.d_skip rfl rfl rfl rfl ?_ | refine K.d_skipU rfl rfl rfl rfl rfl ?_ | refine K.d_puG rfl rfl rfl (fun _ _ => X.pk) rfl ?_
              refine K.d_pu rfl (fun _ _ => X.pk) rfl ?_
              refine K.d_pu rfl (fun _ _ => X.mv) rfl ?_
              first | refine K.d_skip rfl rfl rfl rfl ?_ | refine K.d_skipU rfl rfl rfl rfl rfl ?_ | refine K.d_puG rfl rfl rfl (fun _ _ => X.mv) rfl ?_
              first | refine K.d_skip rfl rfl rfl rfl ?_ | refine K.d_skipU rfl rfl rfl rfl rfl ?_ | refine K.d_puG rfl rfl rfl (fun _ _ => X.beql) rfl ?_
              first | refine K.d_skip rfl rfl rfl rfl ?_ | refine K.d_skipU rfl rfl rfl rfl rfl ?_ | refine K.d_puG rfl rfl rfl (fun _ _ => X.mv) rfl ?_
              first | refine K.d_skip rfl rfl rfl rfl ?_ | refine K.d_skipU rfl rfl rfl rfl rfl ?_ | refine K.d_puG rfl rfl rfl (fun _ _ => X.mv) rfl ?_
              first | refine K.d_skip rfl rfl rfl rfl ?_ | refine K.d_skipU rfl rfl rfl rfl rfl ?_ | refine K.d_puG rfl rfl rfl (fun _ _ => X.ia) rfl ?_
              first | refine K.d_skip rfl rfl rfl rfl ?_ | refine K.d_skipU rfl rfl rfl rfl rfl ?_ | refine K.d_puG rfl rfl rfl (fun _ _ => X.fa) rfl ?_
              refine K.d_stG rfl rfl rfl (K.p_load (Fx.agg rfl) rfl (Cels.get (Cels.up hcx) 1 (.int .u64 q.lsn) rfl)) rfl ?_
              first | refine K.d_skip rfl rfl rfl rfl ?_ | refine K.d_skipU rfl rfl rfl rfl rfl ?_ | refine K.d_puG rfl rfl rfl (fun _ _ => X.blss) rfl ?_
              rw [decide_eq_true (show ((q.lsn : Nat) : Int) < 2 by omega)]
              first | refine K.d_skip rfl rfl rfl rfl ?_ | refine K.d_skipU rfl rfl rfl rfl rfl ?_ | refine K.d_puG rfl rfl rfl (fun _ _ => X.pk) rfl ?_
              refine K.d_pu rfl (fun _ _ => X.pk) rfl ?_
              refine K.d_nil ?_
              (repeat' (first | refine X.rq ?_ | (refine X.rc ?_ ?_ <;> intro hc <;> first | (exfalso; omega) | skip)))
              refine K.l_callV (Fx.cal rfl) rfl hal (K.pp [] rfl) rfl rfl ?_
              simp only [List.nil_append]
              (repeat' (first | refine X.rq ?_ | (refine X.rc ?_ ?_ <;> intro hc <;> first | (exfalso; omega) | skip)))
              refine K.done (by first | exact Or.inl rfl | exact Or.inr rfl) rfl (by first | exact K.Base.le.refl _ | assumption) (H' := []) rfl ⟨rfl, rfl⟩
            · (repeat' (first | refine X.rq ?_ | (refine X.rc ?_ ?_ <;> intro hc <;> first | (exfalso; omega) | skip)))
              refine X.draw ([]) [] (.pu 0 (.pu 1 (.pu 2 (.pu 3 (.pu 4 (.pu 5 (.pu 6 (.pu 7 (.pu 8 (.pu 9 (.pu 11 (.pu 12 (.pu 13 (.pu 14 (.pu 15 (.st 10 (.st 16 (.pu 17 (.pu 18 (.pu 19 (.pu 20 (.pu 21 (.pu 22 (.pu 23 (.pu 24 (.pu 25 (.pu 26 (.pu 27 (.st 28 (.pu 29 (.pu 30 (.pu 31 .nil)))))))))))))))))))))))))))))))) ?_ (hQ := by repeat (first | with_reducible refine K.NoPanic.then ?_ | with_reducible refine K.NoPanic.inBlock ?_ | with_reducible exact K.post_noPanic _ _ | exact K.post_noPanic _ _))
              refine K.d_pu rfl (fun _ _ => X.mv) rfl ?_
              refine K.d_pu rfl (fun _ _ => X.bneq) rfl ?_
              refine K.d_pu rfl (fun _ _ => X.mv) rfl ?_
              first | refine K.d_skip rfl rfl rfl rfl ?_ | refine K.d_skipU rfl rfl rfl rfl rfl ?_ | refine K.d_puG rfl rfl rfl (fun _ _ => X.mv) rfl ?_
              first | refine K.d_skip rfl rfl rfl rfl ?_ | refine K.d_skipU rfl rfl rfl rfl rfl ?_ | refine K.d_puG rfl rfl rfl (fun _ _ => X.bgtr) rfl ?_
              first | refine K.d_skip rfl rfl rfl rfl ?_ | refine K.d_skipU rfl rfl rfl rfl rfl ?_ | refine K.d_puG rfl rfl rfl (fun _ _ => X.mv) rfl ?_
              first | refine K.d_skip rfl rfl rfl rfl ?_ | refine K.d_skipU rfl rfl rfl rfl rfl ?_ | refine K.d_puG rfl rfl rfl (fun _ _ => X.mv) rfl ?_
              first | refine K.d_skip rfl rfl rfl rfl ?_ | refine K.d_skipU rfl rfl rfl rfl rfl ?_ | refine K.d_puG rfl rfl rfl (fun _ _ => X.mv) rfl ?_
              first | refine K.d_skip rfl rfl rfl rfl ?_ | refine K.d_skipU rfl rfl rfl rfl rfl ?_ | refine K.d_puG rfl rfl rfl (fun _ _ => X.ia) rfl ?_
              first | refine K.d_skip rfl rfl rfl rfl ?_ | refine K.d_skipU rfl rfl rfl rfl rfl ?_ | refine K.d_puG rfl rfl rfl (fun _ _ => X.fa) rfl ?_
              first | refine K.d_skip rfl rfl rfl rfl ?_ | refine K.d_skipU rfl rfl rfl rfl rfl ?_ | refine K.d_puG rfl rfl rfl (fun _ _ => X.mv) rfl ?_
              first | refine K.d_skip rfl rfl rfl rfl ?_ | refine K.d_skipU rfl rfl rfl rfl rfl ?_ | refine K.d_puG rfl rfl rfl (fun _ _ => X.mv) rfl ?_
              first | refine K.d_skip rfl rfl rfl rfl ?_ | refine K.d_skipU rfl rfl rfl rfl rfl ?_ | refine K.d_puG rfl rfl rfl (fun _ _ => X.bsub) rfl ?_
              first | refine K.d_skip rfl rfl rfl rfl ?_ | refine K.d_skipU rfl rfl rfl rfl rfl ?_ | refine K.d_puG rfl rfl rfl (fun _ _ => X.ia) rfl ?_
              first | refine K.d_skip rfl rfl rfl rfl ?_ | refine K.d_skipU rfl rfl rfl rfl rfl ?_ | refine K.d_puG rfl rfl rfl (fun _ _ => X.fa) rfl ?_
              first | refine K.d_skipS rfl rfl rfl rfl ?_ | refine K.d_skipUS rfl rfl rfl rfl rfl ?_ | refine K.d_stG rfl rfl rfl X.ld rfl ?_
              first | refine K.d_skipS rfl rfl rfl rfl ?_ | refine K.d_skipUS rfl rfl rfl rfl rfl ?_ | refine K.d_stG rfl rfl rfl X.ld rfl ?_
              first | refine K.d_skip rfl rfl rfl rfl ?_ | refine K.d_skipU rfl rfl rfl rfl rfl ?_ | refine K.d_puG rfl rfl rfl (fun _ _ => X.badd) rfl ?_
              first | refine K.d_skip rfl rfl rfl rfl ?_ | refine K.d_skipU rfl rfl rfl rfl rfl ?_ | refine K.d_puG rfl rfl rfl (fun _ _ => X.bleq) rfl ?_
              first | refine K.d_skip rfl rfl rfl rfl ?_ | refine K.d_skipU rfl rfl rfl rfl rfl ?_ | refine K.d_puG rfl rfl rfl (fun _ _ => X.pk) rfl ?_
              refine K.d_pu rfl (fun _ _ => X.pk) rfl ?_
              refine K.d_pu rfl (fun _ _ => X.mv) rfl ?_
              first | refine K.d_skip rfl rfl rfl rfl ?_ | refine K.d_skipU rfl rfl rfl rfl rfl ?_ | refine K.d_puG rfl rfl rfl (fun _ _ => X.mv) rfl ?_
              first | refine K.d_skip rfl rfl rfl rfl ?_ | refine K.d_skipU rfl rfl rfl rfl rfl ?_ | refine K.d_puG rfl rfl rfl (fun _ _ => X.beql) rfl ?_
              first | refine K.d_skip rfl rfl rfl rfl ?_ | refine K.d_skipU rfl rfl rfl rfl rfl ?_ | refine K.d_puG rfl rfl rfl (fun _ _ => X.mv) rfl ?_
              first | refine K.d_skip rfl rfl rfl rfl ?_ | refine K.d_skipU rfl rfl rfl rfl rfl ?_ | refine K.d_puG rfl rfl rfl (fun _ _ => X.mv) rfl ?_
              first | refine K.d_skip rfl rfl rfl rfl ?_ | refine K.d_skipU rfl rfl rfl rfl rfl ?_ | refine K.d_puG rfl rfl rfl (fun _ _ => X.ia) rfl ?_
              first | refine K.d_skip rfl rfl rfl rfl ?_ | refine K.d_skipU rfl rfl rfl rfl rfl ?_ | refine K.d_puG rfl rfl rfl (fun _ _ => X.fa) rfl ?_
              refine K.d_stG rfl rfl rfl (K.p_load (Fx.agg rfl) rfl (Cels.get (Cels.up hcx) 1 (.int .u64 q.lsn) rfl)) rfl ?_
              first | refine K.d_skip rfl rfl rfl rfl ?_ | refine K.d_skipU rfl rfl rfl rfl rfl ?_ | refine K.d_puG rfl rfl rfl (fun _ _ => X.blss) rfl ?_
              rw [decide_eq_false (show ¬ ((q.lsn : Nat) : Int) < 2 by omega)]
              first | refine K.d_skip rfl rfl rfl rfl ?_ | refine K.d_skipU rfl rfl rfl rfl rfl ?_ | refine K.d_puG rfl rfl rfl (fun _ _ => X.pk) rfl ?_
              refine K.d_pu rfl (fun _ _ => X.pk) rfl ?_
              refine K.d_nil ?_
              (repeat' (first | refine X.rq ?_ | (refine X.rc ?_ ?_ <;> intro hc <;> first | (exfalso; omega) | skip)))
              refine K.a_join hJ () ⟨fun _ q' hq => ?_, fun q' p' e => by omega⟩ (by repeat (first | exact K.Sub.nil _ | refine K.Sub.cons rfl ?_)) rfl rfl
              rw [hx1] at hq
              cases hq
              omega
        · rintro ⟨⟩ ⟨hg0, hg1⟩
          (repeat' (first | refine X.rs ?_ | (refine X.rd ?_ ?_ <;> intro hc <;> first | (exfalso; omega) | skip)))
          apply K.c_seq
          refine K.c_join (β := JoD) (fun q => [(0, .slice ao l.length ca), (7, .slice aL s.lives.length kL), (8, .slice aD s.dirty.length kD), (9, .int .u32 s.next), (11, .int .i64 n), (12, .slice aL2 sN.lives.length kL2), (13, .slice q.ao q.d.length q.k), (14, .int .u32 sN.next)]) (fun _ => h4) (fun _ => F) (fun q => SL h4 2 (.slice q.ao q.d.length q.k) (q.d.map cD) ∧ q.d.Sublist sN.dirty) (fun KJ hJ => ?_) ?_
          · cases fw with
            | false =>
              (repeat' (first | refine X.rq ?_ | (refine X.rc ?_ ?_ <;> intro hc <;> first | (exfalso; omega) | skip)))
              exact K.a_join hJ ⟨aD2, kD2, sN.dirty⟩ ⟨hD2, List.Sublist.refl _⟩ (by repeat (first | exact K.Sub.nil _ | refine K.Sub.cons rfl ?_)) rfl rfl
            | true =>
              by_cases hd0 : 0 < sN.dirty.length
              · (repeat' (first | refine X.rq ?_ | (refine X.rc ?_ ?_ <;> intro hc <;> first | (exfalso; omega) | skip)))
                refine K.s_pureE (K.p_sliceL (k2 := .i64) (p := 1) (q := sN.dirty.length) hD2 (Fx.und rfl) (Fx.sz rfl) rfl ⟨(1 : Int), rfl, rfl⟩ hzd2 hd0 (Nat.le_of_eq hzd2)) rfl ?_
                rintro v2 hs2
                have hs2 : SL h4 2 v2 ((sN.dirty.drop 1).map cD) := by
                  rw [List.take_of_length_le (Nat.le_of_eq hzd2.symm), ← List.map_drop] at hs2
                  exact hs2
                obtain ⟨a5, k5, rfl⟩ := hs2.len
                rw [List.length_map] at hs2 ⊢
                (repeat' (first | refine X.rq ?_ | (refine X.rc ?_ ?_ <;> intro hc <;> first | (exfalso; omega) | skip)))
                exact K.a_join hJ ⟨a5, k5, sN.dirty.drop 1⟩ ⟨hs2, List.drop_sublist 1 _⟩ (by repeat (first | exact K.Sub.nil _ | refine K.Sub.cons rfl ?_)) rfl rfl
              · (repeat' (first | refine X.rq ?_ | (refine X.rc ?_ ?_ <;> intro hc <;> first | (exfalso; omega) | skip)))
                exact K.a_join hJ ⟨aD2, kD2, sN.dirty⟩ ⟨hD2, List.Sublist.refl _⟩ (by repeat (first | exact K.Sub.nil _ | refine K.Sub.cons rfl ?_)) rfl rfl
          · rintro ⟨aD3, kD3, d⟩ ⟨hD3, hsub⟩
            dsimp only at hD3 hsub ⊢
            have hdl : d.length ≤ sN.dirty.length := hsub.length_le
            have hwd3 : ∀ x ∈ d, wfD x := fun x hx => hwd () x (hsub.subset hx)
            clear hD2 hzd2
            have hc1 : es[n]? = some (es[n]'(by omega)) := List.getElem?_eq_getElem (by omega)
            have hx1 : l[n]? = some (l[n]'hn) := List.getElem?_eq_getElem hn
            generalize es[n]'(by omega) = c at hc1
            generalize l[n]'hn = q at hx1
            obtain ⟨hw, ad, ai, al, ay, cd, ci, cl, cy, rfl, _⟩ := ((hr ()).2 n c q hc1 hx1).cells
            have hlsn := hw.lsn
            clear hw
            have hq2 : 1 ≤ q.lsn := by
              by_cases hn0 : 0 < n
              · have := hg1 q _ hn0 hx1 (List.getElem?_eq_getElem (by omega : n - 1 < l.length))
                omega
              · obtain rfl : n = 0 := by omega
                have := hg0 rfl q hx1
                omega
            have hck := hck () q (checkR (q.lsn - 1) sN.lives d sN.next) d hx1 hsub rfl (show q.lsn - 1 + 1 = q.lsn by omega) rfl rfl rfl
            have hck := fun hm => hck hm (fun e => by
              subst e
              have := hg0 rfl q hx1
              show 0 < q.lsn - 1
              omega) fun p hn0 hp => by
              have := hg1 q p hn0 hx1 hp
              show p.lsn < q.lsn - 1
              omega
            clear hg0 hg1
            obtain ⟨bb, oo, rfl, hcx⟩ := hv.at hc1
            have hcx := Cels.up (K := F) hcx
            have hrc := checkR_c (h := h4) (lsn := q.lsn - 1) (by omega) hwnN hL2 hD3 (hwl ()) hwd3 (by omega) (by omega)
            have hsmc : smallR (checkR (q.lsn - 1) sN.lives d sN.next) := ⟨Nat.zero_le _, (show sN.lives.length ≤ 17000 by omega), (show d.length ≤ 100000 by omega), Nat.zero_le _⟩
            have hma := RefMay h4 _ _ hrc hsmc
            (repeat' (first | refine X.rq ?_ | (refine X.rc ?_ ?_ <;> intro hc <;> first | (exfalso; omega) | skip)))
            refine K.s_pure (K.p_load (Fx.agg rfl) rfl (Cels.get hcx 1 (.int .u64 q.lsn) rfl)) rfl ?_
            (repeat' (first | refine X.rq ?_ | (refine X.rc ?_ ?_ <;> intro hc <;> first | (exfalso; omega) | skip)))
            rw [show ((q.lsn : Nat) : Int) - 1 = ((q.lsn - 1 : Nat) : Int) by omega]
            (repeat' (first | refine X.rq ?_ | (refine X.rc ?_ ?_ <;> intro hc <;> first | (exfalso; omega) | skip)))
            change K.WL _ _ _ _ _ ((117, .agg (cR (checkR (q.lsn - 1) sN.lives d sN.next) (.slice none 0 0) (.slice none 0 0) (.slice aL2 sN.lives.length kL2) (.slice aD3 d.length kD3)).toArray) :: _) _ _
            refine K.l_alloc (Fx.zr rfl) rfl rfl (fun B16 => ?_)
            refine X.stw ?_
            simp only [List.set_cons_zero, List.set_cons_succ, List.eraseIdx_cons_zero, List.eraseIdx_cons_succ, List.cons_append, List.nil_append]
            by_cases hm : mayR (checkR (q.lsn - 1) sN.lives d sN.next) = true
            · obtain ⟨d', e1, e2, e3⟩ := hck hm
              clear hck
              rw [hm] at hma
              have hs1 : ∀ KK, Src Tryz.prog h4 KK 15 (.slice (some ⟨bb, oo, none⟩) n ca) n (es.take n).flatten := fun KK => by
                have := (hv.take (q := n) (by omega)).src (P := Tryz.prog) (K := KK) (ones_R (Ch.RowsG.take (hr ()) n))
                rw [List.length_take, Nat.min_eq_left (by omega)] at this
                exact this
              have hrW : RowsG (RecC h4) (es.take n ++ cR (checkR (q.lsn - 1) sN.lives d sN.next) (.slice none 0 0) (.slice none 0 0) (.slice aL2 sN.lives.length kL2) (.slice aD3 d.length kD3) :: es.drop n) (l.take n ++ checkR (q.lsn - 1) sN.lives d sN.next :: l.drop n) :=
                RowsG.append (Ch.RowsG.take (hr ()) n) (RowsG.append (RowsG.push RowsG.nil hrc) (RowsG.drop (hr ()) n))
              (repeat' (first | refine X.rq ?_ | (refine X.rc ?_ ?_ <;> intro hc <;> first | (exfalso; omega) | skip)))
              refine K.l_callV (Fx.cal rfl) rfl hma (K.pp [] rfl) rfl rfl ?_
              simp only [List.nil_append]
              (repeat' (first | refine X.rq ?_ | (refine X.rc ?_ ?_ <;> intro hc <;> first | (exfalso; omega) | skip)))
              refine K.s_pure (K.p_sliceU (Fx.und rfl) (Fx.sz rfl) rfl rfl rfl (show n ≤ ca by omega)) rfl ?_
              refine K.WL.nilBuf 63 15 ?_
              refine K.l_append_at 0 rfl (Fx.und rfl) (Fx.und rfl) rfl (Fx.sz rfl) (Fx.zr rfl) rfl (Fx.byt rfl) rfl rfl (hs1 _) (by omega) (by omega) rfl (fun a5 c5 => ?_)
              simp only [List.set_cons_zero, List.set_cons_succ, List.eraseIdx_cons_zero, List.eraseIdx_cons_succ, List.cons_append, List.nil_append]
              rw [Nat.zero_add]
              (repeat' (first | refine X.rq ?_ | (refine X.rc ?_ ?_ <;> intro hc <;> first | (exfalso; omega) | skip)))
              refine K.l_buildSlice (Fx.und rfl) (Fx.sz rfl) rfl (Fx.zr rfl) rfl rfl rfl (cs := cR (checkR (q.lsn - 1) sN.lives d sN.next) (.slice none 0 0) (.slice none 0 0) (.slice aL2 sN.lives.length kL2) (.slice aD3 d.length kD3)) rfl rfl (fun B17 => ?_)
              refine K.l_append_at 1 rfl (Fx.und rfl) (Fx.und rfl) rfl (Fx.sz rfl) (Fx.zr rfl) rfl (Fx.byt rfl) rfl rfl (K.src_cells (K.cels_own (pre := []) (cs := cR (checkR (q.lsn - 1) sN.lives d sN.next) (.slice none 0 0) (.slice none 0 0) (.slice aL2 sN.lives.length kL2) (.slice aD3 d.length kD3)) (post := []) 0 rfl rfl) rfl (by simp [oneCell, cR])) (by omega) (by omega) rfl (fun a6 c6 => ?_)
              simp only [List.set_cons_zero, List.set_cons_succ, List.eraseIdx_cons_zero, List.eraseIdx_cons_succ, List.cons_append, List.nil_append]
              refine K.WL.drop ?_
              (repeat' (first | refine X.rq ?_ | (refine X.rc ?_ ?_ <;> intro hc <;> first | (exfalso; omega) | skip)))
              refine K.s_pureE (K.p_sliceL (k2 := .i64) (p := n) (q := l.length) hv (Fx.und rfl) (Fx.sz rfl) rfl ⟨(n : Int), rfl, rfl⟩ hel.symm (Nat.le_of_lt hn) (Nat.le_of_eq hel.symm)) rfl ?_
              rintro v3 hs3
              rw [List.take_of_length_le (Nat.le_of_eq hel)] at hs3
              have hs2 : ∀ KK, Src Tryz.prog h4 KK 15 v3 (l.length - n) (es.drop n).flatten := fun KK => by
                have := hs3.src (P := Tryz.prog) (K := KK) (ones_R (RowsG.drop (hr ()) n))
                rw [List.length_drop, hel] at this
                exact this
              refine K.l_append_at 0 rfl (Fx.und rfl) (Fx.und rfl) rfl (Fx.sz rfl) (Fx.zr rfl) rfl (Fx.byt rfl) rfl rfl (hs2 _) (by omega) (by omega) rfl (fun a7 c7 => ?_)
              simp only [List.set_cons_zero, List.set_cons_succ, List.eraseIdx_cons_zero, List.eraseIdx_cons_succ, List.cons_append, List.nil_append]
              rw [show (es.take n).flatten ++ cR (checkR (q.lsn - 1) sN.lives d sN.next) (.slice none 0 0) (.slice none 0 0) (.slice aL2 sN.lives.length kL2) (.slice aD3 d.length kD3) ++ (es.drop n).flatten = (es.take n ++ cR (checkR (q.lsn - 1) sN.lives d sN.next) (.slice none 0 0) (.slice none 0 0) (.slice aL2 sN.lives.length kL2) (.slice aD3 d.length kD3) :: es.drop n).flatten by
                rw [List.flatten_append, List.flatten_cons, List.append_assoc]]
              have hlen : n + 1 + (l.length - n) = (es.take n ++ cR (checkR (q.lsn - 1) sN.lives d sN.next) (.slice none 0 0) (.slice none 0 0) (.slice aL2 sN.lives.length kL2) (.slice aD3 d.length kD3) :: es.drop n).length := by
                rw [List.length_append, List.length_cons, List.length_take, List.length_drop]; omega
              refine K.WL.freezeRowN hlen (fifteens hrW) (fun h5 le5 hvW => ?_)
              generalize K.bufV a7 (n + 1 + (l.length - n)) c7 = vW at hvW ⊢
              have han := CAnalyse h5 vW _ _ (q.lsn - 1) hvW (RowsG.mono (fun c x hc => hc.le le5) hrW) (by rw [List.length_append, List.length_cons, List.length_take, List.length_drop]; omega) (fun r hm => by
                rcases List.mem_append.1 hm with hm | hm
                · exact hsm r (List.mem_of_mem_take hm)
                · rcases List.mem_cons.1 hm with rfl | hm
                  · exact hsmc
                  · exact hsm r (List.mem_of_mem_drop hm)) (by omega)
              have hL := hL.le le5
              have hD := hD.le le5
              clear hs1 hs2 hs3 hrW hvW hlen hrc hma
              (repeat' (first | refine X.rq ?_ | (refine X.rc ?_ ?_ <;> intro hc <;> first | (exfalso; omega) | skip)))
              skip
              refine K.l_call (Fx.cal rfl) rfl han (K.pp [] rfl) rfl ?_
              rintro u h' H' - ⟨e, hor⟩
              obtain rfl := e
              have e1 : analyseQ (l.take n ++ checkR (q.lsn - 1) sN.lives d sN.next :: l.drop n) (q.lsn - 1) = some { s with dirty := d' } := e1
              rcases hor with ⟨hno, _⟩ | ⟨s', m5, c5, m6, c6, a8, k8, a9, k9, hs', hrel, rfl, rfl⟩
              · rw [e1] at hno; cases hno
              rw [e1] at hs'
              obtain rfl := Option.some.inj hs'
              clear hrel hs' han e1
              have hzd' : d'.length = (d'.map cD).length := (List.length_map ..).symm
              dsimp only
              simp only [List.nil_append, List.cons_append]
              refine K.WL.freezeRowN hzd' (two_D d') (fun h6 le6 hB => ?_)
              refine K.WL.freezeRowN hzl (four_L s.lives) (fun h7 le7 hA => ?_)
              refine K.WL.drop ?_
              have hB := hB.le le7
              have le67 := le6.trans le7
              have le07 := le04.trans (le5.trans le67)
              generalize K.bufV a8 s.lives.length k8 = vA at hA ⊢
              generalize K.bufV a9 d'.length k9 = vB at hB ⊢
              obtain ⟨aA, kA, rfl⟩ := hA.len
              obtain ⟨aB, kB, rfl⟩ := hB.len
              rw [← hzl] at hA ⊢
              rw [← hzd'] at hB ⊢
              have hL := hL.le le67
              have hD := hD.le le67
              (repeat' (first | refine X.rq ?_ | (refine X.rc ?_ ?_ <;> intro hc <;> first | (exfalso; omega) | skip)))
              clear hck hrise hr hwl hwd hal hsm hcx hc1 hx1 hsub hwd3 hsmc hm e1 hmod hel ht hzl2 hta
              have keep := fun (_ : Unit) => (⟨hrll, hrdl, e2⟩ : _ ∧ _ ∧ _)
              repeat (rename ¬ _ => z; clear z)
              repeat (rename (_ : Nat) ≤ _ => z; clear z)
              repeat (rename (_ : Nat) < _ => z; clear z)
              obtain ⟨hrll, hrdl, e2⟩ := keep ()
              clear keep
              refine K.c_loop (σ := Nat) (fun j => [(7, .slice aL s.lives.length kL), (8, .slice aD s.dirty.length kD), (18, .slice aA s.lives.length kA), (19, .slice aB d'.length kB), (22, .int .i64 j)]) (fun _ => h7) (fun _ => F) (fun j => j ≤ s.lives.length) (fun j => s.lives.length - j) 0 (Nat.zero_le _) (by repeat (first | exact K.Sub.nil _ | refine K.Sub.cons rfl ?_)) rfl rfl ?_
              rintro j hj KL hKL
              by_cases hjl : j < s.lives.length
              · have hx1 : s.lives[j]? = some (s.lives[j]'hjl) := List.getElem?_eq_getElem hjl
                have hc0 : (s.lives.map cL)[j]? = some (cL (s.lives[j]'hjl)) := by rw [List.getElem?_map, hx1]; rfl
                generalize s.lives[j]'hjl = x at hx1 hc0
                obtain ⟨b1, o1, rfl, hcx1⟩ := hA.at hc0
                obtain ⟨b2, o2, rfl, hcx2⟩ := hL.at hc0
                (repeat' (first | refine X.rq ?_ | (refine X.rc ?_ ?_ <;> intro hc <;> first | (exfalso; omega) | skip)))
                refine X.draw ([]) [] (.pu 0 (.pu 1 (.pu 2 (.pu 4 (.pu 5 (.pu 6 (.st 3 (.st 7 (.pu 8 .nil))))))))) ?_ (hQ := by repeat (first | with_reducible refine K.NoPanic.then ?_ | with_reducible refine K.NoPanic.inBlock ?_ | with_reducible exact K.post_noPanic _ _ | exact K.post_noPanic _ _))
                refine K.d_pu rfl (fun _ _ => X.mv) rfl ?_
                refine K.d_pu rfl (fun _ _ => X.mv) rfl ?_
                refine K.d_pu rfl (fun _ _ => X.ia) rfl ?_
                refine K.d_pu rfl (fun _ _ => X.mv) rfl ?_
                refine K.d_pu rfl (fun _ _ => X.mv) rfl ?_
                refine K.d_pu rfl (fun _ _ => X.ia) rfl ?_
                refine K.d_st rfl (K.p_loadM (Fx.agg rfl) rfl (Cels.up hcx1) (Fx.sz rfl) rfl) rfl ?_
                refine K.d_st rfl (K.p_loadM (Fx.agg rfl) rfl (Cels.up hcx2) (Fx.sz rfl) rfl) rfl ?_
                refine K.d_pu rfl (fun _ _ => X.bneq) rfl ?_
                refine K.d_nil ?_
                simp only [decide_true, Bool.and_true, Bool.and_self, Bool.not_true, beq_self_eq_true]
                (repeat' (first | refine X.rq ?_ | (refine X.rc ?_ ?_ <;> intro hc <;> first | (exfalso; omega) | skip)))
                refine K.a_round hKL (j + 1) (by omega) (by repeat (first | exact K.Sub.nil _ | refine K.Sub.cons rfl ?_)) rfl rfl (by omega)
              · obtain rfl : j = s.lives.length := by omega
                have hal := Alive h7
                (repeat' (first | refine X.rq ?_ | (refine X.rc ?_ ?_ <;> intro hc <;> first | (exfalso; omega) | skip)))
                refine K.c_loop (σ := Nat) (fun j => [(8, .slice aD s.dirty.length kD), (19, .slice aB d'.length kB), (23, .int .i64 j)]) (fun _ => h7) (fun _ => F) (fun j => j ≤ d'.length) (fun j => d'.length - j) 0 (Nat.zero_le _) (by repeat (first | exact K.Sub.nil _ | refine K.Sub.cons rfl ?_)) rfl rfl ?_
                rintro j hj KM hKM
                by_cases hjl : j < d'.length
                · have hx1 : d'[j]? = some (d'[j]'hjl) := List.getElem?_eq_getElem hjl
                  have hc0 : (d'.map cD)[j]? = some (cD (d'[j]'hjl)) := by rw [List.getElem?_map, hx1]; rfl
                  have hex := e3 _ (List.getElem_mem hjl)
                  generalize d'[j]'hjl = z at hx1 hc0 hex
                  obtain ⟨b1, o1, rfl, hcz⟩ := hB.at hc0
                  (repeat' (first | refine X.rq ?_ | (refine X.rc ?_ ?_ <;> intro hc <;> first | (exfalso; omega) | skip)))
                  refine K.c_loop (σ := Nat × Bool) (fun q => [(8, .slice aD s.dirty.length kD), (19, .slice (some ⟨b1, o1, none⟩) d'.length kB), (23, .int .i64 j), (24, .bool q.2), (25, .int .i64 q.1)]) (fun _ => h7) (fun _ => F)
                    (fun q => q.1 ≤ s.dirty.length ∧ ∀ (i : Nat) y, i < q.1 → s.dirty[i]? = some y → y.page = z.page → y.frm ≤ z.frm → q.2 = true) (fun q => s.dirty.length - q.1) (0, false) ⟨Nat.zero_le _, fun i y hi => absurd hi (Nat.not_lt_zero _)⟩ (by repeat (first | exact K.Sub.nil _ | refine K.Sub.cons rfl ?_)) rfl rfl ?_
                  rintro ⟨k, th⟩ ⟨hk, hth⟩ KN hKN
                  dsimp only at hk hth ⊢
                  by_cases hkl : k < s.dirty.length
                  · have hy1 : s.dirty[k]? = some (s.dirty[k]'hkl) := List.getElem?_eq_getElem hkl
                    have hc2 : (s.dirty.map cD)[k]? = some (cD (s.dirty[k]'hkl)) := by rw [List.getElem?_map, hy1]; rfl
                    generalize s.dirty[k]'hkl = y at hy1 hc2
                    obtain ⟨b2, o2, rfl, hcy⟩ := hD.at hc2
                    have hstep : ∀ th' : Bool, (th = true → th' = true) → (y.page = z.page → y.frm ≤ z.frm → th' = true) → ∀ (i : Nat) w, i < k + 1 → s.dirty[i]? = some w → w.page = z.page → w.frm ≤ z.frm → th' = true := fun th' g1 g2 i w hi hw p1 p2 => by
                      by_cases hik : i = k
                      · subst hik
                        rw [hy1] at hw
                        obtain rfl := Option.some.inj hw
                        exact g2 p1 p2
                      · exact g1 (hth i w (by omega) hw p1 p2)
                    clear hth
                    have hstep := fun (_ : Unit) => hstep
                    cases th with
                    | true =>
                      (repeat' (first | refine X.rq ?_ | (refine X.rc ?_ ?_ <;> intro hc <;> first | (exfalso; omega) | skip)))
                      refine X.draw ([]) [] (.pu 0 (.pu 1 (.pu 2 (.pu 3 (.pu 4 (.pu 5 (.pu 7 (.pu 8 (.pu 9 (.pu 10 (.st 6 (.st 11 (.pu 12 (.pu 13 (.pu 14 (.pu 15 (.pu 16 (.pu 17 (.pu 19 (.pu 20 (.pu 21 (.pu 22 (.st 18 (.st 23 (.pu 24 (.pu 25 (.pu 26 (.pu 27 .nil)))))))))))))))))))))))))))) ?_ (hQ := by repeat (first | with_reducible refine K.NoPanic.then ?_ | with_reducible refine K.NoPanic.inBlock ?_ | with_reducible exact K.post_noPanic _ _ | exact K.post_noPanic _ _))
                      refine K.d_pu rfl (fun _ _ => X.mv) rfl ?_
                      refine K.d_pu rfl (fun _ _ => X.mv) rfl ?_
                      first | refine K.d_skip rfl rfl rfl rfl ?_ | refine K.d_skipU rfl rfl rfl rfl rfl ?_ | refine K.d_puG rfl rfl rfl (fun _ _ => X.mv) rfl ?_
                      first | refine K.d_skip rfl rfl rfl rfl ?_ | refine K.d_skipU rfl rfl rfl rfl rfl ?_ | refine K.d_puG rfl rfl rfl (fun _ _ => X.mv) rfl ?_
                      first | refine K.d_skip rfl rfl rfl rfl ?_ | refine K.d_skipU rfl rfl rfl rfl rfl ?_ | refine K.d_puG rfl rfl rfl (fun _ _ => X.ia) rfl ?_
                      first | refine K.d_skip rfl rfl rfl rfl ?_ | refine K.d_skipU rfl rfl rfl rfl rfl ?_ | refine K.d_puG rfl rfl rfl (fun _ _ => X.fa) rfl ?_
                      first | refine K.d_skip rfl rfl rfl rfl ?_ | refine K.d_skipU rfl rfl rfl rfl rfl ?_ | refine K.d_puG rfl rfl rfl (fun _ _ => X.mv) rfl ?_
                      first | refine K.d_skip rfl rfl rfl rfl ?_ | refine K.d_skipU rfl rfl rfl rfl rfl ?_ | refine K.d_puG rfl rfl rfl (fun _ _ => X.mv) rfl ?_
                      first | refine K.d_skip rfl rfl rfl rfl ?_ | refine K.d_skipU rfl rfl rfl rfl rfl ?_ | refine K.d_puG rfl rfl rfl (fun _ _ => X.ia) rfl ?_
                      first | refine K.d_skip rfl rfl rfl rfl ?_ | refine K.d_skipU rfl rfl rfl rfl rfl ?_ | refine K.d_puG rfl rfl rfl (fun _ _ => X.fa) rfl ?_
                      first | refine K.d_skipS rfl rfl rfl rfl ?_ | refine K.d_skipUS rfl rfl rfl rfl rfl ?_ | refine K.d_stG rfl rfl rfl X.ld rfl ?_
                      first | refine K.d_skipS rfl rfl rfl rfl ?_ | refine K.d_skipUS rfl rfl rfl rfl rfl ?_ | refine K.d_stG rfl rfl rfl X.ld rfl ?_
                      first | refine K.d_skip rfl rfl rfl rfl ?_ | refine K.d_skipU rfl rfl rfl rfl rfl ?_ | refine K.d_puG rfl rfl rfl (fun _ _ => X.beql) rfl ?_
                      first | refine K.d_skip rfl rfl rfl rfl ?_ | refine K.d_skipU rfl rfl rfl rfl rfl ?_ | refine K.d_puG rfl rfl rfl (fun _ _ => X.mv) rfl ?_
                      first | refine K.d_skip rfl rfl rfl rfl ?_ | refine K.d_skipU rfl rfl rfl rfl rfl ?_ | refine K.d_puG rfl rfl rfl (fun _ _ => X.mv) rfl ?_
                      first | refine K.d_skip rfl rfl rfl rfl ?_ | refine K.d_skipU rfl rfl rfl rfl rfl ?_ | refine K.d_puG rfl rfl rfl (fun _ _ => X.mv) rfl ?_
                      first | refine K.d_skip rfl rfl rfl rfl ?_ | refine K.d_skipU rfl rfl rfl rfl rfl ?_ | refine K.d_puG rfl rfl rfl (fun _ _ => X.ia) rfl ?_
                      first | refine K.d_skip rfl rfl rfl rfl ?_ | refine K.d_skipU rfl rfl rfl rfl rfl ?_ | refine K.d_puG rfl rfl rfl (fun _ _ => X.fa) rfl ?_
                      first | refine K.d_skip rfl rfl rfl rfl ?_ | refine K.d_skipU rfl rfl rfl rfl rfl ?_ | refine K.d_puG rfl rfl rfl (fun _ _ => X.mv) rfl ?_
                      first | refine K.d_skip rfl rfl rfl rfl ?_ | refine K.d_skipU rfl rfl rfl rfl rfl ?_ | refine K.d_puG rfl rfl rfl (fun _ _ => X.mv) rfl ?_
                      first | refine K.d_skip rfl rfl rfl rfl ?_ | refine K.d_skipU rfl rfl rfl rfl rfl ?_ | refine K.d_puG rfl rfl rfl (fun _ _ => X.ia) rfl ?_
                      first | refine K.d_skip rfl rfl rfl rfl ?_ | refine K.d_skipU rfl rfl rfl rfl rfl ?_ | refine K.d_puG rfl rfl rfl (fun _ _ => X.fa) rfl ?_
                      first | refine K.d_skipS rfl rfl rfl rfl ?_ | refine K.d_skipUS rfl rfl rfl rfl rfl ?_ | refine K.d_stG rfl rfl rfl X.ld rfl ?_
                      first | refine K.d_skipS rfl rfl rfl rfl ?_ | refine K.d_skipUS rfl rfl rfl rfl rfl ?_ | refine K.d_stG rfl rfl rfl X.ld rfl ?_
                      first | refine K.d_skip rfl rfl rfl rfl ?_ | refine K.d_skipU rfl rfl rfl rfl rfl ?_ | refine K.d_puG rfl rfl rfl (fun _ _ => X.bleq) rfl ?_
                      first | refine K.d_skip rfl rfl rfl rfl ?_ | refine K.d_skipU rfl rfl rfl rfl rfl ?_ | refine K.d_puG rfl rfl rfl (fun _ _ => X.pk) rfl ?_
                      refine K.d_pu rfl (fun _ _ => X.pk) rfl ?_
                      refine K.d_pu rfl (fun _ _ => X.sg) rfl ?_
                      refine K.d_nil ?_
                      (repeat' (first | refine X.rq ?_ | (refine X.rc ?_ ?_ <;> intro hc <;> first | (exfalso; omega) | skip)))
                      refine K.a_round hKN (k + 1, true) ⟨by dsimp only; omega, hstep () true (fun _ => rfl) (fun _ _ => rfl)⟩ (by repeat (first | exact K.Sub.nil _ | refine K.Sub.cons rfl ?_)) rfl rfl (by dsimp only; omega)
                    | false =>
                      by_cases hpg : y.page = z.page
                      · (repeat' (first | refine X.rq ?_ | (refine X.rc ?_ ?_ <;> intro hc <;> first | (exfalso; omega) | skip)))
                        refine X.draw ([]) [] (.pu 0 (.pu 1 (.pu 2 (.pu 3 (.pu 4 (.pu 5 (.pu 7 (.pu 8 (.pu 9 (.pu 10 (.st 6 (.st 11 (.pu 12 (.pu 13 (.pu 14 (.pu 15 (.pu 16 (.pu 17 (.pu 19 (.pu 20 (.pu 21 (.pu 22 (.st 18 (.st 23 (.pu 24 (.pu 25 (.pu 26 (.pu 27 .nil)))))))))))))))))))))))))))) ?_ (hQ := by repeat (first | with_reducible refine K.NoPanic.then ?_ | with_reducible refine K.NoPanic.inBlock ?_ | with_reducible exact K.post_noPanic _ _ | exact K.post_noPanic _ _))
                        refine K.d_pu rfl (fun _ _ => X.mv) rfl ?_
                        refine K.d_pu rfl (fun _ _ => X.mv) rfl ?_
                        first | refine K.d_skip rfl rfl rfl rfl ?_ | refine K.d_skipU rfl rfl rfl rfl rfl ?_ | refine K.d_puG rfl rfl rfl (fun _ _ => X.mv) rfl ?_
                        first | refine K.d_skip rfl rfl rfl rfl ?_ | refine K.d_skipU rfl rfl rfl rfl rfl ?_ | refine K.d_puG rfl rfl rfl (fun _ _ => X.mv) rfl ?_
                        first | refine K.d_skip rfl rfl rfl rfl ?_ | refine K.d_skipU rfl rfl rfl rfl rfl ?_ | refine K.d_puG rfl rfl rfl (fun _ _ => X.ia) rfl ?_
                        first | refine K.d_skip rfl rfl rfl rfl ?_ | refine K.d_skipU rfl rfl rfl rfl rfl ?_ | refine K.d_puG rfl rfl rfl (fun _ _ => X.fa) rfl ?_
                        first | refine K.d_skip rfl rfl rfl rfl ?_ | refine K.d_skipU rfl rfl rfl rfl rfl ?_ | refine K.d_puG rfl rfl rfl (fun _ _ => X.mv) rfl ?_
                        first | refine K.d_skip rfl rfl rfl rfl ?_ | refine K.d_skipU rfl rfl rfl rfl rfl ?_ | refine K.d_puG rfl rfl rfl (fun _ _ => X.mv) rfl ?_
                        first | refine K.d_skip rfl rfl rfl rfl ?_ | refine K.d_skipU rfl rfl rfl rfl rfl ?_ | refine K.d_puG rfl rfl rfl (fun _ _ => X.ia) rfl ?_
                        first | refine K.d_skip rfl rfl rfl rfl ?_ | refine K.d_skipU rfl rfl rfl rfl rfl ?_ | refine K.d_puG rfl rfl rfl (fun _ _ => X.fa) rfl ?_
                        refine K.d_stG rfl rfl rfl (K.p_load (Fx.agg rfl) rfl (Cels.get (Cels.up hcy) 0 (.int .u32 y.page) rfl)) rfl ?_
                        refine K.d_stG rfl rfl rfl (K.p_load (Fx.agg rfl) rfl (Cels.get (Cels.up hcz) 0 (.int .u32 z.page) rfl)) rfl ?_
                        first | refine K.d_skip rfl rfl rfl rfl ?_ | refine K.d_skipU rfl rfl rfl rfl rfl ?_ | refine K.d_puG rfl rfl rfl (fun _ _ => X.beql) rfl ?_
                        rw [decide_eq_true (show ((y.page : Nat) : Int) = ((z.page : Nat) : Int) by omega)]
                        first | refine K.d_skip rfl rfl rfl rfl ?_ | refine K.d_skipU rfl rfl rfl rfl rfl ?_ | refine K.d_puG rfl rfl rfl (fun _ _ => X.mv) rfl ?_
                        first | refine K.d_skip rfl rfl rfl rfl ?_ | refine K.d_skipU rfl rfl rfl rfl rfl ?_ | refine K.d_puG rfl rfl rfl (fun _ _ => X.mv) rfl ?_
                        first | refine K.d_skip rfl rfl rfl rfl ?_ | refine K.d_skipU rfl rfl rfl rfl rfl ?_ | refine K.d_puG rfl rfl rfl (fun _ _ => X.mv) rfl ?_
                        first | refine K.d_skip rfl rfl rfl rfl ?_ | refine K.d_skipU rfl rfl rfl rfl rfl ?_ | refine K.d_puG rfl rfl rfl (fun _ _ => X.ia) rfl ?_
                        first | refine K.d_skip rfl rfl rfl rfl ?_ | refine K.d_skipU rfl rfl rfl rfl rfl ?_ | refine K.d_puG rfl rfl rfl (fun _ _ => X.fa) rfl ?_
                        first | refine K.d_skip rfl rfl rfl rfl ?_ | refine K.d_skipU rfl rfl rfl rfl rfl ?_ | refine K.d_puG rfl rfl rfl (fun _ _ => X.mv) rfl ?_
                        first | refine K.d_skip rfl rfl rfl rfl ?_ | refine K.d_skipU rfl rfl rfl rfl rfl ?_ | refine K.d_puG rfl rfl rfl (fun _ _ => X.mv) rfl ?_
                        first | refine K.d_skip rfl rfl rfl rfl ?_ | refine K.d_skipU rfl rfl rfl rfl rfl ?_ | refine K.d_puG rfl rfl rfl (fun _ _ => X.ia) rfl ?_
                        first | refine K.d_skip rfl rfl rfl rfl ?_ | refine K.d_skipU rfl rfl rfl rfl rfl ?_ | refine K.d_puG rfl rfl rfl (fun _ _ => X.fa) rfl ?_
                        refine K.d_stG rfl rfl rfl (K.p_load (Fx.agg rfl) rfl (Cels.get (Cels.up hcy) 1 (.int .u64 y.frm) rfl)) rfl ?_
                        refine K.d_stG rfl rfl rfl (K.p_load (Fx.agg rfl) rfl (Cels.get (Cels.up hcz) 1 (.int .u64 z.frm) rfl)) rfl ?_
                        first | refine K.d_skip rfl rfl rfl rfl ?_ | refine K.d_skipU rfl rfl rfl rfl rfl ?_ | refine K.d_puG rfl rfl rfl (fun _ _ => X.bleq) rfl ?_
                        first | refine K.d_skip rfl rfl rfl rfl ?_ | refine K.d_skipU rfl rfl rfl rfl rfl ?_ | refine K.d_puG rfl rfl rfl (fun _ _ => X.pk) rfl ?_
                        refine K.d_pu rfl (fun _ _ => X.pk) rfl ?_
                        refine K.d_pu rfl (fun _ _ => X.sg) rfl ?_
                        refine K.d_nil ?_
                        (repeat' (first | refine X.rq ?_ | (refine X.rc ?_ ?_ <;> intro hc <;> first | (exfalso; omega) | skip)))
                        refine K.a_round hKN (k + 1, decide ((y.frm : Int) ≤ z.frm)) ⟨by dsimp only; omega, hstep () _ (fun e => by cases e) (fun _ p2 => decide_eq_true (by omega))⟩ (by repeat (first | exact K.Sub.nil _ | refine K.Sub.cons rfl ?_)) rfl rfl (by dsimp only; omega)
                      · (repeat' (first | refine X.rq ?_ | (refine X.rc ?_ ?_ <;> intro hc <;> first | (exfalso; omega) | skip)))
                        refine X.draw ([]) [] (.pu 0 (.pu 1 (.pu 2 (.pu 3 (.pu 4 (.pu 5 (.pu 7 (.pu 8 (.pu 9 (.pu 10 (.st 6 (.st 11 (.pu 12 (.pu 13 (.pu 14 (.pu 15 (.pu 16 (.pu 17 (.pu 19 (.pu 20 (.pu 21 (.pu 22 (.st 18 (.st 23 (.pu 24 (.pu 25 (.pu 26 (.pu 27 .nil)))))))))))))))))))))))))))) ?_ (hQ := by repeat (first | with_reducible refine K.NoPanic.then ?_ | with_reducible refine K.NoPanic.inBlock ?_ | with_reducible exact K.post_noPanic _ _ | exact K.post_noPanic _ _))
                        refine K.d_pu rfl (fun _ _ => X.mv) rfl ?_
                        refine K.d_pu rfl (fun _ _ => X.mv) rfl ?_
                        first | refine K.d_skip rfl rfl rfl rfl ?_ | refine K.d_skipU rfl rfl rfl rfl rfl ?_ | refine K.d_puG rfl rfl rfl (fun _ _ => X.mv) rfl ?_
                        first | refine K.d_skip rfl rfl rfl rfl ?_ | refine K.d_skipU rfl rfl rfl rfl rfl ?_ | refine K.d_puG rfl rfl rfl (fun _ _ => X.mv) rfl ?_
                        first | refine K.d_skip rfl rfl rfl rfl ?_ | refine K.d_skipU rfl rfl rfl rfl rfl ?_ | refine K.d_puG rfl rfl rfl (fun _ _ => X.ia) rfl ?_
                        first | refine K.d_skip rfl rfl rfl rfl ?_ | refine K.d_skipU rfl rfl rfl rfl rfl ?_ | refine K.d_puG rfl rfl rfl (fun _ _ => X.fa) rfl ?_
                        first | refine K.d_skip rfl rfl rfl rfl ?_ | refine K.d_skipU rfl rfl rfl rfl rfl ?_ | refine K.d_puG rfl rfl rfl (fun _ _ => X.mv) rfl ?_
                        first | refine K.d_skip rfl rfl rfl rfl ?_ | refine K.d_skipU rfl rfl rfl rfl rfl ?_ | refine K.d_puG rfl rfl rfl (fun _ _ => X.mv) rfl ?_
                        first | refine K.d_skip rfl rfl rfl rfl ?_ | refine K.d_skipU rfl rfl rfl rfl rfl ?_ | refine K.d_puG rfl rfl rfl (fun _ _ => X.ia) rfl ?_
                        first | refine K.d_skip rfl rfl rfl rfl ?_ | refine K.d_skipU rfl rfl rfl rfl rfl ?_ | refine K.d_puG rfl rfl rfl (fun _ _ => X.fa) rfl ?_
                        refine K.d_stG rfl rfl rfl (K.p_load (Fx.agg rfl) rfl (Cels.get (Cels.up hcy) 0 (.int .u32 y.page) rfl)) rfl ?_
                        refine K.d_stG rfl rfl rfl (K.p_load (Fx.agg rfl) rfl (Cels.get (Cels.up hcz) 0 (.int .u32 z.page) rfl)) rfl ?_
                        first | refine K.d_skip rfl rfl rfl rfl ?_ | refine K.d_skipU rfl rfl rfl rfl rfl ?_ | refine K.d_puG rfl rfl rfl (fun _ _ => X.beql) rfl ?_
                        rw [decide_eq_false (show ¬ ((y.page : Nat) : Int) = ((z.page : Nat) : Int) by omega)]
                        first | refine K.d_skip rfl rfl rfl rfl ?_ | refine K.d_skipU rfl rfl rfl rfl rfl ?_ | refine K.d_puG rfl rfl rfl (fun _ _ => X.mv) rfl ?_
                        first | refine K.d_skip rfl rfl rfl rfl ?_ | refine K.d_skipU rfl rfl rfl rfl rfl ?_ | refine K.d_puG rfl rfl rfl (fun _ _ => X.mv) rfl ?_
                        first | refine K.d_skip rfl rfl rfl rfl ?_ | refine K.d_skipU rfl rfl rfl rfl rfl ?_ | refine K.d_puG rfl rfl rfl (fun _ _ => X.mv) rfl ?_
                        first | refine K.d_skip rfl rfl rfl rfl ?_ | refine K.d_skipU rfl rfl rfl rfl rfl ?_ | refine K.d_puG rfl rfl rfl (fun _ _ => X.ia) rfl ?_
                        first | refine K.d_skip rfl rfl rfl rfl ?_ | refine K.d_skipU rfl rfl rfl rfl rfl ?_ | refine K.d_puG rfl rfl rfl (fun _ _ => X.fa) rfl ?_
                        first | refine K.d_skip rfl rfl rfl rfl ?_ | refine K.d_skipU rfl rfl rfl rfl rfl ?_ | refine K.d_puG rfl rfl rfl (fun _ _ => X.mv) rfl ?_
                        first | refine K.d_skip rfl rfl rfl rfl ?_ | refine K.d_skipU rfl rfl rfl rfl rfl ?_ | refine K.d_puG rfl rfl rfl (fun _ _ => X.mv) rfl ?_
                        first | refine K.d_skip rfl rfl rfl rfl ?_ | refine K.d_skipU rfl rfl rfl rfl rfl ?_ | refine K.d_puG rfl rfl rfl (fun _ _ => X.ia) rfl ?_
                        first | refine K.d_skip rfl rfl rfl rfl ?_ | refine K.d_skipU rfl rfl rfl rfl rfl ?_ | refine K.d_puG rfl rfl rfl (fun _ _ => X.fa) rfl ?_
                        first | refine K.d_skipS rfl rfl rfl rfl ?_ | refine K.d_skipUS rfl rfl rfl rfl rfl ?_ | refine K.d_stG rfl rfl rfl X.ld rfl ?_
                        first | refine K.d_skipS rfl rfl rfl rfl ?_ | refine K.d_skipUS rfl rfl rfl rfl rfl ?_ | refine K.d_stG rfl rfl rfl X.ld rfl ?_
                        first | refine K.d_skip rfl rfl rfl rfl ?_ | refine K.d_skipU rfl rfl rfl rfl rfl ?_ | refine K.d_puG rfl rfl rfl (fun _ _ => X.bleq) rfl ?_
                        first | refine K.d_skip rfl rfl rfl rfl ?_ | refine K.d_skipU rfl rfl rfl rfl rfl ?_ | refine K.d_puG rfl rfl rfl (fun _ _ => X.pk) rfl ?_
                        refine K.d_pu rfl (fun _ _ => X.pk) rfl ?_
                        refine K.d_pu rfl (fun _ _ => X.sg) rfl ?_
                        refine K.d_nil ?_
                        (repeat' (first | refine X.rq ?_ | (refine X.rc ?_ ?_ <;> intro hc <;> first | (exfalso; omega) | skip)))
                        refine K.a_round hKN (k + 1, false) ⟨by dsimp only; omega, hstep () _ (fun e => e) (fun p1 _ => absurd p1 hpg)⟩ (by repeat (first | exact K.Sub.nil _ | refine K.Sub.cons rfl ?_)) rfl rfl (by dsimp only; omega)
                  · obtain rfl : k = s.dirty.length := by omega
                    obtain rfl : th = true := by
                      obtain ⟨y, hy, p1, p2⟩ := hex
                      obtain ⟨i, hi⟩ := List.mem_iff_getElem?.1 hy
                      exact hth i y (List.getElem?_eq_some_iff.1 hi).1 hi p1 p2
                    clear hth
                    (repeat' (first | refine X.rq ?_ | (refine X.rc ?_ ?_ <;> intro hc <;> first | (exfalso; omega) | skip)))
                    refine K.a_round hKM (j + 1) (by omega) (by repeat (first | exact K.Sub.nil _ | refine K.Sub.cons rfl ?_)) rfl rfl (by omega)
                · obtain rfl : j = d'.length := by omega
                  (repeat' (first | refine X.rq ?_ | (refine X.rc ?_ ?_ <;> intro hc <;> first | (exfalso; omega) | skip)))
                  refine K.l_callV (Fx.cal rfl) rfl hal (K.pp [] rfl) rfl rfl ?_
                  simp only [List.nil_append]
                  (repeat' (first | refine X.rq ?_ | (refine X.rc ?_ ?_ <;> intro hc <;> first | (exfalso; omega) | skip)))
                  refine K.done (by first | exact Or.inl rfl | exact Or.inr rfl) rfl (by first | exact K.Base.le.refl _ | assumption) (H' := []) rfl ⟨rfl, rfl⟩
            · rw [Bool.not_eq_true] at hm
              rw [hm] at hma
              clear hck
              (repeat' (first | refine X.rq ?_ | (refine X.rc ?_ ?_ <;> intro hc <;> first | (exfalso; omega) | skip)))
              refine K.l_callV (Fx.cal rfl) rfl hma (K.pp [] rfl) rfl rfl ?_
              simp only [List.nil_append]
              (repeat' (first | refine X.rq ?_ | (refine X.rc ?_ ?_ <;> intro hc <;> first | (exfalso; omega) | skip)))
              refine K.l_callV (Fx.cal rfl) rfl hal (K.pp [] rfl) rfl rfl ?_
              simp only [List.nil_append]
              (repeat' (first | refine X.rq ?_ | (refine X.rc ?_ ?_ <;> intro hc <;> first | (exfalso; omega) | skip)))
              refine K.AT.drop ?_
              refine K.done (by first | exact Or.inl rfl | exact Or.inr rfl) rfl (by first | exact K.Base.le.refl _ | assumption) (H' := []) rfl ⟨rfl, rfl⟩
end Go.Proofs.YtkdngpiiecmpgaaGreat.Ch
