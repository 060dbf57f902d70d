/-
  The law of records' bytes, walked. Conditions: each theorem's own.
-/
import Derived.Test.YtihambjhlhgaeaaHv
import Derived.Test.YtihambjhlhgaeaaJA

namespace Go.Proofs.Ytihambjhlhgaeaa.Rc
open Go Go.K Go.Proofs Go.Proofs.Ytihambjhlhgaeaa Go.Proofs.Ytihambjhlhgaeaa.Pg Go.Proofs.Ytihambjhlhgaeaa.Cc Go.Proofs.Ytihambjhlhgaeaa.Rb
set_option linter.unusedVariables false
set_option linter.unusedSimpArgs false
set_option maxRecDepth 10000

theorem inc8c (c : UInt8) : IntKind.u8.wrap ((c.toNat : Int) + 1) = ((c + 1).toNat : Int) := by
  rw [show ((c.toNat : Int) + 1) = ((c.toNat + 1 : Nat) : Int) by omega, K.wn8]
  simp [UInt8.toNat_add]
set_option maxHeartbeats 4000000 in
theorem RecordBytesW (h : Base) (cs : List Value) (r : Recd) (hx : RecC h cs r) : Tr Try.prog 3 [.agg cs.toArray] h [] (fun u h' H' => u = .bool true ∧ H' = []) := by
  have hx0 := hx
  have hlsn := hx.1.lsn
  obtain ⟨_, ad, ai, al, ay, cd, ci, cl, cy, rfl, _⟩ := hx.cells
  have hl1 := RLong h _ r hx0
  clear hx
  refine K.enter Try.func3 rfl (Nat.le_of_ble_eq_true rfl) (fun F => ?_)
  simp only [List.nil_append]
  (repeat' (first | refine X.rq ?_ | (refine X.rc ?_ ?_ <;> intro hc <;> first | (exfalso; omega) | skip)))
  refine K.l_box rfl rfl rfl (fun B1 => ?_)
  (repeat' (first | refine X.rq ?_ | (refine X.rc ?_ ?_ <;> intro hc <;> first | (exfalso; omega) | skip)))
  refine K.l_call (Fx.cal rfl) rfl hl1 (K.pp [] rfl) rfl ?_
  rintro u h' H' - ⟨e, rfl, b1, rfl, hb1⟩
  obtain rfl := e.symm
  simp only [List.nil_append]
  cases b1 with
  | true =>
    (repeat' (first | refine X.rq ?_ | (refine X.rc ?_ ?_ <;> intro hc <;> first | (exfalso; omega) | skip)))
    refine K.l_callV (Fx.cal rfl) rfl (Alive h) (K.pp [] rfl) rfl rfl ?_
    simp only [List.nil_append]
    (repeat' (first | refine X.rq ?_ | (refine X.rc ?_ ?_ <;> intro hc <;> first | (exfalso; omega) | skip)))
    refine K.AT.drop ?_
    refine K.done (by first | exact Or.inl rfl | exact Or.inr rfl) rfl (by first | exact K.Base.le.refl _ | assumption) (H' := []) rfl ⟨rfl, rfl⟩
  | false =>
    have hs1 := hb1 rfl
    have hsm := hs1.small
    have hcopy := RecCopy h _ r hx0 hs1
    clear hb1 hl1
    (repeat' (first | refine X.rq ?_ | (refine X.rc ?_ ?_ <;> intro hc <;> first | (exfalso; omega) | skip)))
    refine K.l_call (Fx.cal rfl) rfl hcopy (K.pp [] rfl) rfl ?_
    rintro u h1 H' le1 ⟨rfl, cw, rfl, hrw⟩
    have hw0 := hrw
    obtain ⟨_, bd, bi, bl, by_, dd, di, dl, dy, rfl, _⟩ := hrw.cells
    simp only [List.nil_append]
    clear hrw
    refine K.l_alloc (Fx.zr rfl) rfl rfl (fun B3 => ?_)
    refine X.stw ?_
    simp only [List.set_cons_zero, List.set_cons_succ, List.eraseIdx_cons_zero, List.eraseIdx_cons_succ, List.cons_append, List.nil_append]
    have hx1 := hx0.le le1
    (repeat' (first | refine X.rq ?_ | (refine X.rc ?_ ?_ <;> intro hc <;> first | (exfalso; omega) | skip)))
    refine K.l_call (Fx.cal rfl) rfl (RecEncode h1 _ r hx1 hsm) (K.pp [] rfl) rfl ?_
    rintro u h' H' - ⟨e, a1, c1, rfl, rfl⟩
    obtain rfl := e.symm
    simp only [List.cons_append, List.nil_append]
    (repeat' (first | refine X.rq ?_ | (refine X.rc ?_ ?_ <;> intro hc <;> first | (exfalso; omega) | skip)))
    refine K.l_call (Fx.cal rfl) rfl (RefEncode h1 _ r hw0 hsm) (K.pp [] rfl) rfl ?_
    rintro u h' H' - ⟨e, a2, c2, rfl, rfl⟩
    obtain rfl := e
    simp only [List.cons_append, List.nil_append]
    refine K.WL.freezeBuf (fun h2 le2 hbv2 => ?_)
    have hle := le1.trans le2
    have hx2 := hx1.le le2
    have hw2 := hw0.le le2
    have hm1 := RecMay h2 _ r hx2 hsm
    have hm2 := RefMay h2 _ r hw2 hsm
    have hsz := RecSize h2 _ r hx2 hsm
    have hsame := SameR h2 _ _ r r hx2 hw2
    rw [decide_eq_true rfl] at hsame
    clear hx0 hx1 hw0 hcopy
    cases hm : mayR r with
    | false =>
      rw [encR_no hm] at hbv2 ⊢
      rw [hm] at hm1 hm2
      rw [sizeR_no hm] at hsz
      dsimp only at hbv2 ⊢
      (repeat' (first | refine X.rq ?_ | (refine X.rc ?_ ?_ <;> intro hc <;> first | (exfalso; omega) | skip)))
      refine X.draw ([bufA 5 1 a1 0 c1 (List.map u8 []), blk B3 31 (cR r (.slice bd r.op.data.length dd) (.slice bi r.images.length di) (.slice bl r.lives.length dl) (.slice by_ r.dirty.length dy)), blk B1 31 (cR r (.slice ad r.op.data.length cd) (.slice ai r.images.length ci) (.slice al r.lives.length cl) (.slice ay r.dirty.length cy))]) [] (.st 0 (.st 2 (.on 1 (.on 3 (.pu 4 (.pu 5 (.pu 8 (.pu 9 (.st 6 (.on 7 (.pu 10 (.pu 11 (.pu 12 (.pu 13 (.pu 15 (.st 14 (.st 16 (.pu 17 (.pu 18 (.pu 19 (.pu 20 (.pu 21 (.pu 22 (.pu 23 (.pu 24 (.pu 25 (.pu 26 (.pu 27 (.pu 28 (.pu 29 (.pu 30 (.pu 31 (.pu 32 (.pu 33 (.pu 34 .nil))))))))))))))))))))))))))))))))))) ?_
      refine K.d_st rfl X.ld rfl ?_
      refine K.d_st rfl X.ld rfl ?_
      refine K.d_on rfl (fun KK hKK => ?_)
      refine K.l_callV (Fx.cal rfl) rfl hm1 (K.pp [] rfl) rfl rfl ?_
      simp only [List.nil_append]
      refine K.l_nil ?_
      refine X.onE hKK ?_
      refine K.d_on rfl (fun KK hKK => ?_)
      refine K.l_callV (Fx.cal rfl) rfl hm2 (K.pp [] rfl) rfl rfl ?_
      simp only [List.nil_append]
      refine K.l_nil ?_
      refine X.onE hKK ?_
      refine K.d_pu rfl (fun _ _ => X.bneq) rfl ?_
      refine K.d_pu rfl (fun _ _ => X.mv) rfl ?_
      first | refine K.d_skip rfl rfl rfl rfl ?_ | refine K.d_skipU rfl rfl rfl rfl rfl ?_ | refine K.d_puG rfl rfl rfl (fun _ _ => X.mv) rfl ?_
      first | refine K.d_skip rfl rfl rfl rfl ?_ | refine K.d_skipU rfl rfl rfl rfl rfl ?_ | refine K.d_puG rfl rfl rfl (fun _ _ => X.len) rfl ?_
      first | refine K.d_skipS rfl rfl rfl rfl ?_ | refine K.d_skipUS rfl rfl rfl rfl rfl ?_ | refine K.d_stG rfl rfl rfl X.ld rfl ?_
      refine K.d_on rfl (fun KK hKK => ?_)
      refine K.s_take rfl rfl ?_
      refine K.l_callV (Fx.cal rfl) rfl hsz (K.pp [] rfl) rfl rfl ?_
      simp only [List.nil_append]
      refine K.l_nil ?_
      refine X.onE hKK ?_
      first | refine K.d_skip rfl rfl rfl rfl ?_ | refine K.d_skipU rfl rfl rfl rfl rfl ?_ | refine K.d_puG rfl rfl rfl (fun _ _ => X.bneq) rfl ?_
      refine K.d_pu rfl (fun _ _ => X.pk) rfl ?_
      refine K.d_pu rfl (fun _ _ => X.mv) rfl ?_
      first | refine K.d_skip rfl rfl rfl rfl ?_ | refine K.d_skipU rfl rfl rfl rfl rfl ?_ | refine K.d_puG rfl rfl rfl (fun _ _ => X.mv) rfl ?_
      first | refine K.d_skip rfl rfl rfl rfl ?_ | refine K.d_skipU rfl rfl rfl rfl rfl ?_ | refine K.d_puG rfl rfl rfl (fun _ _ => X.mv) rfl ?_
      refine K.d_stG rfl rfl rfl (K.p_toTextB (l := []) 0 rfl (Fx.und rfl) (Fx.und rfl) (Fx.und rfl) rfl) rfl ?_
      refine K.d_stG rfl rfl rfl (K.p_textB hbv2 (Fx.und rfl) (Fx.und rfl) (Fx.und rfl) rfl) rfl ?_
      first | refine K.d_skip rfl rfl rfl rfl ?_ | refine K.d_skipU rfl rfl rfl rfl rfl ?_ | refine K.d_puG rfl rfl rfl (fun _ _ => X.bneq) rfl ?_
      refine K.d_pu rfl (fun _ _ => X.pk) rfl ?_
      refine K.d_pu rfl (fun _ _ => X.mv) rfl ?_
      first | refine K.d_skip rfl rfl rfl rfl ?_ | refine K.d_skipU rfl rfl rfl rfl rfl ?_ | refine K.d_puG rfl rfl rfl (fun _ _ => X.mv) rfl ?_
      first | refine K.d_skip rfl rfl rfl rfl ?_ | refine K.d_skipU rfl rfl rfl rfl rfl ?_ | refine K.d_puG rfl rfl rfl (fun _ _ => X.beql) rfl ?_
      first | refine K.d_skip rfl rfl rfl rfl ?_ | refine K.d_skipU rfl rfl rfl rfl rfl ?_ | refine K.d_puG rfl rfl rfl (fun _ _ => X.mv) rfl ?_
      first | refine K.d_skip rfl rfl rfl rfl ?_ | refine K.d_skipU rfl rfl rfl rfl rfl ?_ | refine K.d_puG rfl rfl rfl (fun _ _ => X.len) rfl ?_
      first | refine K.d_skip rfl rfl rfl rfl ?_ | refine K.d_skipU rfl rfl rfl rfl rfl ?_ | refine K.d_puG rfl rfl rfl (fun _ _ => X.bgtr) rfl ?_
      first | refine K.d_skip rfl rfl rfl rfl ?_ | refine K.d_skipU rfl rfl rfl rfl rfl ?_ | refine K.d_puG rfl rfl rfl (fun _ _ => X.bneq) rfl ?_
      refine K.d_pu rfl (fun _ _ => X.pk) rfl ?_
      refine K.d_pu rfl (fun _ _ => X.mv) rfl ?_
      first | refine K.d_skip rfl rfl rfl rfl ?_ | refine K.d_skipU rfl rfl rfl rfl rfl ?_ | refine K.d_puG rfl rfl rfl (fun _ _ => X.mv) rfl ?_
      first | refine K.d_skip rfl rfl rfl rfl ?_ | refine K.d_skipU rfl rfl rfl rfl rfl ?_ | refine K.d_puG rfl rfl rfl (fun _ _ => X.bneq) rfl ?_
      first | refine K.d_skip rfl rfl rfl rfl ?_ | refine K.d_skipU rfl rfl rfl rfl rfl ?_ | refine K.d_puG rfl rfl rfl (fun _ _ => X.mv) rfl ?_
      first | refine K.d_skip rfl rfl rfl rfl ?_ | refine K.d_skipU rfl rfl rfl rfl rfl ?_ | refine K.d_puG rfl rfl rfl (fun _ _ => X.mv) rfl ?_
      first | refine K.d_skip rfl rfl rfl rfl ?_ | refine K.d_skipU rfl rfl rfl rfl rfl ?_ | refine K.d_puG rfl rfl rfl (fun _ _ => X.bneq) rfl ?_
      first | refine K.d_skip rfl rfl rfl rfl ?_ | refine K.d_skipU rfl rfl rfl rfl rfl ?_ | refine K.d_puG rfl rfl rfl (fun _ _ => X.pk) rfl ?_
      refine K.d_pu rfl (fun _ _ => X.pk) rfl ?_
      refine K.d_nil ?_
      (repeat' (first | refine X.rq ?_ | (refine X.rc ?_ ?_ <;> intro hc <;> first | (exfalso; omega) | skip)))
      refine K.c_loop (σ := Unit) (fun j => [(1, .pointer (some ⟨B1, 0, none⟩)), (3, .pointer (some ⟨B3, 0, none⟩)), (4, bufV a1 0 c1), (7, .int .i64 0)]) (fun _ => h2) (fun _ => bufA 5 1 a1 0 c1 [] :: blk B3 31 (cR r (.slice bd r.op.data.length dd) (.slice bi r.images.length di) (.slice bl r.lives.length dl) (.slice by_ r.dirty.length dy)) :: blk B1 31 (cR r (.slice ad r.op.data.length cd) (.slice ai r.images.length ci) (.slice al r.lives.length cl) (.slice ay r.dirty.length cy)) :: F) (fun _ => True) (fun _ => 0) () trivial (by repeat (first | exact K.Sub.nil _ | refine K.Sub.cons rfl ?_)) rfl rfl ?_
      rintro - - KL hKL
      (repeat' (first | refine X.rq ?_ | (refine X.rc ?_ ?_ <;> intro hc <;> first | (exfalso; omega) | skip)))
      refine K.l_callV (Fx.cal rfl) rfl hsame (K.pp [] rfl) rfl rfl ?_
      simp only [List.nil_append]
      (repeat' (first | refine X.rq ?_ | (refine X.rc ?_ ?_ <;> intro hc <;> first | (exfalso; omega) | skip)))
      refine K.l_callV (Fx.cal rfl) rfl (Alive h2) (K.pp [] rfl) rfl rfl ?_
      simp only [List.nil_append]
      (repeat' (first | refine X.rq ?_ | (refine X.rc ?_ ?_ <;> intro hc <;> first | (exfalso; omega) | skip)))
      refine K.AT.sel [0, 0, 0] rfl ?_
      refine K.done (by first | exact Or.inl rfl | exact Or.inr rfl) rfl hle (H' := []) rfl ⟨rfl, rfl⟩
    | true =>
      have hn := encN_len hm
      rw [encR_yes hm] at hbv2 ⊢
      rw [hm] at hm1 hm2
      rw [sizeR_yes hm] at hsz
      dsimp only at hbv2 ⊢
      generalize encN r = eb at hn hsz hbv2 ⊢
      (repeat' (first | refine X.rq ?_ | (refine X.rc ?_ ?_ <;> intro hc <;> first | (exfalso; omega) | skip)))
      refine X.draw ([bufA 5 1 a1 eb.length c1 (List.map u8 eb), blk B3 31 (cR r (.slice bd r.op.data.length dd) (.slice bi r.images.length di) (.slice bl r.lives.length dl) (.slice by_ r.dirty.length dy)), blk B1 31 (cR r (.slice ad r.op.data.length cd) (.slice ai r.images.length ci) (.slice al r.lives.length cl) (.slice ay r.dirty.length cy))]) [] (.st 0 (.st 2 (.on 1 (.on 3 (.pu 4 (.pu 5 (.pu 8 (.pu 9 (.st 6 (.on 7 (.pu 10 (.pu 11 (.pu 12 (.pu 13 (.pu 15 (.st 14 (.st 16 (.pu 17 (.pu 18 (.pu 19 (.pu 20 (.pu 21 (.pu 22 (.pu 23 (.pu 24 (.pu 25 (.pu 26 (.pu 27 (.pu 28 (.pu 29 (.pu 30 (.pu 31 (.pu 32 (.pu 33 (.pu 34 .nil))))))))))))))))))))))))))))))))))) ?_
      refine K.d_st rfl X.ld rfl ?_
      refine K.d_st rfl X.ld rfl ?_
      refine K.d_on rfl (fun KK hKK => ?_)
      refine K.l_callV (Fx.cal rfl) rfl hm1 (K.pp [] rfl) rfl rfl ?_
      simp only [List.nil_append]
      refine K.l_nil ?_
      refine X.onE hKK ?_
      refine K.d_on rfl (fun KK hKK => ?_)
      refine K.l_callV (Fx.cal rfl) rfl hm2 (K.pp [] rfl) rfl rfl ?_
      simp only [List.nil_append]
      refine K.l_nil ?_
      refine X.onE hKK ?_
      refine K.d_pu rfl (fun _ _ => X.bneq) rfl ?_
      refine K.d_pu rfl (fun _ _ => X.mv) rfl ?_
      first | refine K.d_skip rfl rfl rfl rfl ?_ | refine K.d_skipU rfl rfl rfl rfl rfl ?_ | refine K.d_puG rfl rfl rfl (fun _ _ => X.mv) rfl ?_
      first | refine K.d_skip rfl rfl rfl rfl ?_ | refine K.d_skipU rfl rfl rfl rfl rfl ?_ | refine K.d_puG rfl rfl rfl (fun _ _ => X.len) rfl ?_
      first | refine K.d_skipS rfl rfl rfl rfl ?_ | refine K.d_skipUS rfl rfl rfl rfl rfl ?_ | refine K.d_stG rfl rfl rfl X.ld rfl ?_
      refine K.d_on rfl (fun KK hKK => ?_)
      refine K.s_take rfl rfl ?_
      refine K.l_callV (Fx.cal rfl) rfl hsz (K.pp [] rfl) rfl rfl ?_
      simp only [List.nil_append]
      refine K.l_nil ?_
      refine X.onE hKK ?_
      first | refine K.d_skip rfl rfl rfl rfl ?_ | refine K.d_skipU rfl rfl rfl rfl rfl ?_ | refine K.d_puG rfl rfl rfl (fun _ _ => X.bneq) rfl ?_
      rw [show decide ((eb.length : Int) ≠ (eb.length : Int)) = false from decide_eq_false (fun h => h rfl)]
      refine K.d_pu rfl (fun _ _ => X.pk) rfl ?_
      refine K.d_pu rfl (fun _ _ => X.mv) rfl ?_
      first | refine K.d_skip rfl rfl rfl rfl ?_ | refine K.d_skipU rfl rfl rfl rfl rfl ?_ | refine K.d_puG rfl rfl rfl (fun _ _ => X.mv) rfl ?_
      first | refine K.d_skip rfl rfl rfl rfl ?_ | refine K.d_skipU rfl rfl rfl rfl rfl ?_ | refine K.d_puG rfl rfl rfl (fun _ _ => X.mv) rfl ?_
      refine K.d_stG rfl rfl rfl (K.p_toTextB (l := eb) 0 rfl (Fx.und rfl) (Fx.und rfl) (Fx.und rfl) rfl) rfl ?_
      refine K.d_stG rfl rfl rfl (K.p_textB hbv2 (Fx.und rfl) (Fx.und rfl) (Fx.und rfl) rfl) rfl ?_
      first | refine K.d_skip rfl rfl rfl rfl ?_ | refine K.d_skipU rfl rfl rfl rfl rfl ?_ | refine K.d_puG rfl rfl rfl (fun _ _ => X.bneq) rfl ?_
      rw [show decide ((⟨eb.toArray⟩ : ByteArray) ≠ ⟨eb.toArray⟩) = false from decide_eq_false (fun h => h rfl)]
      refine K.d_pu rfl (fun _ _ => X.pk) rfl ?_
      refine K.d_pu rfl (fun _ _ => X.mv) rfl ?_
      first | refine K.d_skip rfl rfl rfl rfl ?_ | refine K.d_skipU rfl rfl rfl rfl rfl ?_ | refine K.d_puG rfl rfl rfl (fun _ _ => X.mv) rfl ?_
      first | refine K.d_skip rfl rfl rfl rfl ?_ | refine K.d_skipU rfl rfl rfl rfl rfl ?_ | refine K.d_puG rfl rfl rfl (fun _ _ => X.beql) rfl ?_
      first | refine K.d_skip rfl rfl rfl rfl ?_ | refine K.d_skipU rfl rfl rfl rfl rfl ?_ | refine K.d_puG rfl rfl rfl (fun _ _ => X.mv) rfl ?_
      first | refine K.d_skip rfl rfl rfl rfl ?_ | refine K.d_skipU rfl rfl rfl rfl rfl ?_ | refine K.d_puG rfl rfl rfl (fun _ _ => X.len) rfl ?_
      first | refine K.d_skip rfl rfl rfl rfl ?_ | refine K.d_skipU rfl rfl rfl rfl rfl ?_ | refine K.d_puG rfl rfl rfl (fun _ _ => X.bgtr) rfl ?_
      rw [show decide (0 < (eb.length : Int)) = true from decide_eq_true (by omega)]
      first | refine K.d_skip rfl rfl rfl rfl ?_ | refine K.d_skipU rfl rfl rfl rfl rfl ?_ | refine K.d_puG rfl rfl rfl (fun _ _ => X.bneq) rfl ?_
      refine K.d_pu rfl (fun _ _ => X.pk) rfl ?_
      refine K.d_pu rfl (fun _ _ => X.mv) rfl ?_
      first | refine K.d_skip rfl rfl rfl rfl ?_ | refine K.d_skipU rfl rfl rfl rfl rfl ?_ | refine K.d_puG rfl rfl rfl (fun _ _ => X.mv) rfl ?_
      first | refine K.d_skip rfl rfl rfl rfl ?_ | refine K.d_skipU rfl rfl rfl rfl rfl ?_ | refine K.d_puG rfl rfl rfl (fun _ _ => X.bneq) rfl ?_
      first | refine K.d_skip rfl rfl rfl rfl ?_ | refine K.d_skipU rfl rfl rfl rfl rfl ?_ | refine K.d_puG rfl rfl rfl (fun _ _ => X.mv) rfl ?_
      first | refine K.d_skip rfl rfl rfl rfl ?_ | refine K.d_skipU rfl rfl rfl rfl rfl ?_ | refine K.d_puG rfl rfl rfl (fun _ _ => X.mv) rfl ?_
      first | refine K.d_skip rfl rfl rfl rfl ?_ | refine K.d_skipU rfl rfl rfl rfl rfl ?_ | refine K.d_puG rfl rfl rfl (fun _ _ => X.bneq) rfl ?_
      first | refine K.d_skip rfl rfl rfl rfl ?_ | refine K.d_skipU rfl rfl rfl rfl rfl ?_ | refine K.d_puG rfl rfl rfl (fun _ _ => X.pk) rfl ?_
      refine K.d_pu rfl (fun _ _ => X.pk) rfl ?_
      refine K.d_nil ?_
      (repeat' (first | refine X.rq ?_ | (refine X.rc ?_ ?_ <;> intro hc <;> first | (exfalso; omega) | skip)))
      refine K.c_loop (σ := Nat × List UInt8) (fun r => [(1, .pointer (some ⟨B1, 0, none⟩)), (3, .pointer (some ⟨B3, 0, none⟩)), (4, bufV a1 eb.length c1), (7, .int .i64 r.1)]) (fun _ => h2) (fun q => bufA 5 1 a1 eb.length c1 (q.2.map u8) :: blk B3 31 (cR r (.slice bd r.op.data.length dd) (.slice bi r.images.length di) (.slice bl r.lives.length dl) (.slice by_ r.dirty.length dy)) :: blk B1 31 (cR r (.slice ad r.op.data.length cd) (.slice ai r.images.length ci) (.slice al r.lives.length cl) (.slice ay r.dirty.length cy)) :: F) (fun r => r.1 ≤ eb.length ∧ r.2.length = eb.length) (fun r => eb.length - r.1) (0, eb) ⟨Nat.zero_le _, rfl⟩ (by repeat (first | exact K.Sub.nil _ | refine K.Sub.cons rfl ?_)) rfl rfl ?_
      rintro ⟨j, bs⟩ ⟨hj, hbs⟩ KL hKL
      dsimp only at hj hbs ⊢
      by_cases hjl : j < eb.length
      · refine K.oc_buf (fun _ e _ _ => by omega) ?_
        rintro bb sp fz rfl g2 g3 g4 g5 g6
        have hbj : bs[j]? = some (bs[j]'(by omega)) := List.getElem?_eq_getElem (by omega)
        generalize bs[j]'(by omega) = c at hbj
        (repeat' (first | refine X.rq ?_ | (refine X.rc ?_ ?_ <;> intro hc <;> first | (exfalso; omega) | skip)))
        refine K.s_pure (K.p_load (Fx.agg rfl) rfl (K.cel_own (v := u8 c) 0 rfl (by rw [List.getElem?_append_left (by simpa using (by omega : j < bs.length)), List.getElem?_map, hbj]; rfl))) rfl ?_
        simp only [u8]
        refine K.s_pure (K.p_add rfl rfl (inc8c c)) rfl ?_
        (repeat' (first | refine X.rq ?_ | (refine X.rc ?_ ?_ <;> intro hc <;> first | (exfalso; omega) | skip)))
        refine K.l_storeB (c := c + 1) (Fx.sz rfl) rfl rfl rfl (by omega) (fun o ho => g6 o (by omega)) ?_
        (repeat' (first | refine X.rq ?_ | (refine X.rc ?_ ?_ <;> intro hc <;> first | (exfalso; omega) | skip)))
        refine K.AT.shut (s := 1) (m := eb.length) (cap := c1) (by simp [hbs]) (by simpa using g3) g4 g5 g6 ?_
        refine K.a_round hKL (j + 1, bs.set j (c + 1)) ⟨by dsimp only; omega, by simp [hbs]⟩ (by repeat (first | exact K.Sub.nil _ | refine K.Sub.cons rfl ?_)) rfl rfl (by dsimp only; omega)
      · (repeat' (first | refine X.rq ?_ | (refine X.rc ?_ ?_ <;> intro hc <;> first | (exfalso; omega) | skip)))
        refine K.l_callV (Fx.cal rfl) rfl hsame (K.pp [] rfl) rfl rfl ?_
        simp only [List.nil_append]
        (repeat' (first | refine X.rq ?_ | (refine X.rc ?_ ?_ <;> intro hc <;> first | (exfalso; omega) | skip)))
        refine K.l_callV (Fx.cal rfl) rfl (Alive h2) (K.pp [] rfl) rfl rfl ?_
        simp only [List.nil_append]
        (repeat' (first | refine X.rq ?_ | (refine X.rc ?_ ?_ <;> intro hc <;> first | (exfalso; omega) | skip)))
        refine K.AT.sel [0, 0, 0] rfl ?_
        refine K.done (by first | exact Or.inl rfl | exact Or.inr rfl) rfl hle (H' := []) rfl ⟨rfl, rfl⟩
end Go.Proofs.Ytihambjhlhgaeaa.Rc
