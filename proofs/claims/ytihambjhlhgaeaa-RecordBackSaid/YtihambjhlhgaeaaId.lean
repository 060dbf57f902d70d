/-
  The law of records that are read back, walked. Conditions: each theorem's own.
-/
import Derived.Test.YtihambjhlhgaeaaIc

namespace Go.Proofs.Ytihambjhlhgaeaa.Rc
open Go Go.K Go.Proofs Go.Proofs.Ytihambjhlhgaeaa Go.Proofs.Ytihambjhlhgaeaa.Pg Go.Proofs.Ytihambjhlhgaeaa.Cc Go.Proofs.Ytihambjhlhgaeaa.Rb
set_option linter.unusedVariables false
set_option linter.unusedSimpArgs false
set_option maxRecDepth 10000

theorem dec_cut {r : Recd} (h : mayR r = true) {k : Nat} (hk : k < (encN r).length) : Dec ((encN r).take k) zR 0 6 := by
  have hn := encN_len h
  have hl : ((encN r).take k).length = k := by rw [List.length_take]; omega
  by_cases h2 : k < 2
  · exact .inl ⟨by omega, rfl, rfl, rfl⟩
  · have hd : hdN ((encN r).take k) = (encN r).length := by
      have := hdN_enc h []
      rw [List.append_nil] at this
      rw [← this]
      unfold hdN
      rw [List.take_take, Nat.min_eq_left (by omega)]
    exact .inr (.inr (.inl ⟨by omega, by rw [hd]; omega, by rw [hd]; omega, rfl, rfl, rfl⟩))
/-- What was read, written again. -/
theorem dec_back {b : List UInt8} {r : Recd} {n : Nat} (h : Dec b r n 0) : mayR r = true ∧ encN r = b.take n ∧ n ≤ b.length ∧ n = (encN r).length := by
  rcases h with ⟨_, _, _, e⟩ | ⟨_, _, _, _, e⟩ | ⟨_, _, _, _, _, e⟩ | ⟨_, _, _, _, _, _, e⟩ | ⟨h2, h3, hl, hv, hb, hn, _⟩
  · cases e
  · cases e
  · cases e
  · cases e
  · have he := (enc_iff h2 h3.1 hl).2 hb
    rw [← hn] at he hl
    exact ⟨hv.1, he, hl, by rw [he, List.length_take]; omega⟩
theorem dec_err {b : List UInt8} {r : Recd} {n : Nat} {e : Int} (h : Dec b r n e) : e = 0 ∨ (e ≠ 0 ∧ n = 0) := by
  rcases h with ⟨_, _, h, e⟩ | ⟨_, _, _, h, e⟩ | ⟨_, _, _, _, h, e⟩ | ⟨_, _, _, _, _, h, e⟩ | ⟨h2, h3, hl, hv, hb, hn, e⟩
  · exact .inr ⟨by omega, h⟩
  · exact .inr ⟨by omega, h⟩
  · exact .inr ⟨by omega, h⟩
  · exact .inr ⟨by omega, h⟩
  · exact .inl e
def OneT (u : Value) (_h' : Base) (H' : List Asrt) : Prop := u = .bool true ∧ H' = []
set_option maxHeartbeats 8000000 in
theorem RecordBackW (h : Base) (cs : List Value) (r : Recd) (v : Value) (bl : List UInt8) (cut : Int) (hx : RecC h cs r) (hb : BV h v bl) (hbl : bl.length ≤ 140737488351232) (hcut : in64 cut) :
    Tr Try.prog 5 [.agg cs.toArray, v, .int .i64 cut] h [] OneT := by
  have hx0 := hx
  have wx := hx.wfX
  obtain ⟨_, ad, ai, al, ay, cd, ci, cl, cy, rfl, _⟩ := hx.cells
  have hl1 := RLong h _ r hx0
  clear hx
  obtain ⟨ao, ca, rfl⟩ := hb.len
  refine K.enter Try.func5 rfl (Nat.le_of_ble_eq_true rfl) (fun F => ?_)
  simp only [List.nil_append]
  (repeat' (first | refine X.rq ?_ | (refine X.rc ?_ ?_ <;> intro hc <;> first | (exfalso; omega) | skip)))
  refine K.l_box rfl rfl rfl (fun B1 => ?_)
  (repeat' (first | refine X.rq ?_ | (refine X.rc ?_ ?_ <;> intro hc <;> first | (exfalso; omega) | skip)))
  refine K.l_call (Fx.cal rfl) rfl hl1 (K.pp [] rfl) rfl ?_
  rintro u h' H' - ⟨e, rfl, b1, rfl, hb1⟩
  obtain rfl := e.symm
  simp only [List.nil_append]
  cases b1 with
  | true =>
    (repeat' (first | refine X.rq ?_ | (refine X.rc ?_ ?_ <;> intro hc <;> first | (exfalso; omega) | skip)))
    refine K.l_callV (Fx.cal rfl) rfl (Alive h) (K.pp [] rfl) rfl rfl ?_
    simp only [List.nil_append]
    (repeat' (first | refine X.rq ?_ | (refine X.rc ?_ ?_ <;> intro hc <;> first | (exfalso; omega) | skip)))
    refine K.AT.drop ?_
    refine K.done (by first | exact Or.inl rfl | exact Or.inr rfl) rfl (by first | exact K.Base.le.refl _ | assumption) (H' := []) rfl ⟨rfl, rfl⟩
  | false =>
    have hs1 := hb1 rfl
    have hsm := hs1.small
    clear hb1 hl1 hs1
    by_cases h17 : 131072 < bl.length
    · (repeat' (first | refine X.rq ?_ | (refine X.rc ?_ ?_ <;> intro hc <;> first | (exfalso; omega) | skip)))
      refine K.l_callV (Fx.cal rfl) rfl (Alive h) (K.pp [] rfl) rfl rfl ?_
      simp only [List.nil_append]
      (repeat' (first | refine X.rq ?_ | (refine X.rc ?_ ?_ <;> intro hc <;> first | (exfalso; omega) | skip)))
      refine K.AT.drop ?_
      refine K.done (by first | exact Or.inl rfl | exact Or.inr rfl) rfl (by first | exact K.Base.le.refl _ | assumption) (H' := []) rfl ⟨rfl, rfl⟩
    · (repeat' (first | refine X.rq ?_ | (refine X.rc ?_ ?_ <;> intro hc <;> first | (exfalso; omega) | skip)))
      refine K.l_call (Fx.cal rfl) rfl (RecEncode h _ r hx0 hsm) (K.pp [] rfl) rfl ?_
      rintro u h' H' - ⟨e, a1, c1, rfl, rfl⟩
      obtain rfl := e.symm
      simp only [List.cons_append, List.nil_append]
      refine K.WL.freezeBuf (fun h1 le1 hbv1 => ?_)
      have hx1 := hx0.le le1
      have hb1 := hb.le le1
      have hm1 := RecMay h1 _ r hx1 hsm
      have hsz := RecSize h1 _ r hx1 hsm
      have hen : mayR r = decide ((encR r).2 = 0) := by
        cases hm : mayR r with
        | true => rw [encR_yes hm]; rfl
        | false => rw [encR_no hm]; rfl
      have hsl : sizeR r = (encR r).1.length := by
        cases hm : mayR r with
        | true => rw [encR_yes hm, sizeR_yes hm]
        | false => rw [encR_no hm, sizeR_no hm]; rfl
      have hen2 := hen
      rw [hen] at hm1
      rw [hsl] at hsz
      obtain ⟨eb, heb⟩ : ∃ x, x = (encR r).1 := ⟨_, rfl⟩
      obtain ⟨en, hene⟩ : ∃ x, x = (encR r).2 := ⟨_, rfl⟩
      rw [← heb] at hbv1 hsz ⊢
      rw [← hene] at hm1 hen2 ⊢
      obtain ⟨vb, evb⟩ : ∃ v, v = bufV a1 eb.length c1 := ⟨_, rfl⟩
      rw [← evb] at hbv1 ⊢
      obtain ⟨ao1, ca1, rfl⟩ := hbv1.len
      clear evb hen hsl
      (repeat' (first | refine X.rq ?_ | (refine X.rc ?_ ?_ <;> intro hc <;> first | (exfalso; omega) | skip)))
      refine K.l_callV (Fx.cal rfl) rfl hm1 (K.pp [] rfl) rfl rfl ?_
      simp only [List.nil_append]
      refine K.s_pure X.bneq rfl ?_
      rw [beq_self_eq_true]
      (repeat' (first | refine X.rq ?_ | (refine X.rc ?_ ?_ <;> intro hc <;> first | (exfalso; omega) | skip)))
      refine K.l_callV (Fx.cal rfl) rfl hsz (K.pp [] rfl) rfl rfl ?_
      simp only [List.nil_append]
      (repeat' (first | refine X.rs ?_ | (refine X.rd ?_ ?_ <;> intro hc <;> first | (exfalso; omega) | skip)))
      apply K.c_seq
      refine K.c_join (β := Base) (fun _ => [(1, .slice ao bl.length ca), (3, .pointer (some ⟨B1, 0, none⟩))]) (fun b => b) (fun _ => blk B1 31 (cR r (.slice ad r.op.data.length cd) (.slice ai r.images.length ci) (.slice al r.lives.length cl) (.slice ay r.dirty.length cy)) :: F) (fun b => h1.le b) (fun KJ hJ => ?_) ?_
      · (repeat' (first | refine X.rq ?_ | (refine X.rc ?_ ?_ <;> intro hc <;> first | (exfalso; omega) | skip)))
        · have hm : mayR r = true := by rw [hen2]; exact decide_eq_true hc
          rw [encR_yes hm] at heb
          dsimp only at heb
          subst heb
          have hn := encN_len hm
          refine K.l_call (Fx.cal rfl) rfl (Pg.Copy h1 _ _ hbv1 (by omega)) (K.pp [] rfl) rfl ?_
          rintro u h' H' - ⟨e, a2, c2, rfl, rfl⟩
          obtain rfl := e.symm
          simp only [List.cons_append, List.nil_append]
          (repeat' (first | refine X.rq ?_ | (refine X.rc ?_ ?_ <;> intro hc <;> first | (exfalso; omega) | skip)))
          refine K.l_append_at 0 rfl (Fx.und rfl) (Fx.und rfl) rfl (Fx.sz rfl) (Fx.zr rfl) rfl (Fx.byt rfl) rfl rfl hb1.src (by omega) (by omega) rfl (fun a3 c3 => ?_)
          simp only [List.set_cons_zero, List.set_cons_succ, List.eraseIdx_cons_zero, List.eraseIdx_cons_succ, List.cons_append, List.nil_append]
          rw [← List.map_append, ← List.length_append]
          refine K.WL.freezeBuf (fun h2 le2 hbv2 => ?_)
          have hl2 : (encN r ++ bl).length = (encN r).length + bl.length := List.length_append
          refine K.l_call (Fx.cal rfl) rfl (RecDecode h2 _ _ hbv2 (by omega)) (K.pp [] rfl) rfl ?_
          rintro u h3 H' le3 ⟨rfl, cs3, r3, n3, e3, rfl, hrc3, hs3, hl3, hd3⟩
          obtain ⟨rfl, rfl, rfl⟩ := dec_one hd3 (dec_enc hm wx bl)
          have hle3 := le2.trans le3
          have hsame := SameR h3 _ _ (z0 r) r hrc3 (hx1.le hle3)
          rw [show decide (z0 (z0 r) = z0 r) = true from decide_eq_true rfl] at hsame
          obtain ⟨_, bd, bi, bll, by_, dd, di, dl, dy, rfl, _⟩ := hrc3.cells
          have hbv3 := hbv1.le hle3
          simp only [List.nil_append]
          clear hd3 hs3 hrc3 hbv2
          (repeat' (first | refine X.rq ?_ | (refine X.rc ?_ ?_ <;> intro hc <;> first | (exfalso; omega) | skip)))
          refine K.l_alloc (Fx.zr rfl) rfl rfl (fun B9 => ?_)
          refine X.stw ?_
          simp only [List.set_cons_zero, List.set_cons_succ, List.eraseIdx_cons_zero, List.eraseIdx_cons_succ, List.cons_append, List.nil_append]
          (repeat' (first | refine X.rq ?_ | (refine X.rc ?_ ?_ <;> intro hc <;> first | (exfalso; omega) | skip)))
          refine K.l_callV (Fx.cal rfl) rfl hsame (K.pp [] rfl) rfl rfl ?_
          simp only [List.nil_append]
          (repeat' (first | refine X.rq ?_ | (refine X.rc ?_ ?_ <;> intro hc <;> first | (exfalso; omega) | skip)))
          · have hk : cut.toNat % (encN r).length < (encN r).length := Nat.mod_lt _ (by omega)
            have hke : cut % ((encN r).length : Int) = ((cut.toNat % (encN r).length : Nat) : Int) := by
              rw [Int.natCast_emod, Int.toNat_of_nonneg (by omega)]
            rw [hke]
            refine K.s_pureE (K.p_sliceB (k1 := .i64) (k2 := .i64) (p := 0) (q := cut.toNat % (encN r).length) hbv3 (Fx.und rfl) (Fx.sz rfl) rfl rfl ⟨_, rfl, rfl⟩ (Nat.zero_le _) (by omega)) rfl ?_
            intro v5 hb5
            rw [List.drop_zero] at hb5
            refine K.l_call (Fx.cal rfl) rfl (RecDecode h3 _ _ hb5 (by rw [List.length_take]; omega)) (K.pp [] rfl) rfl ?_
            rintro u h4 H' le4 ⟨rfl, cs4, r4, n4, e4, rfl, hrc4, hs4, hl4, hd4⟩
            obtain ⟨rfl, rfl, rfl⟩ := dec_one hd4 (dec_cut hm hk)
            obtain ⟨_, bd4, bi4, bl4, by4, dd4, di4, dl4, dy4, rfl, _⟩ := hrc4.cells
            simp only [List.nil_append]
            (repeat' (first | refine X.rq ?_ | (refine X.rc ?_ ?_ <;> intro hc <;> first | (exfalso; omega) | skip)))
            refine K.l_alloc (Fx.zr rfl) rfl rfl (fun B12 => ?_)
            refine X.stw ?_
            simp only [List.set_cons_zero, List.set_cons_succ, List.eraseIdx_cons_zero, List.eraseIdx_cons_succ, List.cons_append, List.nil_append]
            (repeat' (first | refine X.rq ?_ | (refine X.rc ?_ ?_ <;> intro hc <;> first | (exfalso; omega) | skip)))
            refine K.AT.sel [0, 0] rfl ?_
            refine K.a_join hJ h4 (hle3.trans le4) (by repeat (first | exact K.Sub.nil _ | refine K.Sub.cons rfl ?_)) rfl rfl
          · refine K.AT.drop ?_
            refine K.a_join hJ h3 hle3 (by repeat (first | exact K.Sub.nil _ | refine K.Sub.cons rfl ?_)) rfl rfl
        · refine K.a_join hJ h1 (K.Base.le.refl _) (by repeat (first | exact K.Sub.nil _ | refine K.Sub.cons rfl ?_)) rfl rfl
      · intro h5 le5
        have hle5 := le1.trans le5
        have hb5 := hb.le hle5
        clear hm1 hsz hbv1 hen2 heb hene
        (repeat' (first | refine X.rq ?_ | (refine X.rc ?_ ?_ <;> intro hc <;> first | (exfalso; omega) | skip)))
        refine K.l_call (Fx.cal rfl) rfl (RecDecode h5 _ _ hb5 (by omega)) (K.pp [] rfl) rfl ?_
        rintro u h6 H' le6 ⟨rfl, cs6, r6, n6, e6, rfl, hrc6, hs6, hl6, hd6⟩
        have hrc60 := hrc6
        obtain ⟨_, bd, bi, bll, by_, dd, di, dl, dy, rfl, _⟩ := hrc6.cells
        simp only [List.nil_append]
        have hle6 := hle5.trans le6
        have hb6 := hb5.le le6
        clear hrc6
        (repeat' (first | refine X.rq ?_ | (refine X.rc ?_ ?_ <;> intro hc <;> first | (exfalso; omega) | skip)))
        refine K.l_alloc (Fx.zr rfl) rfl rfl (fun B9 => ?_)
        refine X.stw ?_
        simp only [List.set_cons_zero, List.set_cons_succ, List.eraseIdx_cons_zero, List.eraseIdx_cons_succ, List.cons_append, List.nil_append]
        rcases dec_err hd6 with rfl | ⟨he6, rfl⟩
        · obtain ⟨hm6, hen6, hnl6, hn6⟩ := dec_back hd6
          have he := RecEncode h6 _ r6 hrc60 hs6
          rw [encR_yes hm6] at he
          clear hd6
          (repeat' (first | refine X.rq ?_ | (refine X.rc ?_ ?_ <;> intro hc <;> first | (exfalso; omega) | skip)))
          refine K.l_call (Fx.cal rfl) rfl he (K.pp [] rfl) rfl ?_
          rintro u h' H' - ⟨e, a7, c7, rfl, rfl⟩
          obtain rfl := e.symm
          simp only [List.cons_append, List.nil_append]
          refine K.WL.freezeBuf (fun h7 le7 hbv7 => ?_)
          have hb7 := hb6.le le7
          (repeat' (first | refine X.rq ?_ | (refine X.rc ?_ ?_ <;> intro hc <;> first | (exfalso; omega) | skip)))
          refine X.draw ([]) [] (.pu 0 (.pu 1 (.pu 2 (.pu 3 (.pu 4 (.pu 5 (.pu 6 (.pu 7 (.pu 8 (.pu 9 (.pu 10 (.pu 11 (.pu 12 (.pu 13 (.pu 14 (.pu 15 (.pu 17 (.pu 18 (.st 16 (.st 19 (.st 20 (.pu 21 (.pu 22 (.pu 23 (.on 24 (.pu 25 (.pu 26 .nil))))))))))))))))))))))))))) ?_
          refine K.d_pu rfl (fun _ _ => X.mv) rfl ?_
          refine K.d_pu rfl (fun _ _ => X.beql) rfl ?_
          refine K.d_pu rfl (fun _ _ => X.mv) rfl ?_
          first | refine K.d_skip rfl rfl rfl rfl ?_ | refine K.d_skipU rfl rfl rfl rfl rfl ?_ | refine K.d_puG rfl rfl rfl (fun _ _ => X.mv) rfl ?_
          first | refine K.d_skip rfl rfl rfl rfl ?_ | refine K.d_skipU rfl rfl rfl rfl rfl ?_ | refine K.d_puG rfl rfl rfl (fun _ _ => X.mv) rfl ?_
          first | refine K.d_skip rfl rfl rfl rfl ?_ | refine K.d_skipU rfl rfl rfl rfl rfl ?_ | refine K.d_puG rfl rfl rfl (fun _ _ => X.len) rfl ?_
          first | refine K.d_skip rfl rfl rfl rfl ?_ | refine K.d_skipU rfl rfl rfl rfl rfl ?_ | refine K.d_puG rfl rfl rfl (fun _ _ => X.beql) rfl ?_
          rw [show decide ((n6 : Int) = ((encN r6).length : Int)) = true from decide_eq_true (by omega)]
          refine K.d_pu rfl (fun _ _ => X.pk) rfl ?_
          refine K.d_pu rfl (fun _ _ => X.mv) rfl ?_
          first | refine K.d_skip rfl rfl rfl rfl ?_ | refine K.d_skipU rfl rfl rfl rfl rfl ?_ | refine K.d_puG rfl rfl rfl (fun _ _ => X.mv) rfl ?_
          first | refine K.d_skip rfl rfl rfl rfl ?_ | refine K.d_skipU rfl rfl rfl rfl rfl ?_ | refine K.d_puG rfl rfl rfl (fun _ _ => X.mv) rfl ?_
          first | refine K.d_skip rfl rfl rfl rfl ?_ | refine K.d_skipU rfl rfl rfl rfl rfl ?_ | refine K.d_puG rfl rfl rfl (fun _ _ => X.len) rfl ?_
          first | refine K.d_skip rfl rfl rfl rfl ?_ | refine K.d_skipU rfl rfl rfl rfl rfl ?_ | refine K.d_puG rfl rfl rfl (fun _ _ => X.bleq) rfl ?_
          rw [show decide ((n6 : Int) ≤ (bl.length : Int)) = true from decide_eq_true (by omega)]
          refine K.d_pu rfl (fun _ _ => X.pk) rfl ?_
          refine K.d_pu rfl (fun _ _ => X.mv) rfl ?_
          first | refine K.d_skip rfl rfl rfl rfl ?_ | refine K.d_skipU rfl rfl rfl rfl rfl ?_ | refine K.d_puG rfl rfl rfl (fun _ _ => X.mv) rfl ?_
          first | refine K.d_skip rfl rfl rfl rfl ?_ | refine K.d_skipU rfl rfl rfl rfl rfl ?_ | refine K.d_puG rfl rfl rfl (fun _ _ => X.mv) rfl ?_
          first | refine K.d_skip rfl rfl rfl rfl ?_ | refine K.d_skipU rfl rfl rfl rfl rfl ?_ | refine K.d_puG rfl rfl rfl (fun _ _ => X.mv) rfl ?_
          refine K.d_stG rfl rfl rfl (K.p_textB hbv7 (Fx.und rfl) (Fx.und rfl) (Fx.und rfl) rfl) rfl ?_
          refine K.d_stGE rfl rfl rfl (K.p_sliceB (k1 := .i64) (k2 := .i64) (p := 0) (q := n6) hb7 (Fx.und rfl) (Fx.sz rfl) rfl rfl ⟨_, rfl, rfl⟩ (Nat.zero_le _) hnl6) rfl ?_
          intro v9 hb9
          rw [List.drop_zero, ← hen6] at hb9
          refine K.d_stG rfl rfl rfl (K.p_textB hb9 (Fx.und rfl) (Fx.und rfl) (Fx.und rfl) rfl) rfl ?_
          first | refine K.d_skip rfl rfl rfl rfl ?_ | refine K.d_skipU rfl rfl rfl rfl rfl ?_ | refine K.d_puG rfl rfl rfl (fun _ _ => X.beql) rfl ?_
          rw [show decide ((⟨(encN r6).toArray⟩ : ByteArray) = ⟨(encN r6).toArray⟩) = true from decide_eq_true rfl]
          refine K.d_pu rfl (fun _ _ => X.pk) rfl ?_
          refine K.d_pu rfl (fun _ _ => X.mv) rfl ?_
          refine K.d_on rfl (fun KK hKK => ?_)
          refine K.s_take rfl rfl ?_
          refine K.l_callV (Fx.cal rfl) rfl (Alive h7) (K.pp [] rfl) rfl rfl ?_
          simp only [List.nil_append]
          refine K.l_nil ?_
          refine X.onE hKK ?_
          refine K.d_pu rfl (fun _ _ => X.pk) rfl ?_
          refine K.d_pu rfl (fun _ _ => X.sg) rfl ?_
          refine K.d_nil ?_
          (repeat' (first | refine X.rq ?_ | (refine X.rc ?_ ?_ <;> intro hc <;> first | (exfalso; omega) | skip)))
          refine K.AT.sel [0, 0] rfl ?_
          refine K.done (by first | exact Or.inl rfl | exact Or.inr rfl) rfl (hle6.trans le7) (H' := []) rfl ⟨rfl, rfl⟩
        · (repeat' (first | refine X.rq ?_ | (refine X.rc ?_ ?_ <;> intro hc <;> first | (exfalso; omega) | skip)))
          refine K.l_callV (Fx.cal rfl) rfl (Alive h6) (K.pp [] rfl) rfl rfl ?_
          simp only [List.nil_append]
          (repeat' (first | refine X.rq ?_ | (refine X.rc ?_ ?_ <;> intro hc <;> first | (exfalso; omega) | skip)))
          refine K.AT.sel [0, 0] rfl ?_
          refine K.done (by first | exact Or.inl rfl | exact Or.inr rfl) rfl hle6 (H' := []) rfl ⟨rfl, rfl⟩
end Go.Proofs.Ytihambjhlhgaeaa.Rc
