/-
  The law of records that are unlike, walked. Conditions: each theorem's own.
-/
import Derived.Test.YtihambjhlhgaeaaHw
import Derived.Test.YtihambjhlhgaeaaHx

namespace Go.Proofs.Ytihambjhlhgaeaa.Rc
open Go Go.K Go.Proofs Go.Proofs.Ytihambjhlhgaeaa Go.Proofs.Ytihambjhlhgaeaa.Pg Go.Proofs.Ytihambjhlhgaeaa.Cc Go.Proofs.Ytihambjhlhgaeaa.Rb
set_option linter.unusedVariables false
set_option linter.unusedSimpArgs false
set_option maxRecDepth 10000

theorem encN_body {r s : Recd} (h : encN r = encN s) : bodyN r = bodyN s := by
  have h2 := congrArg (List.drop 2) h
  unfold encN at h2
  rwa [List.drop_append_of_le_length (by rw [lebs_length]; omega), List.drop_append_of_le_length (by rw [lebs_length]; omega), List.drop_of_length_le (by rw [lebs_length]; omega), List.drop_of_length_le (by rw [lebs_length]; omega)] at h2
theorem enc_same {r s : Recd} (h1 : mayR r = true) (w1 : wfX r) (h2 : mayR s = true) (w2 : wfX s) : encN r = encN s ↔ z0 r = z0 s := by
  constructor
  · intro e
    exact body_inj h1 w1 h2 w2 (encN_body e)
  · intro e
    have : bodyN r = bodyN s := by rw [← body_lsn r, ← body_lsn s, e]
    unfold encN
    rw [this]
theorem encR_yes {r : Recd} (h : mayR r = true) : encR r = (encN r, 0) := by unfold encR; rw [if_pos h]
theorem encR_no {r : Recd} (h : mayR r = false) : encR r = ([], 5) := by unfold encR; rw [if_neg (by rw [h]; decide)]
theorem sizeR_yes {r : Recd} (h : mayR r = true) : sizeR r = (encN r).length := by
  unfold sizeR encN
  rw [if_pos h, List.length_append, lebs_length]; omega
theorem sizeR_no {r : Recd} (h : mayR r = false) : sizeR r = 0 := by unfold sizeR; rw [if_neg (by rw [h]; decide)]
theorem encN_len {r : Recd} (h : mayR r = true) : 3 ≤ (encN r).length ∧ (encN r).length ≤ 16384 := by
  have := (may_okR h).2
  unfold encN
  rw [List.length_append, lebs_length]
  refine ⟨?_, by omega⟩
  unfold bodyN
  rw [List.length_append, lebs_length]
  omega
set_option maxHeartbeats 4000000 in
theorem RecordUnlikeW (h : Base) (cs : List Value) (r : Recd) (ds : List Value) (s : Recd) (hx : RecC h cs r) (hy : RecC h ds s) : Tr Try.prog 7 [.agg cs.toArray, .agg ds.toArray] h [] (fun u h' H' => u = .bool true ∧ H' = []) := by
  have hx0 := hx
  have hy0 := hy
  have wx := hx.wfX
  have wy := hy.wfX
  obtain ⟨_, ad, ai, al, ay, cd, ci, cl, cy, rfl, _⟩ := hx.cells
  obtain ⟨_, bd, bi, bl, by_, dd, di, dl, dy, rfl, _⟩ := hy.cells
  have hl1 := RLong h _ r hx0
  have hl2 := RLong h _ s hy0
  clear hx hy
  refine K.enter Try.func7 rfl (Nat.le_of_ble_eq_true rfl) (fun F => ?_)
  simp only [List.nil_append]
  (repeat' (first | refine X.rq ?_ | (refine X.rc ?_ ?_ <;> intro hc <;> first | (exfalso; omega) | skip)))
  refine K.l_box rfl rfl rfl (fun B1 => ?_)
  refine K.l_box rfl rfl rfl (fun B2 => ?_)
  (repeat' (first | refine X.rq ?_ | (refine X.rc ?_ ?_ <;> intro hc <;> first | (exfalso; omega) | skip)))
  refine K.l_call (Fx.cal rfl) rfl hl1 (K.pp [] rfl) rfl ?_
  rintro u h' H' - ⟨e, rfl, b1, rfl, hb1⟩
  obtain rfl := e.symm
  simp only [List.nil_append]
  cases b1 with
  | true =>
    (repeat' (first | refine X.rq ?_ | (refine X.rc ?_ ?_ <;> intro hc <;> first | (exfalso; omega) | skip)))
    refine K.l_callV (Fx.cal rfl) rfl (Alive h) (K.pp [] rfl) rfl rfl ?_
    simp only [List.nil_append]
    (repeat' (first | refine X.rq ?_ | (refine X.rc ?_ ?_ <;> intro hc <;> first | (exfalso; omega) | skip)))
    refine K.AT.sel [0, 0] rfl ?_
    refine K.done (by first | exact Or.inl rfl | exact Or.inr rfl) rfl (by first | exact K.Base.le.refl _ | assumption) (H' := []) rfl ⟨rfl, rfl⟩
  | false =>
    have hs1 := hb1 rfl
    (repeat' (first | refine X.rq ?_ | (refine X.rc ?_ ?_ <;> intro hc <;> first | (exfalso; omega) | skip)))
    refine K.l_call (Fx.cal rfl) rfl hl2 (K.pp [] rfl) rfl ?_
    rintro u h' H' - ⟨e, rfl, b2, rfl, hb2⟩
    obtain rfl := e.symm
    simp only [List.nil_append]
    cases b2 with
    | true =>
      (repeat' (first | refine X.rq ?_ | (refine X.rc ?_ ?_ <;> intro hc <;> first | (exfalso; omega) | skip)))
      refine K.l_callV (Fx.cal rfl) rfl (Alive h) (K.pp [] rfl) rfl rfl ?_
      simp only [List.nil_append]
      (repeat' (first | refine X.rq ?_ | (refine X.rc ?_ ?_ <;> intro hc <;> first | (exfalso; omega) | skip)))
      refine K.AT.sel [0, 0] rfl ?_
      refine K.done (by first | exact Or.inl rfl | exact Or.inr rfl) rfl (by first | exact K.Base.le.refl _ | assumption) (H' := []) rfl ⟨rfl, rfl⟩
    | false =>
      have hs2 := hb2 rfl
      have he1 := RecEncode h _ r hx0 hs1.small
      (repeat' (first | refine X.rq ?_ | (refine X.rc ?_ ?_ <;> intro hc <;> first | (exfalso; omega) | skip)))
      refine K.l_call (Fx.cal rfl) rfl he1 (K.pp [] rfl) rfl ?_
      rintro u h' H' - ⟨e, a1, c1, rfl, rfl⟩
      obtain rfl := e.symm
      simp only [List.cons_append, List.nil_append]
      refine K.WL.freezeBuf (fun h1 le1 hbv1 => ?_)
      have he2 := RecEncode h1 _ s (hy0.le le1) hs2.small
      (repeat' (first | refine X.rq ?_ | (refine X.rc ?_ ?_ <;> intro hc <;> first | (exfalso; omega) | skip)))
      refine K.l_call (Fx.cal rfl) rfl he2 (K.pp [] rfl) rfl ?_
      rintro u h' H' - ⟨e, a2, c2, rfl, rfl⟩
      obtain rfl := e.symm
      simp only [List.cons_append, List.nil_append]
      refine K.WL.freezeBuf (fun h2 le2 hbv2 => ?_)
      have hbv1 := hbv1.le le2
      have hx2 := (hx0.le le1).le le2
      have hy2 := (hy0.le le1).le le2
      have hle := le1.trans le2
      clear he1 he2 hl1 hl2
      cases hm1 : mayR r with
      | false =>
        rw [encR_no hm1] at hbv1 ⊢
        cases hm2 : mayR s with
        | false =>
          rw [encR_no hm2] at hbv2 ⊢
          (repeat' (first | refine X.rq ?_ | (refine X.rc ?_ ?_ <;> intro hc <;> first | (exfalso; omega) | skip)))
          refine K.l_callV (Fx.cal rfl) rfl (Alive h2) (K.pp [] rfl) rfl rfl ?_
          simp only [List.nil_append]
          (repeat' (first | refine X.rq ?_ | (refine X.rc ?_ ?_ <;> intro hc <;> first | (exfalso; omega) | skip)))
          refine K.AT.sel [0, 0] rfl ?_
          refine K.done (by first | exact Or.inl rfl | exact Or.inr rfl) rfl hle (H' := []) rfl ⟨rfl, rfl⟩
        | true =>
          rw [encR_yes hm2] at hbv2 ⊢
          (repeat' (first | refine X.rq ?_ | (refine X.rc ?_ ?_ <;> intro hc <;> first | (exfalso; omega) | skip)))
          refine K.l_callV (Fx.cal rfl) rfl (Alive h2) (K.pp [] rfl) rfl rfl ?_
          simp only [List.nil_append]
          (repeat' (first | refine X.rq ?_ | (refine X.rc ?_ ?_ <;> intro hc <;> first | (exfalso; omega) | skip)))
          refine K.AT.sel [0, 0] rfl ?_
          refine K.done (by first | exact Or.inl rfl | exact Or.inr rfl) rfl hle (H' := []) rfl ⟨rfl, rfl⟩
      | true =>
        rw [encR_yes hm1] at hbv1 ⊢
        cases hm2 : mayR s with
        | false =>
          rw [encR_no hm2] at hbv2 ⊢
          (repeat' (first | refine X.rq ?_ | (refine X.rc ?_ ?_ <;> intro hc <;> first | (exfalso; omega) | skip)))
          refine K.l_callV (Fx.cal rfl) rfl (Alive h2) (K.pp [] rfl) rfl rfl ?_
          simp only [List.nil_append]
          (repeat' (first | refine X.rq ?_ | (refine X.rc ?_ ?_ <;> intro hc <;> first | (exfalso; omega) | skip)))
          refine K.AT.sel [0, 0] rfl ?_
          refine K.done (by first | exact Or.inl rfl | exact Or.inr rfl) rfl hle (H' := []) rfl ⟨rfl, rfl⟩
        | true =>
          rw [encR_yes hm2] at hbv2 ⊢
          have hdec : decide (z0 r = z0 s) = decide ((⟨(encN r).toArray⟩ : ByteArray) = ⟨(encN s).toArray⟩) := by
            rw [Pg.text_eq, decide_eq_decide]
            exact (enc_same hm1 wx hm2 wy).symm
          have hsame := SameR h2 _ _ r s hx2 hy2
          rw [hdec] at hsame
          dsimp only at hbv1 hbv2
          (repeat' (first | refine X.rq ?_ | (refine X.rc ?_ ?_ <;> intro hc <;> first | (exfalso; omega) | skip)))
          refine X.draw ([blk B1 31 (cR r (.slice ad r.op.data.length cd) (.slice ai r.images.length ci) (.slice al r.lives.length cl) (.slice ay r.dirty.length cy)), blk B2 31 (cR s (.slice bd s.op.data.length dd) (.slice bi s.images.length di) (.slice bl s.lives.length dl) (.slice by_ s.dirty.length dy))]) [] (.pu 0 (.pu 2 (.st 1 (.st 3 (.pu 4 (.st 5 (.st 6 (.on 7 (.pu 8 (.pu 9 (.on 10 (.pu 11 (.pu 12 .nil))))))))))))) ?_
          refine K.d_pu rfl (fun _ _ => X.mv) rfl ?_
          refine K.d_pu rfl (fun _ _ => X.mv) rfl ?_
          refine K.d_st rfl (K.p_textB hbv1 (Fx.und rfl) (Fx.und rfl) (Fx.und rfl) rfl) rfl ?_
          refine K.d_st rfl (K.p_textB hbv2 (Fx.und rfl) (Fx.und rfl) (Fx.und rfl) rfl) rfl ?_
          refine K.d_pu rfl (fun _ _ => X.beql) rfl ?_
          refine K.d_st rfl X.ld rfl ?_
          refine K.d_st rfl X.ld rfl ?_
          refine K.d_on rfl (fun KK hKK => ?_)
          refine K.l_callV (Fx.cal rfl) rfl hsame (K.pp [] rfl) rfl rfl ?_
          simp only [List.nil_append]
          refine K.l_nil ?_
          refine X.onE hKK ?_
          refine K.d_pu rfl (fun _ _ => X.beql) rfl ?_
          rw [beq_self_eq_true]
          refine K.d_pu rfl (fun _ _ => X.mv) rfl ?_
          refine K.d_on rfl (fun KK hKK => ?_)
          refine K.s_take rfl rfl ?_
          refine K.l_callV (Fx.cal rfl) rfl (Alive h2) (K.pp [] rfl) rfl rfl ?_
          simp only [List.nil_append]
          refine K.l_nil ?_
          refine X.onE hKK ?_
          refine K.d_pu rfl (fun _ _ => X.pk) rfl ?_
          refine K.d_pu rfl (fun _ _ => X.sg) rfl ?_
          refine K.d_nil ?_
          (repeat' (first | refine X.rq ?_ | (refine X.rc ?_ ?_ <;> intro hc <;> first | (exfalso; omega) | skip)))
          refine K.AT.sel [0, 0] rfl ?_
          refine K.done (by first | exact Or.inl rfl | exact Or.inr rfl) rfl hle (H' := []) rfl ⟨rfl, rfl⟩
end Go.Proofs.Ytihambjhlhgaeaa.Rc
