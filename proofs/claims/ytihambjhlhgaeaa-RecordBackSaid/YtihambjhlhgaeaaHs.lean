/-
  A record read of bytes, by the document. Conditions: each theorem's own.
-/
import Derived.Test.YtihambjhlhgaeaaHr

namespace Go.Proofs.Ytihambjhlhgaeaa.Rc
open Go Go.K Go.Proofs Go.Proofs.Ytihambjhlhgaeaa Go.Proofs.Ytihambjhlhgaeaa.Pg Go.Proofs.Ytihambjhlhgaeaa.Cc Go.Proofs.Ytihambjhlhgaeaa.Rb
set_option linter.unusedVariables false
set_option linter.unusedSimpArgs false
set_option maxRecDepth 10000

theorem hdN_eq {b : List UInt8} {c d : UInt8} (h0 : b[0]? = some c) (h1 : b[1]? = some d) : hdN b = c.toNat + 256 * d.toNat := by
  match b, h0, h1 with
  | x :: y :: l, h0, h1 =>
    cases h0; cases h1
    show leNum [c, d] = _
    simp [leNum]
theorem take_two {b : List UInt8} (h2 : 2 ≤ b.length) : lebs (hdN b) 2 = b.take 2 := by
  have := lebs_leNum (b.take 2)
  rwa [show (b.take 2).length = 2 by rw [List.length_take]; omega] at this
theorem enc_iff {b : List UInt8} {y : Recd} (h2 : 2 ≤ b.length) (h3 : 3 ≤ hdN b) (hl : hdN b ≤ b.length) : encN y = b.take (hdN b) ↔ bodyN y = (b.take (hdN b)).drop 2 := by
  have ht := take_two h2
  constructor
  · intro he
    rw [← he]
    unfold encN
    rw [List.drop_append_of_le_length (by rw [lebs_length]; omega), List.drop_of_length_le (by rw [lebs_length]; omega), List.nil_append]
  · intro he
    have hlen : (bodyN y).length + 2 = hdN b := by rw [he, List.length_drop, List.length_take]; omega
    unfold encN
    rw [hlen, ht, he]
    rw [show b.take 2 = (b.take (hdN b)).take 2 by rw [List.take_take, Nat.min_eq_left (by omega)], List.take_append_drop]
theorem body_iff {b : List UInt8} {y : Recd} {c : UInt8} {n : Nat} (h3 : 3 ≤ n) (hl : n ≤ b.length) (hc : b[2]? = some c) (hk : 0 ≤ y.kind ∧ y.kind < 256) : bodyN y = (b.take n).drop 2 ↔ y.kind = c.toNat ∧ fieldsN y = (b.take n).drop 3 := by
  have hd : (b.take n).drop 2 = c :: (b.take n).drop 3 := by
    have h2 : 2 < (b.take n).length := by rw [List.length_take]; omega
    rw [List.drop_eq_getElem_cons h2]
    congr 1
    have := List.getElem?_eq_some_iff.1 hc
    obtain ⟨_, e⟩ := this
    rw [List.getElem_take, e]
  have hl1 : lebs y.kind.toNat 1 = [UInt8.ofNat y.kind.toNat] := by simp [lebs, Nat.mod_eq_of_lt (show y.kind.toNat < 256 by omega)]
  rw [hd]
  unfold bodyN
  rw [hl1, List.singleton_append, List.cons.injEq]
  constructor
  · rintro ⟨e1, e2⟩
    refine ⟨?_, e2⟩
    rw [← e1, UInt8.toNat_ofNat', Nat.mod_eq_of_lt (by omega)]
    omega
  · rintro ⟨e1, e2⟩
    refine ⟨?_, e2⟩
    rw [show y.kind.toNat = c.toNat by omega]
    exact UInt8.ofNat_toNat
theorem text_ne {l1 l2 : List UInt8} : ((⟨l1.toArray⟩ : ByteArray) ≠ ⟨l2.toArray⟩) ↔ l1 ≠ l2 := by
  constructor
  · intro h e; exact h (by rw [e])
  · intro h e
    apply h
    have := congrArg (fun s : ByteArray => s.data.toList) e
    simpa using this
set_option maxHeartbeats 4000000 in
theorem RefDecode (h : Base) (v : Value) (b : List UInt8) (hb : BV h v b) (hl : b.length ≤ 140737488355328) :
    Tr Try.prog 19 [v] h [] (DecP b) := by
  obtain ⟨ao, ca, rfl⟩ := hb.len
  have hbig : b.length ≤ big := by unfold big; omega
  have hh := hdN_lt b
  refine K.enter Try.func19 rfl (Nat.le_of_ble_eq_true rfl) (fun F => ?_)
  simp only [List.nil_append]
  (repeat' (first | refine X.rq ?_ | (refine X.rc ?_ ?_ <;> intro hc <;> first | (exfalso; omega) | skip)))
  refine K.l_alloc (Fx.zr rfl) rfl rfl (fun B2 => ?_)
  by_cases h2 : b.length < 2
  · (repeat' (first | refine X.rq ?_ | (refine X.rc ?_ ?_ <;> intro hc <;> first | (exfalso; omega) | skip)))
    refine X.stw ?_
    simp only [List.set_cons_zero, List.set_cons_succ, List.eraseIdx_cons_zero, List.eraseIdx_cons_succ, List.cons_append, List.nil_append]
    (repeat' (first | refine X.rq ?_ | (refine X.rc ?_ ?_ <;> intro hc <;> first | (exfalso; omega) | skip)))
    refine K.doneD (vs := [.agg (cR zR (.slice none 0 0) (.slice none 0 0) (.slice none 0 0) (.slice none 0 0)).toArray, .int .i64 ((0 : Nat) : Int), .int .i64 6]) (by first | exact Or.inl rfl | exact Or.inr rfl) (.cell rfl (Fx.agg rfl) (Fx.sz rfl) (K.cels_own (pre := []) (post := []) 0 rfl rfl) (.tmp rfl (.tmp rfl .nil))) (by first | exact K.Base.le.refl _ | assumption) (D := [_]) (H' := []) rfl ⟨rfl, _, zR, 0, 6, rfl, recC_z, small_z, rfl, .inl ⟨h2, rfl, rfl, rfl⟩⟩
  · have h2' : 2 ≤ b.length := by omega
    obtain ⟨c0, hc0⟩ : ∃ c, b[0]? = some c := ⟨b[0]'(by omega), List.getElem?_eq_getElem (by omega)⟩
    obtain ⟨c1, hc1⟩ : ∃ c, b[1]? = some c := ⟨b[1]'(by omega), List.getElem?_eq_getElem (by omega)⟩
    have hhd := hdN_eq hc0 hc1
    have q0 := c0.toNat_lt
    have q1 := c1.toNat_lt
    (repeat' (first | refine X.rq ?_ | (refine X.rc ?_ ?_ <;> intro hc <;> first | (exfalso; omega) | skip)))
    refine X.draw ([]) [] (.pu 0 (.pu 4 (.st 1 (.st 2 (.pu 3 (.st 5 (.st 6 (.pu 7 (.pu 8 (.pu 9 (.pu 10 .nil))))))))))) ?_
    refine K.d_pu rfl (fun _ _ => X.mv) rfl ?_
    refine K.d_pu rfl (fun _ _ => X.mv) rfl ?_
    refine K.d_stE rfl (K.p_indexB (m := 0) hb (Fx.und rfl) (Fx.sz rfl) rfl rfl (by omega) hc0) rfl ?_
    rintro v3 ⟨b3, o3, rfl, hcel3⟩
    refine K.d_st rfl (K.p_load (Fx.agg rfl) rfl (K.Cel.up hcel3)) rfl ?_
    refine K.d_pu rfl (fun _ _ => X.cv) rfl ?_
    refine K.d_stE rfl (K.p_indexB (m := 1) hb (Fx.und rfl) (Fx.sz rfl) rfl rfl (by omega) hc1) rfl ?_
    rintro v4 ⟨b4, o4, rfl, hcel4⟩
    refine K.d_st rfl (K.p_load (Fx.agg rfl) rfl (K.Cel.up hcel4)) rfl ?_
    refine K.d_pu rfl (fun _ _ => X.cv) rfl ?_
    refine K.d_pu rfl (fun _ _ => X.bmul) rfl ?_
    refine K.d_pu rfl (fun _ _ => X.badd) rfl ?_
    refine K.d_pu rfl (fun _ _ => X.sg) rfl ?_
    refine K.d_nil ?_
    rw [show ((c0.toNat : Int) + 256 * c1.toNat) = ((hdN b : Nat) : Int) by omega]
    obtain ⟨n, hn⟩ : ∃ n, n = hdN b := ⟨_, rfl⟩
    rw [← hn] at hh hhd ⊢
    by_cases h316 : 3 ≤ n ∧ n ≤ 16384
    · by_cases hnl : b.length < n
      · (repeat' (first | refine X.rq ?_ | (refine X.rc ?_ ?_ <;> intro hc <;> first | (exfalso; omega) | skip)))
        refine X.stw ?_
        simp only [List.set_cons_zero, List.set_cons_succ, List.eraseIdx_cons_zero, List.eraseIdx_cons_succ, List.cons_append, List.nil_append]
        (repeat' (first | refine X.rq ?_ | (refine X.rc ?_ ?_ <;> intro hc <;> first | (exfalso; omega) | skip)))
        refine K.doneD (vs := [.agg (cR zR (.slice none 0 0) (.slice none 0 0) (.slice none 0 0) (.slice none 0 0)).toArray, .int .i64 ((0 : Nat) : Int), .int .i64 6]) (by first | exact Or.inl rfl | exact Or.inr rfl) (.cell rfl (Fx.agg rfl) (Fx.sz rfl) (K.cels_own (pre := []) (post := []) 0 rfl rfl) (.tmp rfl (.tmp rfl .nil))) (by first | exact K.Base.le.refl _ | assumption) (D := [_]) (H' := []) rfl ⟨rfl, _, zR, 0, 6, rfl, recC_z, small_z, rfl, .inr (.inr (.inl ⟨h2', by rw [← hn]; exact h316, by rw [← hn]; exact hnl, rfl, rfl, rfl⟩))⟩
      · have hnl' : n ≤ b.length := by omega
        obtain ⟨c2, hc2⟩ : ∃ c, b[2]? = some c := ⟨b[2]'(by omega), List.getElem?_eq_getElem (by omega)⟩
        have q2 := c2.toNat_lt
        have hbody := fun y hk => body_iff (y := y) h316.1 hnl' hc2 hk
        have henc := fun y => enc_iff (y := y) h2' (by rw [← hn]; exact h316.1) (by rw [← hn]; exact hnl')
        rw [← hn] at henc
        (repeat' (first | refine X.rq ?_ | (refine X.rc ?_ ?_ <;> intro hc <;> first | (exfalso; omega) | skip)))
        refine K.s_pureE (K.p_sliceB (k1 := .i64) (k2 := .i64) (p := 3) (q := n) hb (Fx.und rfl) (Fx.sz rfl) rfl ⟨_, rfl, rfl⟩ ⟨_, rfl, rfl⟩ (by omega) hnl') rfl ?_
        intro v5 hb5
        have hbl5 : ((b.take n).drop 3).length ≤ 16390 := by rw [List.length_drop, List.length_take]; omega
        obtain ⟨bd, hbd⟩ : ∃ x, x = (b.take n).drop 3 := ⟨_, rfl⟩
        rw [← hbd] at hb5 hbl5 hbody
        obtain ⟨ao5, ca5, rfl⟩ := hb5.len
        (repeat' (first | refine X.rq ?_ | (refine X.rc ?_ ?_ <;> intro hc <;> first | (exfalso; omega) | skip)))
        refine K.l_box rfl rfl rfl (fun B6 => ?_)
        (repeat' (first | refine X.rq ?_ | (refine X.rc ?_ ?_ <;> intro hc <;> first | (exfalso; omega) | skip)))
        refine K.s_pureE (K.p_indexB (m := 2) hb (Fx.und rfl) (Fx.sz rfl) rfl rfl (by omega) hc2) rfl ?_
        rintro v6 ⟨b6, o6, rfl, hcel6⟩
        refine K.s_pure (K.p_load (Fx.agg rfl) rfl (K.Cel.up hcel6)) rfl ?_
        (repeat' (first | refine X.rq ?_ | (refine X.rc ?_ ?_ <;> intro hc <;> first | (exfalso; omega) | skip)))
        refine K.l_call (Fx.cal rfl) rfl (M_read h B6 (.slice ao5 bd.length ca5) true bd c2.toNat q2 hb5 hbl5) (K.pp [0] rfl) rfl ?_
        rintro u h3 H' le3 ⟨cs, r, sv3, ok3, rem3, rfl, hrc, hsm, hls, hb3, gl3, rfl, fw⟩
        have g3 : rem3.length ≤ big := by unfold big; omega
        have hbb := hb.le le3
        have henr := RefEncode h3 cs r hrc hsm
        have hrc0 := hrc
        have hwx := RecC.wfX hrc
        obtain ⟨hw, ad, ai, al, ay, cd, ci, cl, cy, rfl, _⟩ := hrc.cells
        have hy18 : ∀ y, validR y → 0 ≤ y.kind ∧ y.kind < 256 := fun y hy => by have := (may_okR hy.1).1.1; omega
        have hno : ∀ _ : Unit, (¬ (ok3 = true ∧ rem3 = [] ∧ (encR r).1 = b.take n)) → Dec b zR 0 5 := fun _ hn2 => .inr (.inr (.inr (.inl ⟨h2', by rw [← hn]; exact h316, by rw [← hn]; exact hnl', fun ⟨y, hy, he⟩ => by
          rw [← hn] at he
          obtain ⟨e1, e2⟩ := (hbody y (hy18 y hy)).1 he
          obtain ⟨d1, d2, d3⟩ := fw y ⟨hy, e1, rfl, e2.symm⟩
          subst d1
          exact hn2 ⟨d2, d3, by unfold encR; rw [if_pos hy.1]; exact (henc _).2 he⟩, rfl, rfl, rfl⟩)))
        have hyes : ∀ _ : Unit, ok3 = true → rem3 = [] → (encR r).1 = b.take n → Dec b r n 0 := fun _ o1 o2 o3 => by
          have hm : mayR r = true := by
            cases hm : mayR r with
            | true => rfl
            | false =>
              unfold encR at o3
              rw [hm] at o3
              have := congrArg List.length o3
              rw [List.length_take] at this
              simp at this
              omega
          unfold encR at o3
          rw [if_pos hm] at o3
          exact .inr (.inr (.inr (.inr ⟨h2', by rw [← hn]; exact h316, by rw [← hn]; exact hnl', ⟨hm, hls, hwx⟩, by rw [← hn]; exact (henc r).1 o3, hn, rfl⟩)))
        clear hbody henc hy18 fw hwx hw hhd hn hbd hbl5 hc0 hc1 hc2 hh gl3 q0 q1 q2 h316
        simp only [List.cons_append, List.nil_append]
        (repeat' (first | refine X.rq ?_ | (refine X.rc ?_ ?_ <;> intro hc <;> first | (exfalso; omega) | skip)))
        refine K.l_alloc (Fx.zr rfl) rfl rfl (fun B7 => ?_)
        refine X.stw ?_
        simp only [List.set_cons_zero, List.set_cons_succ, List.eraseIdx_cons_zero, List.eraseIdx_cons_succ, List.cons_append, List.nil_append]
        by_cases hend : ok3 = true ∧ rem3 = []
        · obtain ⟨rfl, rfl⟩ := hend
          (repeat' (first | refine X.rq ?_ | (refine X.rc ?_ ?_ <;> intro hc <;> first | (exfalso; omega) | skip)))
          refine X.draw ([blk B7 31 (cR r (.slice ad r.op.data.length cd) (.slice ai r.images.length ci) (.slice al r.lives.length cl) (.slice ay r.dirty.length cy))]) [] (.pu 0 (.on 1 (.pu 2 (.pu 3 (.pu 7 (.pu 8 (.st 4 (.st 9 (.st 10 (.on 5 (.on 6 (.pu 11 (.pu 12 .nil))))))))))))) ?_
          refine K.d_pu rfl (fun _ _ => X.mv) rfl ?_
          refine K.d_on rfl (fun KK hKK => ?_)
          refine K.l_call (Fx.cal rfl) rfl (M_End h3 B6 sv3 true [] hb3 g3) (K.pp [1] rfl) rfl ?_
          rintro u h' H' - ⟨e, A, rfl, rfl⟩
          obtain rfl := e.symm
          simp only [List.cons_append, List.nil_append]
          refine K.l_nil ?_
          refine X.onE hKK ?_
          refine K.d_pu rfl (fun _ _ => X.bneq) rfl ?_
          refine K.d_pu rfl (fun _ _ => X.mv) rfl ?_
          first | refine K.d_skip rfl rfl rfl rfl ?_ | refine K.d_skipU rfl rfl rfl rfl rfl ?_ | refine K.d_puG rfl rfl rfl (fun _ _ => X.mv) rfl ?_
          first | refine K.d_skip rfl rfl rfl rfl ?_ | refine K.d_skipU rfl rfl rfl rfl rfl ?_ | refine K.d_puG rfl rfl rfl (fun _ _ => X.mv) rfl ?_
          first | refine K.d_skipS rfl rfl rfl rfl ?_ | refine K.d_skipUS rfl rfl rfl rfl rfl ?_ | refine K.d_stG rfl rfl rfl X.ld rfl ?_
          refine K.d_stGE rfl rfl rfl (K.p_sliceB (k1 := .i64) (k2 := .i64) (p := 0) (q := n) hbb (Fx.und rfl) (Fx.sz rfl) rfl rfl ⟨_, rfl, rfl⟩ (Nat.zero_le _) hnl') rfl ?_
          intro v9 hb9
          rw [List.drop_zero] at hb9
          refine K.d_stG rfl rfl rfl (K.p_textB hb9 (Fx.und rfl) (Fx.und rfl) (Fx.und rfl) rfl) rfl ?_
          refine K.d_on rfl (fun KK hKK => ?_)
          refine K.s_take rfl rfl ?_
          refine K.l_call (Fx.cal rfl) rfl henr (K.pp [] rfl) rfl ?_
          rintro u h' H' - ⟨e, a9, c9, rfl, rfl⟩
          obtain rfl := e
          simp only [List.cons_append, List.nil_append]
          refine K.WL.freezeBuf (fun h4 le4 hb4 => ?_)
          refine K.l_nil ?_
          refine X.onE hKK ?_
          refine K.d_on rfl (fun KK hKK => ?_)
          refine K.s_take rfl rfl ?_
          refine K.s_pure (K.p_textB hb4 (Fx.und rfl) (Fx.und rfl) (Fx.und rfl) rfl) rfl ?_
          refine K.l_nil ?_
          refine X.onE hKK ?_
          first | refine K.d_skip rfl rfl rfl rfl ?_ | refine K.d_skipU rfl rfl rfl rfl rfl ?_ | refine K.d_puG rfl rfl rfl (fun _ _ => X.bneq) rfl ?_
          refine K.d_pu rfl (fun _ _ => X.pk) rfl ?_
          refine K.d_nil ?_
          (repeat' (first | refine X.rq ?_ | (refine X.rc ?_ ?_ <;> intro hc <;> first | (exfalso; omega) | skip)))
          · have hdec := hno () (fun hc2 => (text_ne.1 hc) hc2.2.2)
            refine K.WL.perm (K.pp [2] rfl) ?_
            simp only [List.set_cons_zero, List.set_cons_succ, List.eraseIdx_cons_zero, List.eraseIdx_cons_succ, List.cons_append, List.nil_append]
            refine X.stw ?_
            simp only [List.set_cons_zero, List.set_cons_succ, List.eraseIdx_cons_zero, List.eraseIdx_cons_succ, List.cons_append, List.nil_append]
            (repeat' (first | refine X.rq ?_ | (refine X.rc ?_ ?_ <;> intro hc <;> first | (exfalso; omega) | skip)))
            refine K.doneD (vs := [.agg (cR zR (.slice none 0 0) (.slice none 0 0) (.slice none 0 0) (.slice none 0 0)).toArray, .int .i64 ((0 : Nat) : Int), .int .i64 5]) (by first | exact Or.inl rfl | exact Or.inr rfl) (.cell rfl (Fx.agg rfl) (Fx.sz rfl) (K.cels_own (pre := []) (post := []) 0 rfl rfl) (.tmp rfl (.tmp rfl .nil))) (le3.trans le4) (D := [_, _, _]) (H' := []) rfl ⟨rfl, _, zR, 0, 5, rfl, recC_z, small_z, rfl, hdec⟩
          · have hdec := hyes () rfl rfl (Classical.byContradiction fun hne => hc (text_ne.2 hne))
            refine K.WL.perm (K.pp [2] rfl) ?_
            simp only [List.set_cons_zero, List.set_cons_succ, List.eraseIdx_cons_zero, List.eraseIdx_cons_succ, List.cons_append, List.nil_append]
            refine X.stw ?_
            simp only [List.set_cons_zero, List.set_cons_succ, List.eraseIdx_cons_zero, List.eraseIdx_cons_succ, List.cons_append, List.nil_append]
            (repeat' (first | refine X.rq ?_ | (refine X.rc ?_ ?_ <;> intro hc <;> first | (exfalso; omega) | skip)))
            refine K.doneD (vs := [.agg (cR r (.slice ad r.op.data.length cd) (.slice ai r.images.length ci) (.slice al r.lives.length cl) (.slice ay r.dirty.length cy)).toArray, .int .i64 n, .int .i64 0]) (by first | exact Or.inl rfl | exact Or.inr rfl) (.cell rfl (Fx.agg rfl) (Fx.sz rfl) (K.cels_own (pre := []) (post := []) 0 rfl rfl) (.tmp rfl (.tmp rfl .nil))) (le3.trans le4) (D := [_, _, _]) (H' := []) rfl ⟨rfl, _, r, n, 0, rfl, RecC.le le4 hrc0, hsm, hls, hdec⟩
        · have hdec := hno () (fun hc2 => hend ⟨hc2.1, hc2.2.1⟩)
          have hf : (ok3 && decide (rem3 = [])) = false := by
            cases ok3 with
            | false => rfl
            | true => exact decide_eq_false (fun e => hend ⟨rfl, e⟩)
          (repeat' (first | refine X.rq ?_ | (refine X.rc ?_ ?_ <;> intro hc <;> first | (exfalso; omega) | skip)))
          refine X.draw ([blk B7 31 (cR r (.slice ad r.op.data.length cd) (.slice ai r.images.length ci) (.slice al r.lives.length cl) (.slice ay r.dirty.length cy))]) [] (.pu 0 (.on 1 (.pu 2 (.pu 3 (.pu 7 (.pu 8 (.st 4 (.st 9 (.st 10 (.on 5 (.pu 6 (.pu 11 (.pu 12 .nil))))))))))))) ?_
          refine K.d_pu rfl (fun _ _ => X.mv) rfl ?_
          refine K.d_on rfl (fun KK hKK => ?_)
          refine K.l_call (Fx.cal rfl) rfl (M_End h3 B6 sv3 ok3 rem3 hb3 g3) (K.pp [1] rfl) rfl ?_
          rintro u h' H' - ⟨e, A, rfl, rfl⟩
          obtain rfl := e.symm
          simp only [List.cons_append, List.nil_append, hf]
          refine K.l_nil ?_
          refine X.onE hKK ?_
          refine K.d_pu rfl (fun _ _ => X.bneq) rfl ?_
          refine K.d_pu rfl (fun _ _ => X.mv) rfl ?_
          first | refine K.d_skip rfl rfl rfl rfl ?_ | refine K.d_skipU rfl rfl rfl rfl rfl ?_ | refine K.d_puG rfl rfl rfl (fun _ _ => X.mv) rfl ?_
          first | refine K.d_skip rfl rfl rfl rfl ?_ | refine K.d_skipU rfl rfl rfl rfl rfl ?_ | refine K.d_puG rfl rfl rfl (fun _ _ => X.mv) rfl ?_
          first | refine K.d_skipS rfl rfl rfl rfl ?_ | refine K.d_skipUS rfl rfl rfl rfl rfl ?_ | refine K.d_stG rfl rfl rfl X.ld rfl ?_
          first | refine K.d_skipS rfl rfl rfl rfl ?_ | refine K.d_skipUS rfl rfl rfl rfl rfl ?_ | refine K.d_stG rfl rfl rfl X.sl rfl ?_
          first | refine K.d_skipS rfl rfl rfl rfl ?_ | refine K.d_skipUS rfl rfl rfl rfl rfl ?_ | refine K.d_stG rfl rfl rfl X.cv rfl ?_
          refine K.d_on rfl (fun KK hKK => ?_)
          first | refine K.s_skip rfl rfl rfl ?_ | refine K.s_skipU rfl rfl rfl rfl ?_
          refine K.l_nil ?_
          refine X.onE hKK ?_
          first | refine K.d_skip rfl rfl rfl rfl ?_ | refine K.d_skipU rfl rfl rfl rfl rfl ?_ | refine K.d_puG rfl rfl rfl (fun _ _ => X.cv) rfl ?_
          first | refine K.d_skip rfl rfl rfl rfl ?_ | refine K.d_skipU rfl rfl rfl rfl rfl ?_ | refine K.d_puG rfl rfl rfl (fun _ _ => X.bneq) rfl ?_
          refine K.d_pu rfl (fun _ _ => X.pk) rfl ?_
          refine K.d_nil ?_
          (repeat' (first | refine X.rq ?_ | (refine X.rc ?_ ?_ <;> intro hc <;> first | (exfalso; omega) | skip)))
          refine K.WL.perm (K.pp [2] rfl) ?_
          simp only [List.set_cons_zero, List.set_cons_succ, List.eraseIdx_cons_zero, List.eraseIdx_cons_succ, List.cons_append, List.nil_append]
          refine X.stw ?_
          simp only [List.set_cons_zero, List.set_cons_succ, List.eraseIdx_cons_zero, List.eraseIdx_cons_succ, List.cons_append, List.nil_append]
          (repeat' (first | refine X.rq ?_ | (refine X.rc ?_ ?_ <;> intro hc <;> first | (exfalso; omega) | skip)))
          refine K.doneD (vs := [.agg (cR zR (.slice none 0 0) (.slice none 0 0) (.slice none 0 0) (.slice none 0 0)).toArray, .int .i64 ((0 : Nat) : Int), .int .i64 5]) (by first | exact Or.inl rfl | exact Or.inr rfl) (.cell rfl (Fx.agg rfl) (Fx.sz rfl) (K.cels_own (pre := []) (post := []) 0 rfl rfl) (.tmp rfl (.tmp rfl .nil))) le3 (D := [_, _, _]) (H' := []) rfl ⟨rfl, _, zR, 0, 5, rfl, recC_z, small_z, rfl, hdec⟩
    · have hdec : Dec b zR 0 5 := .inr (.inl ⟨h2', by rw [← hn]; exact h316, rfl, rfl, rfl⟩)
      (repeat' (first | refine X.rq ?_ | (refine X.rc ?_ ?_ <;> intro hc <;> first | (exfalso; omega) | skip)))
      all_goals
        refine X.stw ?_
        simp only [List.set_cons_zero, List.set_cons_succ, List.eraseIdx_cons_zero, List.eraseIdx_cons_succ, List.cons_append, List.nil_append]
        (repeat' (first | refine X.rq ?_ | (refine X.rc ?_ ?_ <;> intro hc <;> first | (exfalso; omega) | skip)))
        refine K.doneD (vs := [.agg (cR zR (.slice none 0 0) (.slice none 0 0) (.slice none 0 0) (.slice none 0 0)).toArray, .int .i64 ((0 : Nat) : Int), .int .i64 5]) (by first | exact Or.inl rfl | exact Or.inr rfl) (.cell rfl (Fx.agg rfl) (Fx.sz rfl) (K.cels_own (pre := []) (post := []) 0 rfl rfl) (.tmp rfl (.tmp rfl .nil))) (by first | exact K.Base.le.refl _ | assumption) (D := [_]) (H' := []) rfl ⟨rfl, _, zR, 0, 5, rfl, recC_z, small_z, rfl, hdec⟩
end Go.Proofs.Ytihambjhlhgaeaa.Rc
