/-
 A record read of bytes, by the code. Conditions: each theorem's own.
-/
import Derived.Test.YtijbhgiigddjdaaGreatPC35
set_option linter.unusedVariables false
set_option linter.unusedSimpArgs false
set_option maxRecDepth 10000
set_option maxHeartbeats 16000000
namespace Go.Proofs.YtijbhgiigddjdaaGreat.Rc
open Go.K Pg Cc Rb

def zR : Recd := ⟨0, 0, 0, 0, 0, 0, 0, zO, [], [], [], 0⟩
def hdN (b : List UInt8) : Nat := leNum (b.take 2)
theorem hdN_lt (b : List UInt8) : hdN b < 65536 := by
 have h := leNum_lt (b.take 2)
 have h2 : (b.take 2).length ≤ 2 := by rw [List.length_take]; omega
 have : 256 ^ (b.take 2).length ≤ 256 ^ 2 := Nat.pow_le_pow_right (by decide) h2
 unfold hdN; omega
def Dec (b : List UInt8) (r : Recd) (n : Nat) (e : Int) : Prop :=
 (b.length < 2 ∧ r = zR ∧ n = 0 ∧ e = 6) ∨
 (2 ≤ b.length ∧ ¬ (3 ≤ hdN b ∧ hdN b ≤ 16384) ∧ r = zR ∧ n = 0 ∧ e = 5) ∨
 (2 ≤ b.length ∧ (3 ≤ hdN b ∧ hdN b ≤ 16384) ∧ b.length < hdN b ∧ r = zR ∧ n = 0 ∧ e = 6) ∨
 (2 ≤ b.length ∧ (3 ≤ hdN b ∧ hdN b ≤ 16384) ∧ hdN b ≤ b.length ∧ (¬ ∃ y, validR y ∧ bodyN y = (b.take (hdN b)).drop 2) ∧ r = zR ∧ n = 0 ∧ e = 5) ∨
 (2 ≤ b.length ∧ (3 ≤ hdN b ∧ hdN b ≤ 16384) ∧ hdN b ≤ b.length ∧ validR r ∧ bodyN r = (b.take (hdN b)).drop 2 ∧ n = hdN b ∧ e = 0)
def DecP (b : List UInt8) (u : Value) (h' : Base) (H' : List Asrt) : Prop := H' = [] ∧ ∃ cs r n e, u = .tuple #[.agg cs.toArray, .int .i64 (n : Nat), .int .i64 e] ∧ RecC h' cs r ∧ smallR r ∧ r.lsn = 0 ∧ Dec b r n e
def DecF (h : Base) (b : List UInt8) (u : Value) (h' : Base) (H' : List Asrt) : Prop := H' = [] ∧ ∃ cs r n e, u = .tuple #[.agg cs.toArray, .int .i64 (n : Nat), .int .i64 e] ∧ RecF h h' cs r ∧ smallR r ∧ r.lsn = 0 ∧ Dec b r n e
theorem recC_z {h : Base} : RecC h (cR zR (.slice none 0 0) (.slice none 0 0) (.slice none 0 0) (.slice none 0 0)) zR :=
 recC_of (wfR_mk (k := 0) (by decide) (by decide) (by decide) (by decide) (by decide) (by decide) wf_zO (by decide) (Nat.zero_le _) (Nat.zero_le _) (Nat.zero_le _) (fun x hx => by cases hx) (fun x hx => by cases hx)) BV.nil ImgsV.nil SL.nil SL.nil
theorem small_z : smallR zR := ⟨Nat.zero_le _, Nat.zero_le _, Nat.zero_le _, Nat.zero_le _⟩
theorem EqBytes (h : Base) (v1 v2 : Value) (l1 l2 : List UInt8) (h1 : BV h v1 l1) (h2 : BV h v2 l2) (hl : l1.length ≤ 9223372036854775807) (hl2 : l2.length ≤ 9223372036854775807) :
  TrV Tryz.prog 132 [v1, v2] h [] (.bool (decide (l1 = l2))) [] := by
 obtain ⟨ao, ca, rfl⟩ := h1.len
 obtain ⟨ao2, ca2, rfl⟩ := h2.len
 refine K.en Tryz.func132 fun F => ?_
 simp only [List.nil_append]
 by_cases hll : l1.length = l2.length
 ·(repeat' first | refine X.rq ?_ | refine X.rc ?_ ?_ <;> intro hc <;> try omega)
  refine K.c_loop (σ := Nat) (fun j => [(0, .slice ao l1.length ca), (1, .slice ao2 l2.length ca2), (12, .int .i64 l1.length), (13, .int .i64 j)]) (fun _ => h) (fun _ => F) (fun j => j ≤ l1.length ∧ l1.take j = l2.take j) (fun j => l1.length - j) 0 ⟨Nat.zero_le _, by simp⟩ (by repeat (first | exact K.Sub.nil _ | refine K.Sub.cons rfl ?_)) rfl rfl ?_
  rintro j ⟨hj, he⟩ KL hKL
  by_cases hjl : j < l1.length
  ·have hc1 : l1[((j : Nat) : Int).toNat]? = some l1[j] := by rw [Int.toNat_natCast]; exact List.getElem?_eq_getElem hjl
   have hc2 : l2[((j : Nat) : Int).toNat]? = some (l2[j]'(by omega)) := by rw [Int.toNat_natCast]; exact List.getElem?_eq_getElem (by omega)
   have ht1 : l1.take (j + 1) = l1.take j ++ [l1[j]] := List.take_succ_eq_append_getElem hjl
   have ht2 : l2.take (j + 1) = l2.take j ++ [l2[j]'(by omega)] := List.take_succ_eq_append_getElem (by omega)
   have hne : l1[j] ≠ l2[j]'(by omega) → l1 ≠ l2 := fun hn e => hn (by subst e; rfl)
   generalize l1[j] = x at hc1 ht1 hne
   generalize l2[j]'(by omega) = y at hc2 ht2 hne
   have hxy : ((x.toNat : Int) ≠ y.toNat) ↔ x ≠ y := ⟨fun h e => h (by rw [e]), fun h e => h (UInt8.toNat_inj.1 (by omega))⟩
   (repeat' first | refine X.rq ?_ | refine X.rc ?_ ?_ <;> intro hc <;> try omega)
   refine X.draw ([]) [] (.pu 0 (.pu 1 (.pu 4 (.pu 5 (.st 2 (.st 3 (.st 6 (.st 7 (.pu 8 .nil))))))))) ?_
   refine X.u_mv ?_
   refine X.u_mv ?_
   refine X.u_mv ?_
   refine X.u_mv ?_
   refine K.d_stE rfl (K.p_indexB h1 (Fx.und rfl) (Fx.sz rfl) rfl rfl (by omega) hc1) rfl ?_
   rintro v3 ⟨b3, o3, rfl, hcel3⟩
   refine K.d_st rfl (K.p_load (Fx.agg rfl) rfl (K.Cel.up hcel3)) rfl ?_
   refine K.d_stE rfl (K.p_indexB h2 (Fx.und rfl) (Fx.sz rfl) rfl rfl (by omega) hc2) rfl ?_
   rintro v4 ⟨b4, o4, rfl, hcel4⟩
   refine K.d_st rfl (K.p_load (Fx.agg rfl) rfl (K.Cel.up hcel4)) rfl ?_
   refine X.u_bneq ?_
   refine K.d_nil ?_
   by_cases hx : x = y
   ·subst hx
    (repeat' first | refine X.rq ?_ | refine X.rc ?_ ?_ <;> intro hc <;> try omega)
    refine K.a_round hKL (j + 1) ⟨by omega, by rw [ht1, ht2, he]⟩ (by repeat (first | exact K.Sub.nil _ | refine K.Sub.cons rfl ?_)) rfl rfl (by omega)
   ·have hx2 := hxy.2 hx
    (repeat' first | refine X.rq ?_ | refine X.rc ?_ ?_ <;> intro hc <;> try omega)
    refine K.dl rfl (H' := []) rfl ⟨?_, rfl, rfl⟩
    rw [decide_eq_false (hne hx)]; rfl
  ·obtain rfl : j = l1.length := by omega
   rw [List.take_length, hll, List.take_length] at he
   (repeat' first | refine X.rq ?_ | refine X.rc ?_ ?_ <;> intro hc <;> try omega)
   refine K.dl rfl (H' := []) rfl ⟨?_, rfl, rfl⟩
   rw [decide_eq_true he]; rfl
 ·have hne : l1 ≠ l2 := fun e => hll (by rw [e])
  (repeat' first | refine X.rq ?_ | refine X.rc ?_ ?_ <;> intro hc <;> try omega)
  refine K.dl rfl (H' := []) rfl ⟨?_, rfl, rfl⟩
  rw [decide_eq_false hne]; rfl
theorem recF_z {h0 h : Base} : RecF h0 h (cR zR (.slice none 0 0) (.slice none 0 0) (.slice none 0 0) (.slice none 0 0)) zR := by
 have := recC_z (h := h)
 exact recF_of (r := zR) this.1 BF.nil ImgsF.nil SF.nil SF.nil
theorem RecDecodeF (h : Base) (v : Value) (b : List UInt8) (hb : BV h v b) (hl : b.length ≤ 140737488355328) :
  Tr Tryz.prog 95 [v] h [] (DecF h b) := by
 obtain ⟨ao, ca, rfl⟩ := hb.len
 have hbig : b.length ≤ big := by unfold big; omega
 have hh := hdN_lt b
 refine K.en Tryz.func95 fun F => ?_
 simp only [List.nil_append]
 (repeat' first | refine X.rq ?_ | refine X.rc ?_ ?_ <;> intro hc <;> try omega)
 refine K.l_alloc (Fx.zr rfl) rfl rfl (fun B2 => ?_)
 by_cases h2 : b.length < 2
 ·(repeat' first | refine X.rq ?_ | refine X.rc ?_ ?_ <;> intro hc <;> try omega)
  refine X.stw ?_
  simp only [Go.K.nmz]
  (repeat' first | refine X.rq ?_ | refine X.rc ?_ ?_ <;> intro hc <;> try omega)
  skip
  refine K.doneD (vs := [.agg (cR zR (.slice none 0 0) (.slice none 0 0) (.slice none 0 0) (.slice none 0 0)).toArray, .int .i64 ((0 : Nat) : Int), .int .i64 6]) (by first | exact Or.inl rfl | exact Or.inr rfl) (.cell rfl (Fx.agg rfl) (Fx.sz rfl) (K.cels_own (pre := []) (post := []) 0 rfl rfl) (.tmp rfl (.tmp rfl .nil))) (by first | exact K.Base.le.refl _ | assumption) (D := [_]) (H' := []) rfl ⟨rfl, _, zR, 0, 6, rfl, recF_z, small_z, rfl, .inl ⟨h2, rfl, rfl, rfl⟩⟩
 ·have h2' : 2 ≤ b.length := by omega
  (repeat' first | refine X.rq ?_ | refine X.rc ?_ ?_ <;> intro hc <;> try omega)
  refine K.s_pureE (K.p_sliceB (k1 := .i64) (k2 := .i64) (p := 0) (q := 2) hb (Fx.und rfl) (Fx.sz rfl) rfl rfl ⟨_, rfl, rfl⟩ (by omega) h2') rfl ?_
  intro v3 hb3
  rw [List.drop_zero] at hb3
  have hl3 : (b.take 2).length = 2 := by rw [List.length_take]; omega
  refine K.l_call (Fx.cal rfl) rfl (NewReader h _ (b.take 2) [] hb3.src (by unfold big; omega)) (K.pp [] rfl) rfl ?_
  rintro u h1 H' le1 ⟨p1, sv1, rfl, hd1, rfl⟩
  simp only [Go.K.cna]
  skip
  refine K.l_call (Fx.cal rfl) rfl (N_U16 h1 p1 (true, sv1, false) true (b.take 2) hd1 (by unfold big; omega)) (K.pp [0] rfl) rfl ?_
  rintro u h' H' - ⟨e, q4, ok4, rem4, rfl, hr4, rfl⟩
  obtain rfl := e.symm
  simp only [Go.K.cna]
  have hgn : getN true 2 (b.take 2) = hdN b := by
   unfold getN hdN
   rw [if_pos ⟨rfl, by omega⟩, List.take_take, Nat.min_self]
  rw [hgn]
  obtain ⟨n, hn⟩ : ∃ n, n = hdN b := ⟨_, rfl⟩
  rw [← hn] at hh ⊢
  have hb1 := hb.le le1
  by_cases h316 : 3 ≤ n ∧ n ≤ 16384
  ·by_cases hnl : b.length < n
   ·(repeat' first | refine X.rq ?_ | refine X.rc ?_ ?_ <;> intro hc <;> try omega)
    refine K.WL.perm (K.pp [1] rfl) ?_
    simp only [Go.K.nmz]
    refine X.stw ?_
    simp only [Go.K.nmz]
    (repeat' first | refine X.rq ?_ | refine X.rc ?_ ?_ <;> intro hc <;> try omega)
    refine K.doneD (vs := [.agg (cR zR (.slice none 0 0) (.slice none 0 0) (.slice none 0 0) (.slice none 0 0)).toArray, .int .i64 ((0 : Nat) : Int), .int .i64 6]) (by first | exact Or.inl rfl | exact Or.inr rfl) (.cell rfl (Fx.agg rfl) (Fx.sz rfl) (K.cels_own (pre := []) (post := []) 0 rfl rfl) (.tmp rfl (.tmp rfl .nil))) le1 (D := [_, _]) (H' := []) rfl ⟨rfl, _, zR, 0, 6, rfl, recF_z, small_z, rfl, .inr (.inr (.inl ⟨h2', by rw [← hn]; exact h316, by rw [← hn]; exact hnl, rfl, rfl, rfl⟩))⟩
   ·have hnl' : n ≤ b.length := by omega
    (repeat' first | refine X.rq ?_ | refine X.rc ?_ ?_ <;> intro hc <;> try omega)
    refine K.s_pureE (K.p_sliceB (k1 := .i64) (k2 := .i64) (p := 2) (q := n) hb1 (Fx.und rfl) (Fx.sz rfl) rfl ⟨_, rfl, rfl⟩ ⟨_, rfl, rfl⟩ (by omega) hnl') rfl ?_
    intro v5 hb5
    have hbl5 : ((b.take n).drop 2).length ≤ 16390 := by rw [List.length_drop, List.length_take]; omega
    obtain ⟨bd, hbd⟩ : ∃ x, x = (b.take n).drop 2 := ⟨_, rfl⟩
    rw [← hbd] at hb5 hbl5
    refine K.l_call (Fx.cal rfl) rfl (NewReader h1 _ bd [] hb5.src (by unfold big; omega)) (K.pp [] rfl) rfl ?_
    rintro u h2 H' le2 ⟨p2, sv2, rfl, hd2, rfl⟩
    simp only [Go.K.cna]
    refine K.l_call (Fx.cal rfl) rfl (N_read h2 p2 (true, sv2, false) bd hd2 hbl5) (K.pp [0] rfl) rfl ?_
    rintro u h3 H' le3 ⟨cs, r, ok, rfl, rfl, hrcF, hsm, hls, fw⟩
    have hrcF := hrcF.le (le1.trans le2) (K.Base.le.refl _)
    have hrc := hrcF.c
    have hle3 := (le1.trans le2).trans le3
    have hb3 := hb1.le (le2.trans le3)
    have hmay := RecMay h3 cs r hrc hsm
    have hbody := PBody h3 cs r hrc
    have hrc0 := hrc
    have hwx := RecC.wfX hrc
    obtain ⟨hw, ad, ai, al, ay, cd, ci, cl, cy, rfl, _⟩ := hrc.cells
    have hno : (¬ (ok = true ∧ mayR r = true ∧ bodyN r = bd)) → Dec b zR 0 5 := fun hn2 => .inr (.inr (.inr (.inl ⟨h2', by rw [← hn]; exact h316, by rw [← hn]; exact hnl', fun ⟨y, hy, he⟩ => by
     rw [← hn, ← hbd] at he
     obtain ⟨e1, e2⟩ := fw y hy he.symm
     subst e1
     exact hn2 ⟨e2, hy.1, he⟩, rfl, rfl, rfl⟩)))
    simp only [Go.K.cna]
    (repeat' first | refine X.rq ?_ | refine X.rc ?_ ?_ <;> intro hc <;> try omega)
    refine K.l_alloc (Fx.zr rfl) rfl rfl (fun B6 => ?_)
    refine X.stw ?_
    simp only [Go.K.nmz]
    cases ok with
    | false =>
     have hdec := hno (fun hc => by cases hc.1)
     (repeat' first | refine X.rq ?_ | refine X.rc ?_ ?_ <;> intro hc <;> try omega)
     refine X.draw ([blk B6 92 (cR r (.slice ad r.op.data.length cd) (.slice ai r.images.length ci) (.slice al r.lives.length cl) (.slice ay r.dirty.length cy))]) [] (.pu 0 (.pu 1 (.pu 2 (.st 3 (.on 4 (.pu 5 (.pu 6 (.pu 7 (.pu 10 (.pu 11 (.pu 12 (.st 8 (.on 9 (.on 13 (.pu 14 (.pu 15 .nil)))))))))))))))) ?_
     refine X.u_mv ?_
     refine X.u_nt ?_
     refine X.u_mv ?_
     refine X.h_ld ?_
     refine K.d_on rfl (fun KK hKK => ?_)
     first | refine K.s_skip rfl rfl rfl ?_ | refine K.s_skipU rfl rfl rfl rfl ?_
     refine K.l_nil ?_
     refine X.onE hKK ?_
     refine X.g_nt ?_
     refine X.u_pk ?_
     refine X.u_mv ?_
     refine X.g_mv ?_
     refine X.g_mv ?_
     refine X.g_sl ?_
     refine X.h_ld ?_
     refine K.d_on rfl (fun KK hKK => ?_)
     first | refine K.s_skip rfl rfl rfl ?_ | refine K.s_skipU rfl rfl rfl rfl ?_
     refine K.l_nil ?_
     refine X.onE hKK ?_
     refine K.d_on rfl (fun KK hKK => ?_)
     first | refine K.s_skip rfl rfl rfl ?_ | refine K.s_skipU rfl rfl rfl rfl ?_
     refine K.l_nil ?_
     refine X.onE hKK ?_
     refine X.g_nt ?_
     refine X.u_pk ?_
     refine K.d_nil ?_
     (repeat' first | refine X.rq ?_ | refine X.rc ?_ ?_ <;> intro hc <;> try omega)
     refine K.WL.perm (K.pp [2] rfl) ?_
     simp only [Go.K.nmz]
     refine X.stw ?_
     simp only [Go.K.nmz]
     (repeat' first | refine X.rq ?_ | refine X.rc ?_ ?_ <;> intro hc <;> try omega)
     refine K.doneD (vs := [.agg (cR zR (.slice none 0 0) (.slice none 0 0) (.slice none 0 0) (.slice none 0 0)).toArray, .int .i64 ((0 : Nat) : Int), .int .i64 5]) (by first | exact Or.inl rfl | exact Or.inr rfl) (.cell rfl (Fx.agg rfl) (Fx.sz rfl) (K.cels_own (pre := []) (post := []) 0 rfl rfl) (.tmp rfl (.tmp rfl .nil))) hle3 (D := [_, _, _]) (H' := []) rfl ⟨rfl, _, zR, 0, 5, rfl, recF_z, small_z, rfl, hdec⟩
    | true =>
     cases hm : mayR r with
     | false =>
      have hdec := hno (fun hc => by rw [hm] at hc; cases hc.2.1)
      rw [hm] at hmay
      (repeat' first | refine X.rq ?_ | refine X.rc ?_ ?_ <;> intro hc <;> try omega)
      refine X.draw ([blk B6 92 (cR r (.slice ad r.op.data.length cd) (.slice ai r.images.length ci) (.slice al r.lives.length cl) (.slice ay r.dirty.length cy))]) [] (.pu 0 (.pu 1 (.pu 2 (.st 3 (.on 4 (.pu 5 (.pu 6 (.pu 7 (.pu 10 (.pu 11 (.pu 12 (.st 8 (.on 9 (.on 13 (.pu 14 (.pu 15 .nil)))))))))))))))) ?_
      refine X.u_mv ?_
      refine X.u_nt ?_
      refine X.u_mv ?_
      refine X.h_ld ?_
      refine K.d_on rfl (fun KK hKK => ?_)
      refine K.s_take rfl rfl ?_
      refine K.l_callV (Fx.cal rfl) rfl hmay (K.pp [] rfl) rfl rfl ?_
      simp only [List.nil_append]
      refine K.l_nil ?_
      refine X.onE hKK ?_
      refine X.g_nt ?_
      refine X.u_pk ?_
      refine X.u_mv ?_
      refine X.g_mv ?_
      refine X.g_mv ?_
      refine X.g_sl ?_
      refine X.h_ld ?_
      refine K.d_on rfl (fun KK hKK => ?_)
      first | refine K.s_skip rfl rfl rfl ?_ | refine K.s_skipU rfl rfl rfl rfl ?_
      refine K.l_nil ?_
      refine X.onE hKK ?_
      refine K.d_on rfl (fun KK hKK => ?_)
      first | refine K.s_skip rfl rfl rfl ?_ | refine K.s_skipU rfl rfl rfl rfl ?_
      refine K.l_nil ?_
      refine X.onE hKK ?_
      refine X.g_nt ?_
      refine X.u_pk ?_
      refine K.d_nil ?_
      (repeat' first | refine X.rq ?_ | refine X.rc ?_ ?_ <;> intro hc <;> try omega)
      refine K.WL.perm (K.pp [2] rfl) ?_
      simp only [Go.K.nmz]
      refine X.stw ?_
      simp only [Go.K.nmz]
      (repeat' first | refine X.rq ?_ | refine X.rc ?_ ?_ <;> intro hc <;> try omega)
      refine K.doneD (vs := [.agg (cR zR (.slice none 0 0) (.slice none 0 0) (.slice none 0 0) (.slice none 0 0)).toArray, .int .i64 ((0 : Nat) : Int), .int .i64 5]) (by first | exact Or.inl rfl | exact Or.inr rfl) (.cell rfl (Fx.agg rfl) (Fx.sz rfl) (K.cels_own (pre := []) (post := []) 0 rfl rfl) (.tmp rfl (.tmp rfl .nil))) hle3 (D := [_, _, _]) (H' := []) rfl ⟨rfl, _, zR, 0, 5, rfl, recF_z, small_z, rfl, hdec⟩
     | true =>
      rw [hm] at hmay
      obtain ⟨hok, hblen⟩ := may_okR hm
      have hbody := hbody hok hsm
      have hbn := bodyN_len hok hsm
      by_cases heq : bodyN r = bd
      ·have hdec : Dec b r n 0 := .inr (.inr (.inr (.inr ⟨h2', by rw [← hn]; exact h316, by rw [← hn]; exact hnl', ⟨hm, hls, hwx⟩, by rw [heq, hbd, hn], hn, rfl⟩)))
       (repeat' first | refine X.rq ?_ | refine X.rc ?_ ?_ <;> intro hc <;> try omega)
       refine X.draw ([blk B6 92 (cR r (.slice ad r.op.data.length cd) (.slice ai r.images.length ci) (.slice al r.lives.length cl) (.slice ay r.dirty.length cy))]) [] (.pu 0 (.pu 1 (.pu 2 (.st 3 (.on 4 (.pu 5 (.pu 6 (.pu 7 (.pu 10 (.pu 11 (.st 8 (.st 12 (.on 9 (.on 13 (.pu 14 (.pu 15 .nil)))))))))))))))) ?_
       refine X.u_mv ?_
       refine X.u_nt ?_
       refine X.u_mv ?_
       refine X.h_ld ?_
       refine K.d_on rfl (fun KK hKK => ?_)
       refine K.s_take rfl rfl ?_
       refine K.l_callV (Fx.cal rfl) rfl hmay (K.pp [] rfl) rfl rfl ?_
       simp only [List.nil_append]
       refine K.l_nil ?_
       refine X.onE hKK ?_
       refine X.g_nt ?_
       refine X.u_pk ?_
       refine X.u_mv ?_
       refine X.g_mv ?_
       refine X.g_mv ?_
       refine X.h_ld ?_
       refine K.d_stGE rfl rfl rfl (K.p_sliceB (k1 := .i64) (k2 := .i64) (p := 2) (q := n) hb3 (Fx.und rfl) (Fx.sz rfl) rfl ⟨_, rfl, rfl⟩ ⟨_, rfl, rfl⟩ (by omega) hnl') rfl ?_
       intro v7 hb7
       rw [← hbd] at hb7
       refine K.d_on rfl (fun KK hKK => ?_)
       refine K.s_take rfl rfl ?_
       refine K.l_call (Fx.cal rfl) rfl hbody (K.pp [] rfl) rfl ?_
       rintro u h' H' - ⟨e, a9, c9, rfl, rfl⟩
       obtain rfl := e.symm
       simp only [Go.K.cna]
       refine K.WL.freezeBuf (fun h4 le4 hb4 => ?_)
       refine K.l_nil ?_
       refine X.onE hKK ?_
       refine K.d_on rfl (fun KK hKK => ?_)
       refine K.s_take rfl rfl ?_
       refine K.l_callV (Fx.cal rfl) rfl (EqBytes h4 _ v7 (bodyN r) bd hb4 (hb7.le le4) (by omega) (by omega)) (K.pp [] rfl) rfl rfl ?_
       rw [decide_eq_true heq]
       simp only [List.nil_append]
       refine K.l_nil ?_
       refine X.onE hKK ?_
       refine X.g_nt ?_
       refine X.u_pk ?_
       refine K.d_nil ?_
       (repeat' first | refine X.rq ?_ | refine X.rc ?_ ?_ <;> intro hc <;> try omega)
       refine K.WL.perm (K.pp [2] rfl) ?_
       simp only [Go.K.nmz]
       refine X.stw ?_
       simp only [Go.K.nmz]
       (repeat' first | refine X.rq ?_ | refine X.rc ?_ ?_ <;> intro hc <;> try omega)
       refine K.doneD (vs := [.agg (cR r (.slice ad r.op.data.length cd) (.slice ai r.images.length ci) (.slice al r.lives.length cl) (.slice ay r.dirty.length cy)).toArray, .int .i64 n, .int .i64 0]) (by first | exact Or.inl rfl | exact Or.inr rfl) (.cell rfl (Fx.agg rfl) (Fx.sz rfl) (K.cels_own (pre := []) (post := []) 0 rfl rfl) (.tmp rfl (.tmp rfl .nil))) (hle3.trans le4) (D := [_, _, _]) (H' := []) rfl ⟨rfl, _, r, n, 0, rfl, hrcF.le (K.Base.le.refl _) le4, hsm, hls, hdec⟩
      ·have hdec := hno (fun hc => heq hc.2.2)
       (repeat' first | refine X.rq ?_ | refine X.rc ?_ ?_ <;> intro hc <;> try omega)
       refine X.draw ([blk B6 92 (cR r (.slice ad r.op.data.length cd) (.slice ai r.images.length ci) (.slice al r.lives.length cl) (.slice ay r.dirty.length cy))]) [] (.pu 0 (.pu 1 (.pu 2 (.st 3 (.on 4 (.pu 5 (.pu 6 (.pu 7 (.pu 10 (.pu 11 (.st 8 (.st 12 (.on 9 (.on 13 (.pu 14 (.pu 15 .nil)))))))))))))))) ?_
       refine X.u_mv ?_
       refine X.u_nt ?_
       refine X.u_mv ?_
       refine X.h_ld ?_
       refine K.d_on rfl (fun KK hKK => ?_)
       refine K.s_take rfl rfl ?_
       refine K.l_callV (Fx.cal rfl) rfl hmay (K.pp [] rfl) rfl rfl ?_
       simp only [List.nil_append]
       refine K.l_nil ?_
       refine X.onE hKK ?_
       refine X.g_nt ?_
       refine X.u_pk ?_
       refine X.u_mv ?_
       refine X.g_mv ?_
       refine X.g_mv ?_
       refine X.h_ld ?_
       refine K.d_stGE rfl rfl rfl (K.p_sliceB (k1 := .i64) (k2 := .i64) (p := 2) (q := n) hb3 (Fx.und rfl) (Fx.sz rfl) rfl ⟨_, rfl, rfl⟩ ⟨_, rfl, rfl⟩ (by omega) hnl') rfl ?_
       intro v7 hb7
       rw [← hbd] at hb7
       refine K.d_on rfl (fun KK hKK => ?_)
       refine K.s_take rfl rfl ?_
       refine K.l_call (Fx.cal rfl) rfl hbody (K.pp [] rfl) rfl ?_
       rintro u h' H' - ⟨e, a9, c9, rfl, rfl⟩
       obtain rfl := e.symm
       simp only [Go.K.cna]
       refine K.WL.freezeBuf (fun h4 le4 hb4 => ?_)
       refine K.l_nil ?_
       refine X.onE hKK ?_
       refine K.d_on rfl (fun KK hKK => ?_)
       refine K.s_take rfl rfl ?_
       refine K.l_callV (Fx.cal rfl) rfl (EqBytes h4 _ v7 (bodyN r) bd hb4 (hb7.le le4) (by omega) (by omega)) (K.pp [] rfl) rfl rfl ?_
       rw [decide_eq_false heq]
       simp only [List.nil_append]
       refine K.l_nil ?_
       refine X.onE hKK ?_
       refine X.g_nt ?_
       refine X.u_pk ?_
       refine K.d_nil ?_
       (repeat' first | refine X.rq ?_ | refine X.rc ?_ ?_ <;> intro hc <;> try omega)
       refine K.WL.perm (K.pp [2] rfl) ?_
       simp only [Go.K.nmz]
       refine X.stw ?_
       simp only [Go.K.nmz]
       (repeat' first | refine X.rq ?_ | refine X.rc ?_ ?_ <;> intro hc <;> try omega)
       refine K.doneD (vs := [.agg (cR zR (.slice none 0 0) (.slice none 0 0) (.slice none 0 0) (.slice none 0 0)).toArray, .int .i64 ((0 : Nat) : Int), .int .i64 5]) (by first | exact Or.inl rfl | exact Or.inr rfl) (.cell rfl (Fx.agg rfl) (Fx.sz rfl) (K.cels_own (pre := []) (post := []) 0 rfl rfl) (.tmp rfl (.tmp rfl .nil))) (hle3.trans le4) (D := [_, _, _]) (H' := []) rfl ⟨rfl, _, zR, 0, 5, rfl, recF_z, small_z, rfl, hdec⟩
  ·have hdec : Dec b zR 0 5 := .inr (.inl ⟨h2', by rw [← hn]; exact h316, rfl, rfl, rfl⟩)
   (repeat' first | refine X.rq ?_ | refine X.rc ?_ ?_ <;> intro hc <;> try omega)
   all_goals
    refine K.WL.perm (K.pp [1] rfl) ?_
    simp only [Go.K.nmz]
    refine X.stw ?_
    simp only [Go.K.nmz]
    (repeat' first | refine X.rq ?_ | refine X.rc ?_ ?_ <;> intro hc <;> try omega)
    refine K.doneD (vs := [.agg (cR zR (.slice none 0 0) (.slice none 0 0) (.slice none 0 0) (.slice none 0 0)).toArray, .int .i64 ((0 : Nat) : Int), .int .i64 5]) (by first | exact Or.inl rfl | exact Or.inr rfl) (.cell rfl (Fx.agg rfl) (Fx.sz rfl) (K.cels_own (pre := []) (post := []) 0 rfl rfl) (.tmp rfl (.tmp rfl .nil))) le1 (D := [_, _]) (H' := []) rfl ⟨rfl, _, zR, 0, 5, rfl, recF_z, small_z, rfl, hdec⟩
theorem RecDecode (h : Base) (v : Value) (b : List UInt8) (hb : BV h v b) (hl : b.length ≤ 140737488355328) :
  Tr Tryz.prog 95 [v] h [] (DecP b) := fun F w ok =>
 Calls.mono (RecDecodeF h v b hb hl F w ok) fun e w' ⟨u, he, h1, H1, hle, ⟨q1, cs, r, n, e', hu, hrc, q2⟩, ok1⟩ => ⟨u, he, h1, H1, hle, ⟨q1, cs, r, n, e', hu, hrc.c, q2⟩, ok1⟩
end Go.Proofs.YtijbhgiigddjdaaGreat.Rc
