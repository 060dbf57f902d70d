/-
 PoolReads, walked. Conditions: each theorem's own.
-/
import Derived.Test.YtijbhgiigddjdaaGreatPB46
import Derived.Test.YtijbhgiigddjdaaGreatPB47
set_option linter.unusedVariables false
set_option linter.unusedSimpArgs false
namespace Go.Proofs.YtijbhgiigddjdaaGreat.Pl
open Go Go.K Go.Proofs Go.Proofs.YtijbhgiigddjdaaGreat Go.Proofs.YtijbhgiigddjdaaGreat.Pg Go.Proofs.YtijbhgiigddjdaaGreat.Wl
set_option maxRecDepth 10000

theorem decQ_wf (b : List UInt8) : wfP (decQ b).1 := by
 unfold decQ
 split
 ·exact readQ_wf _
 ·exact wf_zPd
theorem pageQ_wf (b : List UInt8) : wfP (pageQ b).1 := by
 unfold pageQ
 split
 ·exact wfZ
 ·exact decQ_wf b
theorem pageQ_err {b : List UInt8} (h : (pageQ b).2 ≠ 0) : (pageQ b).1 = ⟨0, 0, 0, []⟩ ∧ (pageQ b).2 = 5 := by
 unfold pageQ at h ⊢
 split
 ·rename_i e; rw [if_pos e] at h; exact absurd rfl h
 ·rename_i e
  rw [if_neg e] at h
  rcases dec_cases b with ⟨_, h2, _⟩ | ⟨_, h2⟩
  ·exact absurd h2 h
  ·rw [h2]; exact ⟨rfl, rfl⟩
theorem nought_iff {b : List UInt8} (h : b.length = 512) : (b.all fun x => decide (x = 0)) = true ↔ b = zs := by
 rw [List.all_eq_true]
 constructor
 ·intro hx
  refine List.eq_replicate_iff.2 ⟨h, fun x hm => ?_⟩
  simpa using hx x hm
 ·rintro rfl x hm
  rw [List.eq_of_mem_replicate hm]; rfl
theorem get_bytes {L L' : Lg} {D D' : Dk} {P P' : Po} {n : Nat} {r : Except Int Pag} (h : GetR L D P n r P' L' D') (hin : hasQ L D n) (hno : ∀ x ∈ P.frs, x.n ≠ n) (hlt : P.frs.length < P.most) (hn : NoTrip D)
  {u : Value} {H1 : List Asrt} (hV : PageX r u H1) : ∃ (b : Option Nat) (cap : Nat) (l : List OC), u = .tuple #[.agg (cP (pageQ (V D (L.m.n + n))).1 (bufV b l.length cap)).toArray, .int .i64 (pageQ (V D (L.m.n + n))).2] ∧ (pageQ (V D (L.m.n + n))).1.cells = l.map OC.cell ∧ okO l ∧ H1 = pgA b cap l := by
 obtain ⟨p, e, b, cap, l, rfl, h1, h2, h3, rfl⟩ := hV
 obtain ⟨_, _, hm⟩ := get_miss h hin hno hlt hn
 rcases hm with ⟨m1, m2, _⟩ | ⟨m1, m2, _⟩
 ·rcases h3 with ⟨h3, rfl⟩ | ⟨h3, rfl⟩
  ·rw [m2] at h3; cases h3
  ·rw [m2] at h3; cases h3
   obtain ⟨e1, _⟩ := pageQ_err m1
   rw [e1]
   exact ⟨b, cap, l, rfl, h1, h2, rfl⟩
 ·rcases h3 with ⟨h3, rfl⟩ | ⟨h3, rfl⟩
  ·rw [m2] at h3; cases h3
   rw [m1]
   exact ⟨b, cap, l, rfl, h1, h2, rfl⟩
  ·rw [m2] at h3; cases h3
set_option maxHeartbeats 16000000 in
theorem PoolReadsW (h : Base) (v : Value) (bl : List UInt8) (n : Int) (hb : BV h v bl) (hbl : bl.length ≤ 140737488351232) (hn : in64 n) :
  Tr Tryz.prog 3 [v, .int .i64 n] h [] (fun u h' H' => u = .bool true ∧ H' = []) := by
 obtain ⟨ao, ca, rfl⟩ := hb.len
 refine K.enter Tryz.func3 rfl (Nat.le_of_ble_eq_true rfl) (fun F => ?_)
 simp only [List.nil_append]
 by_cases hg : bl.length = 512 ∧ 8 ≤ n ∧ n ≤ 256
 rotate_left
 ·(repeat' first | refine X.rq ?_ | refine X.rc ?_ ?_ <;> intro hc <;> try omega)
  all_goals try (exfalso; omega)
  all_goals
   refine K.l_call (Fx.cal rfl) rfl (QAlive h) (K.pp [] rfl) rfl ?_
   rintro u h' H' hle ⟨rfl, rfl⟩
   (repeat' first | refine X.rq ?_ | refine X.rc ?_ ?_ <;> intro hc <;> try omega)
   exact K.dn (vs := [.bool true]) rfl hle (H' := []) rfl ⟨rfl, rfl⟩
 obtain ⟨hb512, hn1, hn2⟩ := hg
 obtain ⟨k, rfl⟩ : ∃ k : Nat, n = (k : Int) := ⟨n.toNat, by omega⟩
 rw [hb512] at hb ⊢
 (repeat' first | refine X.rq ?_ | refine X.rc ?_ ?_ <;> intro hc <;> try omega)
 all_goals try (exfalso; omega)
 refine K.l_call (Fx.cal rfl) rfl (BBeg h 2 k (by omega) (by omega) (by omega) (by omega)) (K.pp [] rfl) rfl ?_
 rintro u h1 H' le1 ⟨s, d, l, q, bi, bf, bp, MD, D, A, rfl, ⟨hrun, hon, hln, hze⟩, hA, rfl⟩
 unfold begX stV
 simp only [List.cons_append, List.nil_append]
 refine K.WL.sel [2, 2, 2] rfl ?_
 simp only [Go.K.nmz]
 have hb1 := hb.le le1
 have o0 : LgOk L0 := hrun.lgOk
 have hmn : L0.m.n = 16 := rfl
 have hca := hrun.cache
 have hW := BWrite hA ((17 : Nat) : Int) _ bl hrun.ok (by omega) (by omega) hb1 (by omega)
 obtain ⟨w1, w2, w3⟩ := write_sem (D := D) (a := 17) (b := bl) (by rw [hln]; omega) hb512
 obtain ⟨w4, w5⟩ := w1.on hon
 obtain ⟨w6, w7, w8⟩ := write_ok hrun.ok (by rw [hca]; decide) ((17 : Nat) : Int) bl
 have wv := write_view (D := D) (a := 17) (b := bl) (by rw [hln]; omega) hb512 w4 17
 rw [if_pos rfl] at wv
 rw [w4] at hW
 rw [show ((17 : Nat) : Int) = 17 from rfl] at hW w4 w5 w6 w7 w8 wv
 generalize (writeQ D (17 : Int) bl).2 = D1 at hW w5 w6 w7 w8 wv
 have hpq : pagesQ L0 D1 = 2 := by unfold pagesQ; rw [w8, hln]; rfl
 (repeat' first | refine X.rq ?_ | refine X.rc ?_ ?_ <;> intro hc <;> try omega)
 refine K.l_call (Fx.cal rfl) rfl hW (K.pp [1] rfl) rfl ?_
 rintro u h' H' - ⟨e, rfl, MD1, A1, hA1, rfl⟩
 obtain rfl := e.symm
 simp only [List.cons_append, List.nil_append]
 simp only [Go.K.nmz]
 have hG := BGet hA1 1 o0 w6 (by rw [hca] at w7; simp only [List.length_nil] at w7; unfold roomMax; omega) (newPoOk (by omega) (by omega)) (by omega) (by omega)
 (repeat' first | refine X.rq ?_ | refine X.rc ?_ ?_ <;> intro hc <;> try omega)
 refine K.l_call (Fx.cal rfl) rfl hG (K.pp [0] rfl) rfl ?_
 rintro u h' H' - ⟨e, r, P', L', D', MD', A2, H1, hR, hV, -, -, hA2, rfl⟩
 obtain rfl := e.symm
 obtain ⟨b4, cap4, l4, rfl, hc4, ho4, rfl⟩ := get_bytes hR (by unfold hasQ; rw [hpq]; omega) (fun x hx => by cases hx) (by show 0 < (newPo k).most; show 0 < k; omega) w5 hV
 rw [show L0.m.n + 1 = 17 from rfl, wv] at hc4 ⊢
 clear hR hV hG hW hA hA1 hA2 w1 w2 w3 w4
 have hwp := pageQ_wf bl
 simp only [List.cons_append, List.nil_append]
 refine K.WL.drop ?_
 refine K.WL.freezeA (fun h2 le2 hsy => ?_)
 have hpg := says_page hsy ho4 hwp hc4
 have hb2 := hb1.le le2
 obtain ⟨p, hp⟩ : ∃ p, p = (pageQ bl).1 := ⟨_, rfl⟩
 obtain ⟨er, her⟩ : ∃ er, er = (pageQ bl).2 := ⟨_, rfl⟩
 have hpl : p.cells.length = l4.length := by rw [hp, hc4, List.length_map]
 rw [← hp, hpl] at hpg
 rw [← hp, ← her]
 (repeat' first | refine X.rq ?_ | refine X.rc ?_ ?_ <;> intro hc <;> try omega)
 refine K.l_alloc (Fx.zr rfl) rfl rfl (fun B7 => ?_)
 refine X.stw ?_
 simp only [Go.K.nmz]
 (repeat' first | refine X.rq ?_ | refine X.rc ?_ ?_ <;> intro hc <;> try omega)
 refine K.l_call (Fx.cal rfl) rfl (RDecode h2 _ bl hb2 (by omega)) (K.pp [] rfl) rfl ?_
 rintro u h3 H' le3 ⟨cs, rfl, hpg3, rfl⟩
 obtain ⟨hwq, cv, rfl, hcv⟩ := hpg3
 have hpg3 : PagC h3 (cP (rdecQ bl).1 cv) (rdecQ bl).1 := ⟨hwq, cv, rfl, hcv⟩
 obtain ⟨es5, hv5, hel5, _⟩ := hcv
 obtain ⟨ao5, ca5, rfl⟩ := hv5.len
 clear hv5
 generalize es5.length = n5 at hel5 hpg3 ⊢
 have hpg := hpg.le le3
 have hb3 := hb2.le le3
 obtain ⟨is, his⟩ : ∃ is, is = (rdecQ bl).2 := ⟨_, rfl⟩
 obtain ⟨rp, hrp⟩ : ∃ rp, rp = (rdecQ bl).1 := ⟨_, rfl⟩
 rw [← hrp] at hpg3
 rw [← his, ← hrp]
 simp only [List.nil_append]
 (repeat' first | refine X.rq ?_ | refine X.rc ?_ ?_ <;> intro hc <;> try omega)
 refine K.l_alloc (Fx.zr rfl) rfl rfl (fun B9 => ?_)
 refine X.stw ?_
 simp only [Go.K.nmz]
 (repeat' first | refine X.rq ?_ | refine X.rc ?_ ?_ <;> intro hc <;> try omega)
 refine K.c_loop (σ := Nat × Bool) (fun x => [(0, .slice ao 512 ca), (7, .pointer (some ⟨B7, 0, none⟩)), (8, .int .i64 er), (9, .pointer (some ⟨B9, 0, none⟩)), (10, .bool is), (11, .bool x.2), (12, .int .i64 x.1)]) (fun _ => h3) (fun _ => blk B9 41 (cP rp (.slice ao5 n5 ca5)) :: blk B7 41 (cP p (bufV b4 l4.length cap4)) :: blk s 35 (stV d l q bi bf bp 3) :: F)
  (fun x => x.1 ≤ 512 ∧ x.2 = (bl.take x.1).all fun c => decide (c = 0)) (fun x => 512 - x.1) (0, true) ⟨Nat.zero_le _, rfl⟩ (by repeat (first | exact K.Sub.nil _ | refine K.Sub.cons rfl ?_)) rfl rfl ?_
 rintro ⟨i, no⟩ ⟨hi, hno⟩ KL hKL
 dsimp only at hi hno ⊢
 by_cases hil : i < 512
 ·have hc : bl[i]? = some (bl[i]'(by omega)) := List.getElem?_eq_getElem (by omega)
  have hc0 : bl[((i : Nat) : Int).toNat]? = some (bl[i]'(by omega)) := by rw [Int.toNat_natCast]; exact hc
  generalize bl[i]'(by omega) = c at hc hc0
  have hstep : ((bl.take (i + 1)).all fun c => decide (c = 0)) = (no && decide (c = 0)) := by
   rw [List.take_add_one, hc, List.all_append, ← hno]; simp
  cases no with
  | true =>
   rw [Bool.true_and] at hstep
   (repeat' first | refine X.rq ?_ | refine X.rc ?_ ?_ <;> intro hc <;> try omega)
   refine K.s_pureE (K.p_indexB hb3 (Fx.und rfl) (Fx.sz rfl) rfl rfl (by omega) hc0) rfl ?_
   rintro v2 ⟨b, o, rfl, hcel⟩
   have hcel := K.Cel.up (K := blk B9 41 (cP rp (.slice ao5 n5 ca5)) :: blk B7 41 (cP p (bufV b4 l4.length cap4)) :: blk s 35 (stV d l q bi bf bp 3) :: F) hcel
   (repeat' first | refine X.rq ?_ | refine X.rc ?_ ?_ <;> intro hc <;> try omega)
   rw [show decide ((c.toNat : Int) = 0) = decide (c = 0) from decide_eq_decide.2 ⟨fun h => u8_zero (by omega), fun h => by rw [h]; rfl⟩]
   refine K.a_round hKL (i + 1, decide (c = 0)) ⟨by dsimp only; omega, hstep.symm⟩ (by repeat (first | exact K.Sub.nil _ | refine K.Sub.cons rfl ?_)) rfl rfl (by dsimp only; omega)
  | false =>
   rw [Bool.false_and] at hstep
   (repeat' first | refine X.rq ?_ | refine X.rc ?_ ?_ <;> intro hc <;> try omega)
   refine K.a_round hKL (i + 1, false) ⟨by dsimp only; omega, hstep.symm⟩ (by repeat (first | exact K.Sub.nil _ | refine K.Sub.cons rfl ?_)) rfl rfl (by dsimp only; omega)
 ·obtain rfl : i = 512 := by omega
  rw [List.take_of_length_le (by omega)] at hno
  have hz1 := LZero h3 _ p hpg
  have hsame := SameP h3 _ _ p rp hpg hpg3
  have hpb := fun (hz : ¬ bl = zs) => (show pageQ bl = decQ bl from if_neg hz)
  have hde := dec_eq bl
  cases no with
  | true =>
   have hz := (nought_iff hb512).1 hno.symm
   have e1 : pageQ bl = (⟨0, 0, 0, []⟩, 0) := by rw [hz]; exact page_zs
   obtain rfl : er = 0 := by rw [her, e1]
   have hzq : zeroQ p = true := by rw [hp, e1]; rfl
   rw [hzq] at hz1
   (repeat' first | refine X.rq ?_ | refine X.rc ?_ ?_ <;> intro hc <;> try omega)
   refine K.l_callV (Fx.cal rfl) rfl hz1 (K.pp [] rfl) rfl rfl ?_
   simp only [List.nil_append]
   (repeat' first | refine X.rq ?_ | refine X.rc ?_ ?_ <;> intro hc <;> try omega)
   refine K.l_call (Fx.cal rfl) rfl (QAlive _) (K.pp [] rfl) rfl ?_
   rintro u h9 H' le9 ⟨rfl, rfl⟩
   simp only [List.nil_append]
   (repeat' first | refine X.rq ?_ | refine X.rc ?_ ?_ <;> intro hc <;> try omega)
   exact K.dc (vs := [.bool true]) (.tmp rfl .nil) (le1.trans (le2.trans (le3.trans le9))) (D := [_, _, _]) (H' := []) rfl ⟨rfl, rfl⟩
  | false =>
   have hz : ¬ bl = zs := fun e => by have := (nought_iff hb512).2 e; rw [← hno] at this; cases this
   have hpb := hpb hz
   rw [hpb] at hp her
   have his2 : is = decide ((decQ bl).2 = 0) := by rw [his, hde]
   have hrp2 : rp = (decQ bl).1 := by rw [hrp, hde]
   cases is with
   | false =>
    have h0 : (decQ bl).2 ≠ 0 := by simpa using his2.symm
    obtain ⟨e1, e2⟩ := pageQ_err (b := bl) (by rw [hpb]; exact h0)
    rw [hpb] at e1 e2
    obtain rfl : er = 5 := by rw [her, e2]
    have hzq : zeroQ p = true := by rw [hp, e1]; rfl
    rw [hzq] at hz1
    (repeat' first | refine X.rq ?_ | refine X.rc ?_ ?_ <;> intro hc <;> try omega)
    refine K.l_callV (Fx.cal rfl) rfl hz1 (K.pp [] rfl) rfl rfl ?_
    simp only [List.nil_append]
    (repeat' first | refine X.rq ?_ | refine X.rc ?_ ?_ <;> intro hc <;> try omega)
    refine K.l_call (Fx.cal rfl) rfl (QAlive _) (K.pp [] rfl) rfl ?_
    rintro u h9 H' le9 ⟨rfl, rfl⟩
    simp only [List.nil_append]
    (repeat' first | refine X.rq ?_ | refine X.rc ?_ ?_ <;> intro hc <;> try omega)
    exact K.dc (vs := [.bool true]) (.tmp rfl .nil) (le1.trans (le2.trans (le3.trans le9))) (D := [_, _, _]) (H' := []) rfl ⟨rfl, rfl⟩
   | true =>
    have h0 : (decQ bl).2 = 0 := by simpa using his2.symm
    obtain rfl : er = 0 := by rw [her, h0]
    have hpe : p = rp := by rw [hp, hrp2]
    rw [decide_eq_true hpe] at hsame
    (repeat' first | refine X.rq ?_ | refine X.rc ?_ ?_ <;> intro hc <;> try omega)
    refine K.l_callV (Fx.cal rfl) rfl hsame (K.pp [] rfl) rfl rfl ?_
    simp only [List.nil_append]
    (repeat' first | refine X.rq ?_ | refine X.rc ?_ ?_ <;> intro hc <;> try omega)
    refine K.l_call (Fx.cal rfl) rfl (QAlive _) (K.pp [] rfl) rfl ?_
    rintro u h9 H' le9 ⟨rfl, rfl⟩
    simp only [List.nil_append]
    (repeat' first | refine X.rq ?_ | refine X.rc ?_ ?_ <;> intro hc <;> try omega)
    exact K.dc (vs := [.bool true]) (.tmp rfl .nil) (le1.trans (le2.trans (le3.trans le9))) (D := [_, _, _]) (H' := []) rfl ⟨rfl, rfl⟩
end Go.Proofs.YtijbhgiigddjdaaGreat.Pl
