/-
 A record's bytes, by the code: the body. Conditions: each theorem's own.
-/
import Derived.Test.YtijbhgiigddjdaaGreatPC29
set_option linter.unusedVariables false
set_option linter.unusedSimpArgs false
set_option maxRecDepth 10000
set_option maxHeartbeats 16000000
namespace Go.Proofs.YtijbhgiigddjdaaGreat.Rc
open Go.K Pg Ca

theorem imgN_len {x : PImg} (hm : imgQ x = true) : (imgN x).length ≤ 12040 := by
 have h1 := cu_len x.page
 have h2 := pagN_len (p := x.to) (by unfold imgQ at hm; rw [Bool.and_eq_true] at hm; exact hm.1)
 unfold imgN
 rw [List.length_append]; omega
theorem liveN_len (x : PLive) : (liveN x).length ≤ 31 := by
 have h1 := cu_len x.txn
 have h2 := cu_len x.last
 have h3 := cu_len x.undo
 unfold liveN
 simp only [List.length_append, List.length_singleton]; omega
theorem dirtN_len (x : PDirty) : (dirtN x).length ≤ 20 := by
 have h1 := cu_len x.page
 have h2 := cu_len x.frm
 unfold dirtN
 rw [List.length_append]; omega
theorem PBody (h : Base) (cs : List Value) (r : Recd) (hx : RecC h cs r) (hok : okR r) (hs : smallR r) :
  Tr Tryz.prog 103 [.agg cs.toArray] h [] (fun u h' H' => h' = h ∧ ∃ a cap, u = bufV a (bodyN r).length cap ∧ H' = [bufA 5 1 a (bodyN r).length cap ((bodyN r).map u8)]) := by
 obtain ⟨hw, ad, ai, al, ay, cd, ci, cl, cy, rfl, hb, ⟨es, hi1, hi2, hi3⟩, hl4, hd2⟩ := hx.cells
 obtain ⟨⟨hk1, hk8⟩, hbare, htx, hdo, him, hri, hiq, hrl, hrd⟩ := hok
 obtain ⟨k, hk⟩ : ∃ k : Nat, r.kind = k := ⟨r.kind.toNat, by omega⟩
 have hkn : r.kind.toNat = k := by omega
 have ht4 := hw.txn
 have hp8 := hw.prev
 have hu8 := hw.undo
 have hpg := hw.page
 have hrt := hw.root
 have hnx := hw.next
 obtain ⟨hs1, hs3, hs4, hs5⟩ := hs
 have hbody : bodyN r = lebs k 1 ++ fieldsN r := by unfold bodyN; rw [hkn]
 refine K.en Tryz.func103 fun F => ?_
 simp only [List.nil_append]
 (repeat' first | refine X.rq ?_ | refine X.rc ?_ ?_ <;> intro hc <;> try omega)
 refine K.l_box rfl rfl rfl (fun B1 => ?_)
 (repeat' first | refine X.rq ?_ | refine X.rc ?_ ?_ <;> intro hc <;> try omega)
 refine K.l_call (Fx.cal rfl) rfl (NewWriter h) (K.pp [] rfl) rfl ?_
 rintro u h' H' - ⟨rfl, P, rfl, rfl⟩
 simp only [Go.K.nmz]
 (repeat' first | refine X.rq ?_ | refine X.rc ?_ ?_ <;> intro hc <;> try omega)
 rw [hk]
 refine K.l_call (Fx.cal rfl) rfl (V_U8 h P none 0 [] k (by omega) (by decide)) (K.pp [0] rfl) rfl ?_
 rintro u h' H' - ⟨e, rfl, a1, c1, rfl⟩
 obtain rfl := e.symm
 simp only [Go.K.nmz]
 have hll : (lebs k 1).length = 1 := lebs_length 1 k
 rw [← hk]
 refine X.l ?_
 refine X.a ?_
 refine X.w ?_
 skip
 refine K.c_join (β := Option Nat × Nat) (fun q => [(3, wp P)]) (fun _ => h) (fun q => wA (some (P, some (q.1, q.2, bodyN r))) :: blk B1 92 (cR r (.slice ad r.op.data.length cd) (.slice ai r.images.length ci) (.slice al r.lives.length cl) (.slice ay r.dirty.length cy)) :: F) (fun _ => True) (fun KJ hJ => ?_) ?_
 ·have h1 := cu_len r.txn
  have h2 := cu_len r.prev
  have h3 := cu_len r.undo
  have h4 := cu_len r.page
  have h5 := cu_len r.root
  have hkk : r.kind = 1 ∨ (r.kind = 5 ∨ r.kind = 6 ∨ r.kind = 7) ∨ (r.kind = 2 ∨ r.kind = 3) ∨ r.kind = 4 ∨ r.kind = 8 := by omega
  rcases hkk with hk0 | hk0 | hk0 | hk0 | hk0
  ·(repeat' first | refine X.rq ?_ | refine X.rc ?_ ?_ <;> intro hc <;> try omega)
   refine K.l_buildSlice (Fx.und rfl) (Fx.sz rfl) rfl (Fx.zr rfl) rfl rfl rfl (cs := [.int .u64 (r.txn : Nat)]) rfl rfl (fun B102 => ?_)
   refine K.l_call (Fx.cal rfl) rfl (NumsB h P a1 c1 (lebs k 1) B102 37 [r.txn] (by simp; omega) (Nat.le_of_ble_eq_true rfl) (by omega)) (K.pp [0, 0] rfl) rfl ?_
   rintro u h' H' - ⟨e, rfl, a2, c2, rfl⟩
   obtain rfl := e.symm
   simp only [Go.K.nmz]
   simp only [List.flatMap_cons, List.flatMap_nil, List.append_nil]
   (repeat' first | refine X.rq ?_ | refine X.rc ?_ ?_ <;> intro hc <;> try omega)
   skip
   rw [show lebs k 1 ++ cu r.txn = bodyN r by rw [hbody]; unfold fieldsN; rw [if_pos hk0]]
   refine K.a_join hJ (a2, c2) trivial (by repeat (first | exact K.Sub.nil _ | refine K.Sub.cons rfl ?_)) rfl rfl
  ·have hk1 : ¬ r.kind = 1 := by omega
   have hf : fieldsN r = cu r.txn ++ cu r.prev := by unfold fieldsN; rw [if_neg hk1, if_pos hk0]
   rcases hk0 with hk0 | hk0 | hk0
   all_goals
    (repeat' first | refine X.rq ?_ | refine X.rc ?_ ?_ <;> intro hc <;> try omega)
    refine K.l_buildSlice (Fx.und rfl) (Fx.sz rfl) rfl (Fx.zr rfl) rfl rfl rfl (cs := [.int .u64 (r.txn : Nat), .int .u64 (r.prev : Nat)]) rfl rfl (fun B102 => ?_)
    refine K.l_call (Fx.cal rfl) rfl (NumsB h P a1 c1 (lebs k 1) B102 37 [r.txn, r.prev] (by simp; omega) (Nat.le_of_ble_eq_true rfl) (by omega)) (K.pp [0, 0] rfl) rfl ?_
    rintro u h' H' - ⟨e, rfl, a2, c2, rfl⟩
    obtain rfl := e.symm
    simp only [Go.K.nmz]
    simp only [List.flatMap_cons, List.flatMap_nil, List.append_nil]
    (repeat' first | refine X.rq ?_ | refine X.rc ?_ ?_ <;> intro hc <;> try omega)
    rw [show lebs k 1 ++ (cu r.txn ++ cu r.prev) = bodyN r by rw [hbody, hf]]
    refine K.a_join hJ (a2, c2) trivial (by repeat (first | exact K.Sub.nil _ | refine K.Sub.cons rfl ?_)) rfl rfl
  ·have hd := hdo hk0
   obtain ⟨hd1, hd2', hd3, hd4, hd5⟩ := hd
   have hor : 1 ≤ r.op.kind ∧ r.op.kind ≤ 4 := hd3.2.1
   have hot := hw.op.txn
   obtain ⟨ok, hko⟩ : ∃ n : Nat, r.op.kind = n := ⟨r.op.kind.toNat, by omega⟩
   obtain ⟨os, hso⟩ : ∃ n : Nat, r.op.slot = n := ⟨r.op.slot.toNat, by omega⟩
   have hop : opN r.op = lebs ok 1 ++ cu os ++ cu r.op.txn ++ cu r.op.data.length ++ r.op.data := by unfold opN; rw [hko, hso, Int.toNat_natCast, Int.toNat_natCast]
   have hf : fieldsN r = cu r.txn ++ cu r.prev ++ (if r.kind = 3 then cu r.undo else []) ++ cu r.page ++ cu r.root ++ opN r.op := by unfold fieldsN; rw [if_neg (by omega), if_neg (by omega), if_pos hk0]
   rw [hop] at hf
   have h6 := cu_len os
   have h7 := cu_len r.op.txn
   have hl1 := lebs_length 1 ok
   rcases hk0 with hk0 | hk0
   ·(repeat' first | refine X.rq ?_ | refine X.rc ?_ ?_ <;> intro hc <;> try omega)
    refine K.l_buildSlice (Fx.und rfl) (Fx.sz rfl) rfl (Fx.zr rfl) rfl rfl rfl (cs := [.int .u64 (r.txn : Nat), .int .u64 (r.prev : Nat)]) rfl rfl (fun B102 => ?_)
    refine K.l_call (Fx.cal rfl) rfl (NumsB h P a1 c1 (lebs k 1) B102 37 [r.txn, r.prev] (by simp; omega) (Nat.le_of_ble_eq_true rfl) (by omega)) (K.pp [0, 0] rfl) rfl ?_
    rintro u h' H' - ⟨e, rfl, a2, c2, rfl⟩
    obtain rfl := e.symm
    simp only [Go.K.nmz]
    simp only [List.flatMap_cons, List.flatMap_nil, List.append_nil]
    obtain ⟨l1, el1⟩ : ∃ l, l = lebs k 1 ++ (cu r.txn ++ cu r.prev) := ⟨_, rfl⟩
    have nl1 : l1.length ≤ 30 := by rw [el1]; simp only [List.length_append]; omega
    rw [← el1]
    (repeat' first | refine X.rq ?_ | refine X.rc ?_ ?_ <;> intro hc <;> try omega)
    refine K.l_buildSlice (Fx.und rfl) (Fx.sz rfl) rfl (Fx.zr rfl) rfl rfl rfl (cs := [.int .u64 (r.page : Nat), .int .u64 (r.root : Nat)]) rfl rfl (fun B103 => ?_)
    refine K.l_call (Fx.cal rfl) rfl (NumsB h P a2 c2 (l1) B103 37 [r.page, r.root] (by simp; omega) (Nat.le_of_ble_eq_true rfl) (by omega)) (K.pp [0, 0] rfl) rfl ?_
    rintro u h' H' - ⟨e, rfl, a3, c3, rfl⟩
    obtain rfl := e.symm
    simp only [Go.K.nmz]
    simp only [List.flatMap_cons, List.flatMap_nil, List.append_nil]
    obtain ⟨l3, el3⟩ : ∃ l, l = l1 ++ (cu r.page ++ cu r.root) := ⟨_, rfl⟩
    have nl3 : l3.length ≤ 80 := by rw [el3]; simp only [List.length_append]; omega
    rw [← el3]
    (repeat' first | refine X.rq ?_ | refine X.rc ?_ ?_ <;> intro hc <;> try omega)
    skip
    simp only [hko]
    refine K.l_call (Fx.cal rfl) rfl (V_U8 h P a3 c3 (l3) ok (by omega) (by omega)) (K.pp [0] rfl) rfl ?_
    rintro u h' H' - ⟨e, rfl, a4, c4, rfl⟩
    obtain rfl := e.symm
    simp only [Go.K.nmz]
    obtain ⟨l4, el4⟩ : ∃ l, l = l3 ++ lebs ok 1 := ⟨_, rfl⟩
    have nl4 : l4.length ≤ 90 := by rw [el4]; simp only [List.length_append]; omega
    rw [← el4]
    (repeat' first | refine X.rq ?_ | refine X.rc ?_ ?_ <;> intro hc <;> try omega)
    skip
    simp only [hso]
    refine K.l_buildSlice (Fx.und rfl) (Fx.sz rfl) rfl (Fx.zr rfl) rfl rfl rfl (cs := [.int .u64 (os : Nat), .int .u64 (r.op.txn : Nat)]) rfl rfl (fun B105 => ?_)
    refine K.l_call (Fx.cal rfl) rfl (NumsB h P a4 c4 (l4) B105 37 [os, r.op.txn] (by simp; omega) (Nat.le_of_ble_eq_true rfl) (by omega)) (K.pp [0, 0] rfl) rfl ?_
    rintro u h' H' - ⟨e, rfl, a5, c5, rfl⟩
    obtain rfl := e.symm
    simp only [Go.K.nmz]
    simp only [List.flatMap_cons, List.flatMap_nil, List.append_nil]
    obtain ⟨l5, el5⟩ : ∃ l, l = l4 ++ (cu os ++ cu r.op.txn) := ⟨_, rfl⟩
    have nl5 : l5.length ≤ 120 := by rw [el5]; simp only [List.length_append]; omega
    rw [← el5]
    (repeat' first | refine X.rq ?_ | refine X.rc ?_ ?_ <;> intro hc <;> try omega)
    refine K.s_pure (K.p_textB hb (Fx.und rfl) (Fx.und rfl) (Fx.und rfl) rfl) rfl ?_
    refine K.l_call (Fx.cal rfl) rfl (V_Text h P a5 c5 (l5) r.op.data (by omega) (by omega)) (K.pp [0] rfl) rfl ?_
    rintro u h' H' - ⟨e, rfl, a6, c6, rfl⟩
    obtain rfl := e.symm
    simp only [Go.K.nmz]
    (repeat' first | refine X.rq ?_ | refine X.rc ?_ ?_ <;> intro hc <;> try omega)
    rw [show l5 ++ (cu r.op.data.length ++ r.op.data) = bodyN r by rw [hbody, hf, el5, el4, el3, el1, if_neg (by omega)]; simp only [List.append_assoc, List.nil_append]]
    refine K.a_join hJ (a6, c6) trivial (by repeat (first | exact K.Sub.nil _ | refine K.Sub.cons rfl ?_)) rfl rfl
   ·(repeat' first | refine X.rq ?_ | refine X.rc ?_ ?_ <;> intro hc <;> try omega)
    refine K.l_buildSlice (Fx.und rfl) (Fx.sz rfl) rfl (Fx.zr rfl) rfl rfl rfl (cs := [.int .u64 (r.txn : Nat), .int .u64 (r.prev : Nat)]) rfl rfl (fun B102 => ?_)
    refine K.l_call (Fx.cal rfl) rfl (NumsB h P a1 c1 (lebs k 1) B102 37 [r.txn, r.prev] (by simp; omega) (Nat.le_of_ble_eq_true rfl) (by omega)) (K.pp [0, 0] rfl) rfl ?_
    rintro u h' H' - ⟨e, rfl, a2, c2, rfl⟩
    obtain rfl := e.symm
    simp only [Go.K.nmz]
    simp only [List.flatMap_cons, List.flatMap_nil, List.append_nil]
    obtain ⟨l1, el1⟩ : ∃ l, l = lebs k 1 ++ (cu r.txn ++ cu r.prev) := ⟨_, rfl⟩
    have nl1 : l1.length ≤ 30 := by rw [el1]; simp only [List.length_append]; omega
    rw [← el1]
    (repeat' first | refine X.rq ?_ | refine X.rc ?_ ?_ <;> intro hc <;> try omega)
    refine K.l_call (Fx.cal rfl) rfl (V_Uint h P a2 c2 (l1) r.undo (by omega) (by omega)) (K.pp [0] rfl) rfl ?_
    rintro u h' H' - ⟨e, rfl, a3, c3, rfl⟩
    obtain rfl := e.symm
    simp only [Go.K.nmz]
    obtain ⟨l2, el2⟩ : ∃ l, l = l1 ++ cu r.undo := ⟨_, rfl⟩
    have nl2 : l2.length ≤ 50 := by rw [el2]; simp only [List.length_append]; omega
    rw [← el2]
    (repeat' first | refine X.rq ?_ | refine X.rc ?_ ?_ <;> intro hc <;> try omega)
    refine K.l_buildSlice (Fx.und rfl) (Fx.sz rfl) rfl (Fx.zr rfl) rfl rfl rfl (cs := [.int .u64 (r.page : Nat), .int .u64 (r.root : Nat)]) rfl rfl (fun B104 => ?_)
    refine K.l_call (Fx.cal rfl) rfl (NumsB h P a3 c3 (l2) B104 37 [r.page, r.root] (by simp; omega) (Nat.le_of_ble_eq_true rfl) (by omega)) (K.pp [0, 0] rfl) rfl ?_
    rintro u h' H' - ⟨e, rfl, a4, c4, rfl⟩
    obtain rfl := e.symm
    simp only [Go.K.nmz]
    simp only [List.flatMap_cons, List.flatMap_nil, List.append_nil]
    obtain ⟨l3, el3⟩ : ∃ l, l = l2 ++ (cu r.page ++ cu r.root) := ⟨_, rfl⟩
    have nl3 : l3.length ≤ 80 := by rw [el3]; simp only [List.length_append]; omega
    rw [← el3]
    (repeat' first | refine X.rq ?_ | refine X.rc ?_ ?_ <;> intro hc <;> try omega)
    skip
    simp only [hko]
    refine K.l_call (Fx.cal rfl) rfl (V_U8 h P a4 c4 (l3) ok (by omega) (by omega)) (K.pp [0] rfl) rfl ?_
    rintro u h' H' - ⟨e, rfl, a5, c5, rfl⟩
    obtain rfl := e.symm
    simp only [Go.K.nmz]
    obtain ⟨l4, el4⟩ : ∃ l, l = l3 ++ lebs ok 1 := ⟨_, rfl⟩
    have nl4 : l4.length ≤ 90 := by rw [el4]; simp only [List.length_append]; omega
    rw [← el4]
    (repeat' first | refine X.rq ?_ | refine X.rc ?_ ?_ <;> intro hc <;> try omega)
    skip
    simp only [hso]
    refine K.l_buildSlice (Fx.und rfl) (Fx.sz rfl) rfl (Fx.zr rfl) rfl rfl rfl (cs := [.int .u64 (os : Nat), .int .u64 (r.op.txn : Nat)]) rfl rfl (fun B106 => ?_)
    refine K.l_call (Fx.cal rfl) rfl (NumsB h P a5 c5 (l4) B106 37 [os, r.op.txn] (by simp; omega) (Nat.le_of_ble_eq_true rfl) (by omega)) (K.pp [0, 0] rfl) rfl ?_
    rintro u h' H' - ⟨e, rfl, a6, c6, rfl⟩
    obtain rfl := e.symm
    simp only [Go.K.nmz]
    simp only [List.flatMap_cons, List.flatMap_nil, List.append_nil]
    obtain ⟨l5, el5⟩ : ∃ l, l = l4 ++ (cu os ++ cu r.op.txn) := ⟨_, rfl⟩
    have nl5 : l5.length ≤ 120 := by rw [el5]; simp only [List.length_append]; omega
    rw [← el5]
    (repeat' first | refine X.rq ?_ | refine X.rc ?_ ?_ <;> intro hc <;> try omega)
    refine K.s_pure (K.p_textB hb (Fx.und rfl) (Fx.und rfl) (Fx.und rfl) rfl) rfl ?_
    refine K.l_call (Fx.cal rfl) rfl (V_Text h P a6 c6 (l5) r.op.data (by omega) (by omega)) (K.pp [0] rfl) rfl ?_
    rintro u h' H' - ⟨e, rfl, a7, c7, rfl⟩
    obtain rfl := e.symm
    simp only [Go.K.nmz]
    (repeat' first | refine X.rq ?_ | refine X.rc ?_ ?_ <;> intro hc <;> try omega)
    rw [show l5 ++ (cu r.op.data.length ++ r.op.data) = bodyN r by rw [hbody, hf, el5, el4, el3, el2, el1, if_pos hk0]; simp only [List.append_assoc, List.nil_append]]
    refine K.a_join hJ (a7, c7) trivial (by repeat (first | exact K.Sub.nil _ | refine K.Sub.cons rfl ?_)) rfl rfl
  ·have hf : fieldsN r = cu r.images.length ++ r.images.flatMap imgN := by unfold fieldsN; rw [if_neg (by omega), if_neg (by omega), if_neg (by omega), if_pos hk0]
   have h9 := cu_len r.images.length
   (repeat' first | refine X.rq ?_ | refine X.rc ?_ ?_ <;> intro hc <;> try omega)
   refine K.l_call (Fx.cal rfl) rfl (V_Uint h P a1 c1 (lebs k 1) r.images.length (by omega) (by omega)) (K.pp [0] rfl) rfl ?_
   rintro u h' H' - ⟨e, rfl, a2, c2, rfl⟩
   obtain rfl := e.symm
   simp only [Go.K.nmz]
   obtain ⟨l1, el1⟩ : ∃ l, l = lebs k 1 ++ cu r.images.length := ⟨_, rfl⟩
   have nl1 : l1.length ≤ 11 := by rw [el1]; simp only [List.length_append]; omega
   rw [← el1]
   (repeat' first | refine X.rq ?_ | refine X.rc ?_ ?_ <;> intro hc <;> try omega)
   refine K.c_loop (σ := Nat × Option Nat × Nat) (fun s => [(3, wp P), (97, .slice ai r.images.length ci), (98, .int .i64 r.images.length), (99, .int .i64 s.1)]) (fun _ => h)
    (fun s => wA (some (P, some (s.2.1, s.2.2, l1 ++ (r.images.take s.1).flatMap imgN))) :: blk B1 92 (cR r (.slice ad r.op.data.length cd) (.slice ai r.images.length ci) (.slice al r.lives.length cl) (.slice ay r.dirty.length cy)) :: F) (fun s => s.1 ≤ r.images.length) (fun s => r.images.length - s.1) (0, a2, c2) (Nat.zero_le _) (by repeat (first | exact K.Sub.nil _ | refine K.Sub.cons rfl ?_)) rfl (by simp) ?_
   clear e
   rintro ⟨j, a3, c3⟩ hj KL hKL
   dsimp only at hj ⊢
   by_cases hjl : j < r.images.length
   ·have hc1 : es[j]? = some (es[j]'(by omega)) := List.getElem?_eq_getElem (by omega)
    have hc0 : es[((j : Nat) : Int).toNat]? = some (es[j]'(by omega)) := by rw [Int.toNat_natCast]; exact hc1
    have he1 : r.images[j]? = some r.images[j] := List.getElem?_eq_getElem hjl
    have hq1 := hiq _ (List.getElem_mem hjl)
    have hl3 : ((r.images.take j).flatMap imgN).length ≤ 794640000 := by
     have h1 := flat_len imgN 12040 (r.images.take j) fun x hx => imgN_len (hiq x (List.mem_of_mem_take hx))
     have h2 : (r.images.take j).length * 12040 ≤ 66000 * 12040 := Nat.mul_le_mul_right _ (by rw [List.length_take]; omega)
     omega
    have hat := flat_at imgN he1
    generalize es[j]'(by omega) = cc at hc0 hc1
    generalize r.images[j] = x at he1 hq1 hat
    obtain ⟨hpl, cs5, rfl, hpx⟩ := hi3 j cc x hc1 he1
    have hmx : mayQ x.to = true := by unfold imgQ at hq1; rw [Bool.and_eq_true] at hq1; exact hq1.1
    have hpx0 := hpx
    obtain ⟨_, cv5, rfl, es5, hv5, hel5, _⟩ := hpx
    obtain ⟨ao5, ca5, rfl⟩ := hv5.len
    have h10 := cu_len x.page
    generalize hq : l1 ++ (r.images.take j).flatMap imgN = l4
    have hl4n : l4.length ≤ 794640011 := by rw [← hq, List.length_append]; omega
    (repeat' first | refine X.rq ?_ | refine X.rc ?_ ?_ <;> intro hc <;> try omega)
    refine K.s_pureE (K.p_indexL hi1 (Fx.und rfl) (Fx.sz rfl) rfl rfl (by omega) hc0) rfl ?_
    rintro v2 ⟨b, o, rfl, hcel⟩
    refine K.s_pure (K.p_loadM (Fx.agg rfl) rfl (Cels.up hcel) (Fx.sz rfl) rfl) rfl ?_
    refine K.l_alloc (Fx.zr rfl) rfl rfl (fun B5 => ?_)
    refine X.stw ?_
    simp only [Go.K.nmz]
    (repeat' first | refine X.rq ?_ | refine X.rc ?_ ?_ <;> intro hc <;> try omega)
    refine K.l_call (Fx.cal rfl) rfl (V_Uint h P a3 c3 l4 x.page (by omega) (by omega)) (K.pp [1] rfl) rfl ?_
    rintro u h' H' - ⟨e, rfl, a4, c4, rfl⟩
    obtain rfl := e.symm
    simp only [Go.K.nmz]
    (repeat' first | refine X.rq ?_ | refine X.rc ?_ ?_ <;> intro hc <;> try omega)
    skip
    refine K.s_pure (K.p_loadM (Fx.agg rfl) rfl (K.cels_own (pre := [.int .u32 x.page]) (cs := cP x.to (.slice ao5 es5.length ca5)) (post := []) 1 rfl rfl) (Fx.sz rfl) rfl) rfl ?_
    refine K.l_call (Fx.cal rfl) rfl (PImage h P a4 c4 (l4 ++ cu x.page) _ x.to hpx0 hmx (by rw [List.length_append]; omega)) (K.pp [0] rfl) rfl ?_
    rintro u h' H' - ⟨e, rfl, a5, c5, rfl⟩
    obtain rfl := e.symm
    simp only [Go.K.nmz]
    (repeat' first | refine X.rq ?_ | refine X.rc ?_ ?_ <;> intro hc <;> try omega)
    refine K.AT.perm (K.pp [1] rfl) ?_
    simp only [Go.K.nmz]
    refine K.AT.drop ?_
    refine K.a_round hKL (j + 1, a5, c5) (by dsimp only; omega) (by repeat (first | exact K.Sub.nil _ | refine K.Sub.cons rfl ?_)) rfl ?_ (by dsimp only; omega)
    dsimp only
    rw [hat, ← hq, imgN]
    simp only [List.append_assoc]
   ·obtain rfl : j = r.images.length := by omega
    rw [List.take_length, el1]
    (repeat' first | refine X.rq ?_ | refine X.rc ?_ ?_ <;> intro hc <;> try omega)
    rw [show lebs k 1 ++ cu r.images.length ++ r.images.flatMap imgN = bodyN r by rw [hbody, hf, List.append_assoc]]
    refine K.a_join hJ (a3, c3) trivial (by repeat (first | exact K.Sub.nil _ | refine K.Sub.cons rfl ?_)) rfl rfl
  ·have hf : fieldsN r = cu r.lives.length ++ r.lives.flatMap liveN ++ cu r.dirty.length ++ r.dirty.flatMap dirtN ++ cu r.next := by unfold fieldsN; rw [if_neg (by omega), if_neg (by omega), if_neg (by omega), if_neg (by omega), if_pos hk0]
   have h9 := cu_len r.lives.length
   have h10 := cu_len r.dirty.length
   (repeat' first | refine X.rq ?_ | refine X.rc ?_ ?_ <;> intro hc <;> try omega)
   refine K.l_call (Fx.cal rfl) rfl (V_Uint h P a1 c1 (lebs k 1) r.lives.length (by omega) (by omega)) (K.pp [0] rfl) rfl ?_
   rintro u h' H' - ⟨e, rfl, a2, c2, rfl⟩
   obtain rfl := e.symm
   simp only [Go.K.nmz]
   obtain ⟨l1, el1⟩ : ∃ l, l = lebs k 1 ++ cu r.lives.length := ⟨_, rfl⟩
   have nl1 : l1.length ≤ 11 := by rw [el1]; simp only [List.length_append]; omega
   rw [← el1]
   (repeat' first | refine X.rq ?_ | refine X.rc ?_ ?_ <;> intro hc <;> try omega)
   refine K.c_loop (σ := Nat × Option Nat × Nat) (fun s => [(1, .pointer (some ⟨B1, 0, none⟩)), (3, wp P), (122, (.slice al r.lives.length cl)), (123, .int .i64 r.lives.length), (124, .int .i64 s.1)]) (fun _ => h)
    (fun s => wA (some (P, some (s.2.1, s.2.2, l1 ++ (r.lives.take s.1).flatMap liveN))) :: blk B1 92 (cR r (.slice ad r.op.data.length cd) (.slice ai r.images.length ci) (.slice al r.lives.length cl) (.slice ay r.dirty.length cy)) :: F) (fun s => s.1 ≤ r.lives.length) (fun s => r.lives.length - s.1) (0, a2, c2) (Nat.zero_le _) (by repeat (first | exact K.Sub.nil _ | refine K.Sub.cons rfl ?_)) rfl (by simp) ?_
   clear e
   rintro ⟨j, a3, c3⟩ hj KL hKL
   dsimp only at hj ⊢
   by_cases hjl : j < r.lives.length
   ·have he1 : r.lives[j]? = some r.lives[j] := List.getElem?_eq_getElem hjl
    have hwx := hw.live _ (List.getElem_mem hjl)
    have hl3 : ((r.lives.take j).flatMap liveN).length ≤ 2170000 := by
     have h1 := flat_len liveN 31 (r.lives.take j) fun x _ => liveN_len x
     have h2 : (r.lives.take j).length * 31 ≤ 66000 * 31 := Nat.mul_le_mul_right _ (by rw [List.length_take]; omega)
     omega
    have hat := flat_at liveN he1
    generalize r.lives[j] = x at he1 hwx hat
    have hc0 : (r.lives.map cL)[((j : Nat) : Int).toNat]? = some (cL x) := by rw [Int.toNat_natCast, List.getElem?_map, he1]; rfl
    generalize hq : l1 ++ (r.lives.take j).flatMap liveN = l4
    have hl4n : l4.length ≤ 2170011 := by rw [← hq, List.length_append]; omega
    have hx1 := hwx.txn
    have hx2 := hwx.last
    have hx3 := hwx.undo
    have g1 := cu_len x.txn
    have g2 := cu_len x.last
    have g3 := cu_len x.undo
    (repeat' first | refine X.rq ?_ | refine X.rc ?_ ?_ <;> intro hc <;> try omega)
    refine K.s_pureE (K.p_indexL hl4 (Fx.und rfl) (Fx.sz rfl) rfl rfl (by omega) hc0) rfl ?_
    rintro v2 ⟨b, o, rfl, hcel⟩
    refine K.s_pure (K.p_loadM (Fx.agg rfl) rfl (Cels.up hcel) (Fx.sz rfl) rfl) rfl ?_
    refine K.l_alloc (Fx.zr rfl) rfl rfl (fun B5 => ?_)
    refine X.stw ?_
    simp only [Go.K.nmz]
    (repeat' first | refine X.rq ?_ | refine X.rc ?_ ?_ <;> intro hc <;> try omega)
    refine K.l_buildSlice (Fx.und rfl) (Fx.sz rfl) rfl (Fx.zr rfl) rfl rfl rfl (cs := [.int .u64 (x.txn : Nat), .int .u64 (x.last : Nat), .int .u64 (x.undo : Nat)]) rfl rfl (fun B6 => ?_)
    refine K.l_call (Fx.cal rfl) rfl (NumsB h P a3 c3 l4 B6 37 [x.txn, x.last, x.undo] (by simp; omega) (Nat.le_of_ble_eq_true rfl) (by omega)) (K.pp [0, 1] rfl) rfl ?_
    rintro u h' H' - ⟨e, rfl, a4, c4, rfl⟩
    obtain rfl := e.symm
    simp only [Go.K.nmz]
    simp only [List.flatMap_cons, List.flatMap_nil, List.append_nil]
    have hl5 : (l4 ++ (cu x.txn ++ (cu x.last ++ cu x.undo))).length ≤ 2300000 := by simp only [List.length_append]; omega
    (repeat' first | refine X.rq ?_ | refine X.rc ?_ ?_ <;> intro hc <;> try omega)
    ·refine K.l_call (Fx.cal rfl) rfl (V_U8 h P a4 c4 (l4 ++ (cu x.txn ++ (cu x.last ++ cu x.undo))) 1 (by decide) (by omega)) (K.pp [0] rfl) rfl ?_
     rintro u h' H' - ⟨e, rfl, a5, c5, rfl⟩
     obtain rfl := e.symm
     simp only [Go.K.nmz]
     (repeat' first | refine X.rq ?_ | refine X.rc ?_ ?_ <;> intro hc <;> try omega)
     refine K.AT.perm (K.pp [1] rfl) ?_
     simp only [Go.K.nmz]
     refine K.AT.drop ?_
     refine K.a_round hKL (j + 1, a5, c5) (by dsimp only; omega) (by repeat (first | exact K.Sub.nil _ | refine K.Sub.cons rfl ?_)) rfl ?_ (by dsimp only; omega)
     dsimp only
     rw [hat, ← hq, liveN, if_pos hc]
     simp only [List.append_assoc]
     rfl
    ·refine K.l_call (Fx.cal rfl) rfl (V_U8 h P a4 c4 (l4 ++ (cu x.txn ++ (cu x.last ++ cu x.undo))) 0 (by decide) (by omega)) (K.pp [0] rfl) rfl ?_
     rintro u h' H' - ⟨e, rfl, a5, c5, rfl⟩
     obtain rfl := e.symm
     simp only [Go.K.nmz]
     (repeat' first | refine X.rq ?_ | refine X.rc ?_ ?_ <;> intro hc <;> try omega)
     refine K.AT.perm (K.pp [1] rfl) ?_
     simp only [Go.K.nmz]
     refine K.AT.drop ?_
     refine K.a_round hKL (j + 1, a5, c5) (by dsimp only; omega) (by repeat (first | exact K.Sub.nil _ | refine K.Sub.cons rfl ?_)) rfl ?_ (by dsimp only; omega)
     dsimp only
     rw [hat, ← hq, liveN, if_neg (by rw [hc]; decide)]
     simp only [List.append_assoc]
     rfl
   ·obtain rfl : j = r.lives.length := by omega
    rw [List.take_length]
    generalize hq3 : l1 ++ r.lives.flatMap liveN = l2
    have hl2n : l2.length ≤ 2170011 := by
     have h1 := flat_len liveN 31 r.lives fun x _ => liveN_len x
     have h2 : r.lives.length * 31 ≤ 66000 * 31 := Nat.mul_le_mul_right _ hs3
     rw [← hq3, List.length_append]; omega
    (repeat' first | refine X.rq ?_ | refine X.rc ?_ ?_ <;> intro hc <;> try omega)
    refine K.l_call (Fx.cal rfl) rfl (V_Uint h P a3 c3 (l2) r.dirty.length (by omega) (by omega)) (K.pp [0] rfl) rfl ?_
    rintro u h' H' - ⟨e, rfl, a4, c4, rfl⟩
    obtain rfl := e.symm
    simp only [Go.K.nmz]
    obtain ⟨l3, el3⟩ : ∃ l, l = l2 ++ cu r.dirty.length := ⟨_, rfl⟩
    have nl3 : l3.length ≤ 2170021 := by rw [el3]; simp only [List.length_append]; omega
    rw [← el3]
    (repeat' first | refine X.rq ?_ | refine X.rc ?_ ?_ <;> intro hc <;> try omega)
    refine K.c_loop (σ := Nat × Option Nat × Nat) (fun s => [(1, .pointer (some ⟨B1, 0, none⟩)), (3, wp P), (152, (.slice ay r.dirty.length cy)), (153, .int .i64 r.dirty.length), (154, .int .i64 s.1)]) (fun _ => h)
     (fun s => wA (some (P, some (s.2.1, s.2.2, l3 ++ (r.dirty.take s.1).flatMap dirtN))) :: blk B1 92 (cR r (.slice ad r.op.data.length cd) (.slice ai r.images.length ci) (.slice al r.lives.length cl) (.slice ay r.dirty.length cy)) :: F) (fun s => s.1 ≤ r.dirty.length) (fun s => r.dirty.length - s.1) (0, a4, c4) (Nat.zero_le _) (by repeat (first | exact K.Sub.nil _ | refine K.Sub.cons rfl ?_)) rfl (by simp) ?_
    clear e
    rintro ⟨j, a3, c3⟩ hj KL hKL
    dsimp only at hj ⊢
    by_cases hjl : j < r.dirty.length
    ·have he1 : r.dirty[j]? = some r.dirty[j] := List.getElem?_eq_getElem hjl
     have hwx := hw.dirt _ (List.getElem_mem hjl)
     have hl3 : ((r.dirty.take j).flatMap dirtN).length ≤ 2000000 := by
      have h1 := flat_len dirtN 20 (r.dirty.take j) fun x _ => dirtN_len x
      have h2 : (r.dirty.take j).length * 20 ≤ 100000 * 20 := Nat.mul_le_mul_right _ (by rw [List.length_take]; omega)
      omega
     have hat := flat_at dirtN he1
     generalize r.dirty[j] = x at he1 hwx hat
     have hc0 : (r.dirty.map cD)[((j : Nat) : Int).toNat]? = some (cD x) := by rw [Int.toNat_natCast, List.getElem?_map, he1]; rfl
     generalize hq : l3 ++ (r.dirty.take j).flatMap dirtN = l4
     have hl4n : l4.length ≤ 4170021 := by rw [← hq, List.length_append]; omega
     have hx1 := hwx.page
     have hx2 := hwx.frm
     (repeat' first | refine X.rq ?_ | refine X.rc ?_ ?_ <;> intro hc <;> try omega)
     refine K.s_pureE (K.p_indexL hd2 (Fx.und rfl) (Fx.sz rfl) rfl rfl (by omega) hc0) rfl ?_
     rintro v2 ⟨b, o, rfl, hcel⟩
     refine K.s_pure (K.p_loadM (Fx.agg rfl) rfl (Cels.up hcel) (Fx.sz rfl) rfl) rfl ?_
     refine K.l_alloc (Fx.zr rfl) rfl rfl (fun B5 => ?_)
     refine X.stw ?_
     simp only [Go.K.nmz]
     (repeat' first | refine X.rq ?_ | refine X.rc ?_ ?_ <;> intro hc <;> try omega)
     refine K.l_buildSlice (Fx.und rfl) (Fx.sz rfl) rfl (Fx.zr rfl) rfl rfl rfl (cs := [.int .u64 (x.page : Nat), .int .u64 (x.frm : Nat)]) rfl rfl (fun B6 => ?_)
     refine K.l_call (Fx.cal rfl) rfl (NumsB h P a3 c3 l4 B6 37 [x.page, x.frm] (by simp; omega) (Nat.le_of_ble_eq_true rfl) (by omega)) (K.pp [0, 1] rfl) rfl ?_
     rintro u h' H' - ⟨e, rfl, a4, c4, rfl⟩
     obtain rfl := e.symm
     simp only [Go.K.nmz]
     simp only [List.flatMap_cons, List.flatMap_nil, List.append_nil]
     (repeat' first | refine X.rq ?_ | refine X.rc ?_ ?_ <;> intro hc <;> try omega)
     refine K.AT.perm (K.pp [1] rfl) ?_
     simp only [Go.K.nmz]
     refine K.AT.drop ?_
     refine K.a_round hKL (j + 1, a4, c4) (by dsimp only; omega) (by repeat (first | exact K.Sub.nil _ | refine K.Sub.cons rfl ?_)) rfl ?_ (by dsimp only; omega)
     dsimp only
     rw [hat, ← hq, dirtN]
     simp only [List.append_assoc]
    ·obtain rfl : j = r.dirty.length := by omega
     rw [List.take_length]
     generalize hq2 : l3 ++ r.dirty.flatMap dirtN = l5
     have hl5 : l5.length ≤ 4300000 := by
      have h1 := flat_len dirtN 20 r.dirty fun x _ => dirtN_len x
      have h2 : r.dirty.length * 20 ≤ 100000 * 20 := Nat.mul_le_mul_right _ hs4
      rw [← hq2, List.length_append]; omega
     (repeat' first | refine X.rq ?_ | refine X.rc ?_ ?_ <;> intro hc <;> try omega)
     refine K.l_call (Fx.cal rfl) rfl (V_Uint h P a3 c3 (l5) r.next (by omega) (by omega)) (K.pp [0] rfl) rfl ?_
     rintro u h' H' - ⟨e, rfl, a4, c4, rfl⟩
     obtain rfl := e.symm
     simp only [Go.K.nmz]
     (repeat' first | refine X.rq ?_ | refine X.rc ?_ ?_ <;> intro hc <;> try omega)
     rw [show l5 ++ cu r.next = bodyN r by rw [hbody, hf, ← hq2, el3, ← hq3, el1]; simp only [List.append_assoc]]
     refine K.a_join hJ (a4, c4) trivial (by repeat (first | exact K.Sub.nil _ | refine K.Sub.cons rfl ?_)) rfl rfl
 ·rintro ⟨a9, c9⟩ _
  dsimp only
  have hbl : (bodyN r).length ≤ 900000000 := by
   have h1 := cu_len r.txn
   have h2 := cu_len r.prev
   have h3 := cu_len r.undo
   have h4 := cu_len r.page
   have h5 := cu_len r.root
   have h6 := cu_len r.op.slot.toNat
   have h7 := cu_len r.op.txn
   have h8 := cu_len r.op.data.length
   have h9 := cu_len r.images.length
   have h10 := flat_len imgN 12040 r.images fun x hx => imgN_len (hiq x hx)
   have h11 := cu_len r.lives.length
   have h12 := flat_len liveN 31 r.lives fun x _ => liveN_len x
   have h13 := cu_len r.dirty.length
   have h14 := flat_len dirtN 20 r.dirty fun x _ => dirtN_len x
   have h15 := cu_len r.next
   have h16 : r.images.length * 12040 ≤ 66000 * 12040 := Nat.mul_le_mul_right _ hs1
   have h17 : r.lives.length * 31 ≤ 66000 * 31 := Nat.mul_le_mul_right _ hs3
   have h18 : r.dirty.length * 20 ≤ 100000 * 20 := Nat.mul_le_mul_right _ hs4
   rw [hbody]
   unfold fieldsN opN
   split
   ·simp only [List.length_append]; omega
   split
   ·simp only [List.length_append]; omega
   split
   ·split
    ·simp only [List.length_append, lebs_length]; omega
    ·simp only [List.length_append, lebs_length, List.length_nil]; omega
   split
   ·simp only [List.length_append]; omega
   split
   ·simp only [List.length_append]; omega
   ·simp only [List.length_append, List.length_nil]; omega
  (repeat' first | refine X.rq ?_ | refine X.rc ?_ ?_ <;> intro hc <;> try omega)
  refine K.l_call (Fx.cal rfl) rfl (W_Bytes h (some (P, some (a9, c9, bodyN r))) (by simp only [wb, big]; omega)) (K.pp [0] rfl) rfl ?_
  rintro v h' H' - ⟨rfl, a10, c10, rfl, rfl⟩
  simp only [Go.K.nmz]
  (repeat' first | refine X.rq ?_ | refine X.rc ?_ ?_ <;> intro hc <;> try omega)
  refine K.AT.sel [1, 1] rfl ?_
  refine K.dl rfl (H' := [bufA 5 1 a10 (bodyN r).length c10 ((bodyN r).map u8)]) rfl ⟨rfl, a10, c10, rfl, rfl⟩
end Go.Proofs.YtijbhgiigddjdaaGreat.Rc
