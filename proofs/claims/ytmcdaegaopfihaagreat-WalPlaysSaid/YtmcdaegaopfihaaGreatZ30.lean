/-
 A record's bytes, by the document. Conditions: each theorem's own.
-/
import Derived.Test.YtmcdaegaopfihaaGreatZ26
import Derived.Test.YtmcdaegaopfihaaGreatZ29
namespace Go.Proofs.YtmcdaegaopfihaaGreat.Rc
open Go Go.K Go.Proofs Go.Proofs.YtmcdaegaopfihaaGreat Go.Proofs.YtmcdaegaopfihaaGreat.Pg Go.Proofs.YtmcdaegaopfihaaGreat.Ca Go.Proofs.YtmcdaegaopfihaaGreat.Ra
set_option linter.unusedVariables false
set_option linter.unusedSimpArgs false
set_option maxRecDepth 10000

set_option maxHeartbeats 8000000 in
theorem RefFields (h : Base) (cs : List Value) (r : Recd) (hx : RecC h cs r) (hok : okR r) (hs : smallR r) :
  Tr Tryz.prog 83 [.agg cs.toArray] h [] (Gave h (fieldsN r)) := by
 obtain ⟨hw, ad, ai, al, ay, cd, ci, cl, cy, rfl, hb, ⟨es, hi1, hi2, hi3⟩, hl4, hd2⟩ := hx.cells
 obtain ⟨⟨hk1, hk8⟩, hbare, htx, hdo, him, hri, hiq, hrl, hrd⟩ := hok
 have ht4 := hw.txn
 have hp8 := hw.prev
 have hu8 := hw.undo
 have hpg := hw.page
 have hrt := hw.root
 have hnx := hw.next
 obtain ⟨hs1, hs3, hs4, hs5⟩ := hs
 have h1 := cu_len r.txn
 have h2 := cu_len r.prev
 have h3 := cu_len r.undo
 have h4 := cu_len r.page
 have h5 := cu_len r.root
 refine K.enter Tryz.func83 rfl (Nat.le_of_ble_eq_true rfl) (fun F => ?_)
 simp only [List.nil_append]
 (repeat' first | refine X.rq ?_ | refine X.rc ?_ ?_ <;> intro hc <;> try omega)
 refine K.l_box rfl rfl rfl (fun B1 => ?_)
 refine K.WL.nilBuf 5 1 ?_
 (repeat' first | refine X.rk ?_ | refine X.rd ?_ ?_ <;> intro hc <;> try omega)
 have hkk : r.kind = 1 ∨ (r.kind = 5 ∨ r.kind = 6 ∨ r.kind = 7) ∨ (r.kind = 2 ∨ r.kind = 3) ∨ r.kind = 4 ∨ r.kind = 8 := by omega
 rcases hkk with hk0 | hk0 | hk0 | hk0 | hk0
 ·(repeat' first | refine X.rq ?_ | refine X.rc ?_ ?_ <;> intro hc <;> try omega)
  refine K.l_buildSlice (Fx.und rfl) (Fx.sz rfl) rfl (Fx.zr rfl) rfl rfl rfl (cs := [.int .u64 (r.txn : Nat)]) rfl rfl (fun B101 => ?_)
  refine K.l_call (Fx.cal rfl) rfl (PutB h none 0 [] B101 27 [r.txn] (by simp; omega) (Nat.le_of_ble_eq_true rfl) (by first | omega | exact Nat.zero_le _)) (K.pp [0, 0] rfl) rfl ?_
  rintro u h' H' - ⟨e, a1, c1, rfl, rfl⟩
  obtain rfl := e.symm
  simp only [Go.K.nmz]
  simp only [List.flatMap_cons, List.flatMap_nil, List.append_nil, List.nil_append]
  (repeat' first | refine X.rq ?_ | refine X.rc ?_ ?_ <;> intro hc <;> try omega)
  refine K.AT.sel [1] rfl ?_
  rw [show cu r.txn = fieldsN r by unfold fieldsN; rw [if_pos hk0]]
  refine K.done (by first | exact Or.inl rfl | exact Or.inr rfl) rfl (by first | exact K.Base.le.refl _ | assumption) (H' := [bufA 5 1 a1 (fieldsN r).length c1 ((fieldsN r).map u8)]) rfl ⟨rfl, a1, c1, rfl, rfl⟩
 ·have hf : fieldsN r = cu r.txn ++ cu r.prev := by unfold fieldsN; rw [if_neg (by omega), if_pos hk0]
  rcases hk0 with hk0 | hk0 | hk0
  all_goals
   (repeat' first | refine X.rq ?_ | refine X.rc ?_ ?_ <;> intro hc <;> try omega)
   refine K.l_buildSlice (Fx.und rfl) (Fx.sz rfl) rfl (Fx.zr rfl) rfl rfl rfl (cs := [.int .u64 (r.txn : Nat)]) rfl rfl (fun B101 => ?_)
   refine K.l_call (Fx.cal rfl) rfl (PutB h none 0 [] B101 27 [r.txn] (by simp; omega) (Nat.le_of_ble_eq_true rfl) (by first | omega | exact Nat.zero_le _)) (K.pp [0, 0] rfl) rfl ?_
   rintro u h' H' - ⟨e, a1, c1, rfl, rfl⟩
   obtain rfl := e.symm
   simp only [Go.K.nmz]
   simp only [List.flatMap_cons, List.flatMap_nil, List.append_nil, List.nil_append]
   (repeat' first | refine X.rq ?_ | refine X.rc ?_ ?_ <;> intro hc <;> try omega)
   refine K.l_buildSlice (Fx.und rfl) (Fx.sz rfl) rfl (Fx.zr rfl) rfl rfl rfl (cs := [.int .u64 (r.prev : Nat)]) rfl rfl (fun B102 => ?_)
   refine K.l_call (Fx.cal rfl) rfl (PutB h a1 c1 (cu r.txn) B102 27 [r.prev] (by simp; omega) (Nat.le_of_ble_eq_true rfl) (by first | omega | exact Nat.zero_le _)) (K.pp [0, 0] rfl) rfl ?_
   rintro u h' H' - ⟨e, a2, c2, rfl, rfl⟩
   obtain rfl := e.symm
   simp only [Go.K.nmz]
   simp only [List.flatMap_cons, List.flatMap_nil, List.append_nil, List.nil_append]
   (repeat' first | refine X.rq ?_ | refine X.rc ?_ ?_ <;> intro hc <;> try omega)
   refine K.AT.sel [1] rfl ?_
   rw [show cu r.txn ++ cu r.prev = fieldsN r by rw [hf]]
   refine K.done (by first | exact Or.inl rfl | exact Or.inr rfl) rfl (by first | exact K.Base.le.refl _ | assumption) (H' := [bufA 5 1 a2 (fieldsN r).length c2 ((fieldsN r).map u8)]) rfl ⟨rfl, a2, c2, rfl, rfl⟩
 ·have hd := hdo hk0
  obtain ⟨hd1, hd2', hd3, hd4, hd5⟩ := hd
  have hor : 1 ≤ r.op.kind ∧ r.op.kind ≤ 4 := hd3.2.1
  have hot := hw.op.txn
  obtain ⟨ok, hko⟩ : ∃ n : Nat, r.op.kind = n := ⟨r.op.kind.toNat, by omega⟩
  obtain ⟨os, hso⟩ : ∃ n : Nat, r.op.slot = n := ⟨r.op.slot.toNat, by omega⟩
  have hop : opN r.op = lebs ok 1 ++ cu os ++ cu r.op.txn ++ cu r.op.data.length ++ r.op.data := by unfold opN; rw [hko, hso, Int.toNat_natCast, Int.toNat_natCast]
  have hf : fieldsN r = cu r.txn ++ cu r.prev ++ (if r.kind = 3 then cu r.undo else []) ++ cu r.page ++ cu r.root ++ opN r.op := by unfold fieldsN; rw [if_neg (by omega), if_neg (by omega), if_pos hk0]
  rw [hop] at hf
  have h6 := cu_len os
  have h7 := cu_len r.op.txn
  have h8 := cu_len r.op.data.length
  have hl1 := lebs_length 1 ok
  rcases hk0 with hk0 | hk0
  ·(repeat' first | refine X.rq ?_ | refine X.rc ?_ ?_ <;> intro hc <;> try omega)
   refine K.l_buildSlice (Fx.und rfl) (Fx.sz rfl) rfl (Fx.zr rfl) rfl rfl rfl (cs := [.int .u64 (r.txn : Nat)]) rfl rfl (fun B101 => ?_)
   refine K.l_call (Fx.cal rfl) rfl (PutB h none 0 [] B101 27 [r.txn] (by simp; omega) (Nat.le_of_ble_eq_true rfl) (by first | omega | exact Nat.zero_le _)) (K.pp [0, 0] rfl) rfl ?_
   rintro u h' H' - ⟨e, a1, c1, rfl, rfl⟩
   obtain rfl := e.symm
   simp only [Go.K.nmz]
   simp only [List.flatMap_cons, List.flatMap_nil, List.append_nil, List.nil_append]
   (repeat' first | refine X.rq ?_ | refine X.rc ?_ ?_ <;> intro hc <;> try omega)
   refine K.l_buildSlice (Fx.und rfl) (Fx.sz rfl) rfl (Fx.zr rfl) rfl rfl rfl (cs := [.int .u64 (r.prev : Nat)]) rfl rfl (fun B102 => ?_)
   refine K.l_call (Fx.cal rfl) rfl (PutB h a1 c1 (cu r.txn) B102 27 [r.prev] (by simp; omega) (Nat.le_of_ble_eq_true rfl) (by first | omega | exact Nat.zero_le _)) (K.pp [0, 0] rfl) rfl ?_
   rintro u h' H' - ⟨e, a2, c2, rfl, rfl⟩
   obtain rfl := e.symm
   simp only [Go.K.nmz]
   simp only [List.flatMap_cons, List.flatMap_nil, List.append_nil, List.nil_append]
   obtain ⟨l1, el1⟩ : ∃ l, l = cu r.txn ++ cu r.prev := ⟨_, rfl⟩
   have nl1 : l1.length ≤ 30 := by rw [el1]; (try simp only [List.length_append]); omega
   rw [← el1]
   (repeat' first | refine X.rq ?_ | refine X.rc ?_ ?_ <;> intro hc <;> try omega)
   refine K.l_buildSlice (Fx.und rfl) (Fx.sz rfl) rfl (Fx.zr rfl) rfl rfl rfl (cs := [.int .u64 (r.page : Nat), .int .u64 (r.root : Nat)]) rfl rfl (fun B103 => ?_)
   refine K.l_call (Fx.cal rfl) rfl (PutB h a2 c2 l1 B103 27 [r.page, r.root] (by simp; omega) (Nat.le_of_ble_eq_true rfl) (by first | omega | exact Nat.zero_le _)) (K.pp [0, 0] rfl) rfl ?_
   rintro u h' H' - ⟨e, a3, c3, rfl, rfl⟩
   obtain rfl := e.symm
   simp only [Go.K.nmz]
   simp only [List.flatMap_cons, List.flatMap_nil, List.append_nil, List.nil_append]
   obtain ⟨l3, el3⟩ : ∃ l, l = l1 ++ (cu r.page ++ cu r.root) := ⟨_, rfl⟩
   have nl3 : l3.length ≤ 80 := by rw [el3]; (try simp only [List.length_append]); omega
   rw [← el3]
   (repeat' first | refine X.rq ?_ | refine X.rc ?_ ?_ <;> intro hc <;> try omega)
   simp only [hko]
   (repeat' first | refine X.rq ?_ | refine X.rc ?_ ?_ <;> intro hc <;> try omega)
   refine X.bs (fun B204 => ?_)
   rw [show [Value.int .u8 ok] = (lebs ok 1).map u8 from one_u8 (k := ok) (by first | decide | omega)]
   refine K.WL.bufOf (m := 1) (s := 1) (by simp [lebs_length]) (by unfold maxLen; omega) ?_
   refine l_appBB (l := l3) (l2 := lebs ok 1) (Fx.und rfl) (Fx.und rfl) rfl rfl (by rw [lebs_length]; omega) rfl (fun a4 c4 => ?_)
   obtain ⟨l4, el4⟩ : ∃ l, l = l3 ++ lebs ok 1 := ⟨_, rfl⟩
   have nl4 : l4.length ≤ 90 := by rw [el4]; (try simp only [List.length_append]); omega
   rw [← el4]
   (repeat' first | refine X.rq ?_ | refine X.rc ?_ ?_ <;> intro hc <;> try omega)
   simp only [hso]
   (repeat' first | refine X.rq ?_ | refine X.rc ?_ ?_ <;> intro hc <;> try omega)
   refine K.l_buildSlice (Fx.und rfl) (Fx.sz rfl) rfl (Fx.zr rfl) rfl rfl rfl (cs := [.int .u64 (os : Nat), .int .u64 (r.op.txn : Nat)]) rfl rfl (fun B105 => ?_)
   refine K.l_call (Fx.cal rfl) rfl (PutB h a4 c4 l4 B105 27 [os, r.op.txn] (by simp; omega) (Nat.le_of_ble_eq_true rfl) (by first | omega | exact Nat.zero_le _)) (K.pp [0, 0] rfl) rfl ?_
   rintro u h' H' - ⟨e, a5, c5, rfl, rfl⟩
   obtain rfl := e.symm
   simp only [Go.K.nmz]
   simp only [List.flatMap_cons, List.flatMap_nil, List.append_nil, List.nil_append]
   obtain ⟨l5, el5⟩ : ∃ l, l = l4 ++ (cu os ++ cu r.op.txn) := ⟨_, rfl⟩
   have nl5 : l5.length ≤ 120 := by rw [el5]; (try simp only [List.length_append]); omega
   rw [← el5]
   (repeat' first | refine X.rq ?_ | refine X.rc ?_ ?_ <;> intro hc <;> try omega)
   refine K.s_pure (K.p_textB hb (Fx.und rfl) (Fx.und rfl) (Fx.und rfl) rfl) rfl ?_
   refine K.l_call (Fx.cal rfl) rfl (RefText h ⟨r.op.data.toArray⟩ (by show r.op.data.length ≤ _; omega)) (K.pp [] rfl) rfl ?_
   rintro u h' H' - ⟨rfl, a91, c91, rfl, rfl⟩
   simp only [Go.K.nmz]
   skip
   refine l_appBB (l := l5) (l2 := cu r.op.data.length ++ r.op.data) (Fx.und rfl) (Fx.und rfl) rfl rfl (by rw [List.length_append]; omega) rfl (fun a6 c6 => ?_)
   (repeat' first | refine X.rq ?_ | refine X.rc ?_ ?_ <;> intro hc <;> try omega)
   refine K.AT.sel [1] rfl ?_
   rw [show l5 ++ (cu r.op.data.length ++ r.op.data) = fieldsN r by rw [hf, el5, el4, el3, el1, if_neg (by omega)]; simp only [List.append_assoc, List.nil_append]]
   refine K.done (by first | exact Or.inl rfl | exact Or.inr rfl) rfl (by first | exact K.Base.le.refl _ | assumption) (H' := [bufA 5 1 a6 (fieldsN r).length c6 ((fieldsN r).map u8)]) rfl ⟨rfl, a6, c6, rfl, rfl⟩
  ·(repeat' first | refine X.rq ?_ | refine X.rc ?_ ?_ <;> intro hc <;> try omega)
   refine K.l_buildSlice (Fx.und rfl) (Fx.sz rfl) rfl (Fx.zr rfl) rfl rfl rfl (cs := [.int .u64 (r.txn : Nat)]) rfl rfl (fun B101 => ?_)
   refine K.l_call (Fx.cal rfl) rfl (PutB h none 0 [] B101 27 [r.txn] (by simp; omega) (Nat.le_of_ble_eq_true rfl) (by first | omega | exact Nat.zero_le _)) (K.pp [0, 0] rfl) rfl ?_
   rintro u h' H' - ⟨e, a1, c1, rfl, rfl⟩
   obtain rfl := e.symm
   simp only [Go.K.nmz]
   simp only [List.flatMap_cons, List.flatMap_nil, List.append_nil, List.nil_append]
   (repeat' first | refine X.rq ?_ | refine X.rc ?_ ?_ <;> intro hc <;> try omega)
   refine K.l_buildSlice (Fx.und rfl) (Fx.sz rfl) rfl (Fx.zr rfl) rfl rfl rfl (cs := [.int .u64 (r.prev : Nat)]) rfl rfl (fun B102 => ?_)
   refine K.l_call (Fx.cal rfl) rfl (PutB h a1 c1 (cu r.txn) B102 27 [r.prev] (by simp; omega) (Nat.le_of_ble_eq_true rfl) (by first | omega | exact Nat.zero_le _)) (K.pp [0, 0] rfl) rfl ?_
   rintro u h' H' - ⟨e, a2, c2, rfl, rfl⟩
   obtain rfl := e.symm
   simp only [Go.K.nmz]
   simp only [List.flatMap_cons, List.flatMap_nil, List.append_nil, List.nil_append]
   obtain ⟨l1, el1⟩ : ∃ l, l = cu r.txn ++ cu r.prev := ⟨_, rfl⟩
   have nl1 : l1.length ≤ 30 := by rw [el1]; (try simp only [List.length_append]); omega
   rw [← el1]
   (repeat' first | refine X.rq ?_ | refine X.rc ?_ ?_ <;> intro hc <;> try omega)
   refine K.l_buildSlice (Fx.und rfl) (Fx.sz rfl) rfl (Fx.zr rfl) rfl rfl rfl (cs := [.int .u64 (r.undo : Nat)]) rfl rfl (fun B103 => ?_)
   refine K.l_call (Fx.cal rfl) rfl (PutB h a2 c2 l1 B103 27 [r.undo] (by simp; omega) (Nat.le_of_ble_eq_true rfl) (by first | omega | exact Nat.zero_le _)) (K.pp [0, 0] rfl) rfl ?_
   rintro u h' H' - ⟨e, a3, c3, rfl, rfl⟩
   obtain rfl := e.symm
   simp only [Go.K.nmz]
   simp only [List.flatMap_cons, List.flatMap_nil, List.append_nil, List.nil_append]
   obtain ⟨l2, el2⟩ : ∃ l, l = l1 ++ cu r.undo := ⟨_, rfl⟩
   have nl2 : l2.length ≤ 50 := by rw [el2]; (try simp only [List.length_append]); omega
   rw [← el2]
   (repeat' first | refine X.rq ?_ | refine X.rc ?_ ?_ <;> intro hc <;> try omega)
   refine K.l_buildSlice (Fx.und rfl) (Fx.sz rfl) rfl (Fx.zr rfl) rfl rfl rfl (cs := [.int .u64 (r.page : Nat), .int .u64 (r.root : Nat)]) rfl rfl (fun B104 => ?_)
   refine K.l_call (Fx.cal rfl) rfl (PutB h a3 c3 l2 B104 27 [r.page, r.root] (by simp; omega) (Nat.le_of_ble_eq_true rfl) (by first | omega | exact Nat.zero_le _)) (K.pp [0, 0] rfl) rfl ?_
   rintro u h' H' - ⟨e, a4, c4, rfl, rfl⟩
   obtain rfl := e.symm
   simp only [Go.K.nmz]
   simp only [List.flatMap_cons, List.flatMap_nil, List.append_nil, List.nil_append]
   obtain ⟨l3, el3⟩ : ∃ l, l = l2 ++ (cu r.page ++ cu r.root) := ⟨_, rfl⟩
   have nl3 : l3.length ≤ 80 := by rw [el3]; (try simp only [List.length_append]); omega
   rw [← el3]
   (repeat' first | refine X.rq ?_ | refine X.rc ?_ ?_ <;> intro hc <;> try omega)
   simp only [hko]
   (repeat' first | refine X.rq ?_ | refine X.rc ?_ ?_ <;> intro hc <;> try omega)
   refine X.bs (fun B205 => ?_)
   rw [show [Value.int .u8 ok] = (lebs ok 1).map u8 from one_u8 (k := ok) (by first | decide | omega)]
   refine K.WL.bufOf (m := 1) (s := 1) (by simp [lebs_length]) (by unfold maxLen; omega) ?_
   refine l_appBB (l := l3) (l2 := lebs ok 1) (Fx.und rfl) (Fx.und rfl) rfl rfl (by rw [lebs_length]; omega) rfl (fun a5 c5 => ?_)
   obtain ⟨l4, el4⟩ : ∃ l, l = l3 ++ lebs ok 1 := ⟨_, rfl⟩
   have nl4 : l4.length ≤ 90 := by rw [el4]; (try simp only [List.length_append]); omega
   rw [← el4]
   (repeat' first | refine X.rq ?_ | refine X.rc ?_ ?_ <;> intro hc <;> try omega)
   simp only [hso]
   (repeat' first | refine X.rq ?_ | refine X.rc ?_ ?_ <;> intro hc <;> try omega)
   refine K.l_buildSlice (Fx.und rfl) (Fx.sz rfl) rfl (Fx.zr rfl) rfl rfl rfl (cs := [.int .u64 (os : Nat), .int .u64 (r.op.txn : Nat)]) rfl rfl (fun B106 => ?_)
   refine K.l_call (Fx.cal rfl) rfl (PutB h a5 c5 l4 B106 27 [os, r.op.txn] (by simp; omega) (Nat.le_of_ble_eq_true rfl) (by first | omega | exact Nat.zero_le _)) (K.pp [0, 0] rfl) rfl ?_
   rintro u h' H' - ⟨e, a6, c6, rfl, rfl⟩
   obtain rfl := e.symm
   simp only [Go.K.nmz]
   simp only [List.flatMap_cons, List.flatMap_nil, List.append_nil, List.nil_append]
   obtain ⟨l5, el5⟩ : ∃ l, l = l4 ++ (cu os ++ cu r.op.txn) := ⟨_, rfl⟩
   have nl5 : l5.length ≤ 120 := by rw [el5]; (try simp only [List.length_append]); omega
   rw [← el5]
   (repeat' first | refine X.rq ?_ | refine X.rc ?_ ?_ <;> intro hc <;> try omega)
   refine K.s_pure (K.p_textB hb (Fx.und rfl) (Fx.und rfl) (Fx.und rfl) rfl) rfl ?_
   refine K.l_call (Fx.cal rfl) rfl (RefText h ⟨r.op.data.toArray⟩ (by show r.op.data.length ≤ _; omega)) (K.pp [] rfl) rfl ?_
   rintro u h' H' - ⟨rfl, a91, c91, rfl, rfl⟩
   simp only [Go.K.nmz]
   skip
   refine l_appBB (l := l5) (l2 := cu r.op.data.length ++ r.op.data) (Fx.und rfl) (Fx.und rfl) rfl rfl (by rw [List.length_append]; omega) rfl (fun a7 c7 => ?_)
   (repeat' first | refine X.rq ?_ | refine X.rc ?_ ?_ <;> intro hc <;> try omega)
   refine K.AT.sel [1] rfl ?_
   rw [show l5 ++ (cu r.op.data.length ++ r.op.data) = fieldsN r by rw [hf, el5, el4, el3, el2, el1, if_pos hk0]; simp only [List.append_assoc, List.nil_append]]
   refine K.done (by first | exact Or.inl rfl | exact Or.inr rfl) rfl (by first | exact K.Base.le.refl _ | assumption) (H' := [bufA 5 1 a7 (fieldsN r).length c7 ((fieldsN r).map u8)]) rfl ⟨rfl, a7, c7, rfl, rfl⟩
 ·have hf : fieldsN r = cu r.images.length ++ r.images.flatMap imgN := by unfold fieldsN; rw [if_neg (by omega), if_neg (by omega), if_neg (by omega), if_pos hk0]
  have h9 := cu_len r.images.length
  (repeat' first | refine X.rq ?_ | refine X.rc ?_ ?_ <;> intro hc <;> try omega)
  refine K.l_buildSlice (Fx.und rfl) (Fx.sz rfl) rfl (Fx.zr rfl) rfl rfl rfl (cs := [.int .u64 (r.images.length : Nat)]) rfl rfl (fun B101 => ?_)
  refine K.l_call (Fx.cal rfl) rfl (PutB h none 0 [] B101 27 [r.images.length] (by simp; omega) (Nat.le_of_ble_eq_true rfl) (by first | omega | exact Nat.zero_le _)) (K.pp [0, 0] rfl) rfl ?_
  rintro u h' H' - ⟨e, a1, c1, rfl, rfl⟩
  obtain rfl := e.symm
  simp only [Go.K.nmz]
  simp only [List.flatMap_cons, List.flatMap_nil, List.append_nil, List.nil_append]
  obtain ⟨l1, el1⟩ : ∃ l, l = cu r.images.length := ⟨_, rfl⟩
  have nl1 : l1.length ≤ 10 := by rw [el1]; (try simp only [List.length_append]); omega
  rw [← el1]
  (repeat' first | refine X.rq ?_ | refine X.rc ?_ ?_ <;> intro hc <;> try omega)
  refine K.c_loop (σ := Nat × Option Nat × Nat × List UInt8) (fun s => [(1, .pointer (some ⟨B1, 0, none⟩)), (3, bufV s.2.1 s.2.2.2.length s.2.2.1), (4, .int .i64 s.1)]) (fun _ => h)
   (fun s => bufA 5 1 s.2.1 s.2.2.2.length s.2.2.1 (s.2.2.2.map u8) :: blk B1 45 (cR r (.slice ad r.op.data.length cd) (.slice ai r.images.length ci) (.slice al r.lives.length cl) (.slice ay r.dirty.length cy)) :: F) (fun s => s.1 ≤ r.images.length ∧ s.2.2.2 = l1 ++ (r.images.take s.1).flatMap imgN) (fun s => r.images.length - s.1) (0, a1, c1, l1) ⟨Nat.zero_le _, by simp⟩ (by repeat (first | exact K.Sub.nil _ | refine K.Sub.cons rfl ?_)) rfl rfl ?_
  rintro ⟨j, a2, c2, l2⟩ ⟨hj, hl2⟩ KL hKL
  dsimp only at hj hl2 ⊢
  by_cases hjl : j < r.images.length
  ·have hc1 : es[j]? = some (es[j]'(by omega)) := List.getElem?_eq_getElem (by omega)
   have hc0 : es[((j : Nat) : Int).toNat]? = some (es[j]'(by omega)) := by rw [Int.toNat_natCast]; exact hc1
   have he1 : r.images[j]? = some r.images[j] := List.getElem?_eq_getElem hjl
   have hq1 := hiq _ (List.getElem_mem hjl)
   have hl3 : ((r.images.take j).flatMap imgN).length ≤ 794640000 := by
    have h1 := flat_len imgN 12040 (r.images.take j) fun x hx => imgN_len (hiq x (List.mem_of_mem_take hx))
    have h2 : (r.images.take j).length * 12040 ≤ 66000 * 12040 := Nat.mul_le_mul_right _ (by rw [List.length_take]; omega)
    omega
   have hat := flat_at imgN he1
   generalize es[j]'(by omega) = cc at hc0 hc1
   generalize r.images[j] = x at he1 hq1 hat
   obtain ⟨hpl, cs5, rfl, hpx⟩ := hi3 j cc x hc1 he1
   have hmx : mayQ x.to = true := by unfold imgQ at hq1; rw [Bool.and_eq_true] at hq1; exact hq1.1
   obtain ⟨⟨hkm1, hkm3⟩, h60, hcells, hz512⟩ := (mayQ_iff x.to).1 hmx
   have hokc := may_ok hmx
   obtain ⟨hw5, cv5, rfl, es5, hv5, hel5, hr5⟩ := hpx
   obtain ⟨ao5, ca5, rfl⟩ := hv5.len
   rw [hel5] at hv5 hc0 hc1
   have hwn := hw5.next
   obtain ⟨k, hk⟩ : ∃ k : Nat, x.to.kind = k := ⟨x.to.kind.toNat, by omega⟩
   have hpagN : pagN x.to = lebs k 1 ++ cu x.to.next ++ cu x.to.cells.length ++ cellsN x.to.cells := by unfold pagN; rw [hk]; rfl
   have h10 := cu_len x.page
   have h11 := cu_len x.to.next
   have h12 := cu_len x.to.cells.length
   have hl2n : l2.length ≤ 794640011 := by rw [hl2, List.length_append]; omega
   (repeat' first | refine X.rq ?_ | refine X.rc ?_ ?_ <;> intro hc <;> try omega)
   refine K.s_pureE (K.p_indexL hi1 (Fx.und rfl) (Fx.sz rfl) rfl rfl (by omega) hc0) rfl ?_
   rintro v2 ⟨b, o, rfl, hcel⟩
   (repeat' first | refine X.rq ?_ | refine X.rc ?_ ?_ <;> intro hc <;> try omega)
   refine K.s_pure (K.p_loadM (Fx.agg rfl) rfl (Cels.up hcel.2) (Fx.sz rfl) rfl) rfl ?_
   refine K.l_alloc (Fx.zr rfl) rfl rfl (fun B5 => ?_)
   refine X.stw ?_
   simp only [Go.K.nmz]
   (repeat' first | refine X.rq ?_ | refine X.rc ?_ ?_ <;> intro hc <;> try omega)
   refine K.s_pureE (K.p_indexL hi1 (Fx.und rfl) (Fx.sz rfl) rfl rfl (by omega) hc0) rfl ?_
   rintro v3 ⟨b3, o3, rfl, hcel3⟩
   (repeat' first | refine X.rq ?_ | refine X.rc ?_ ?_ <;> intro hc <;> try omega)
   refine K.s_pure (K.p_load (Fx.agg rfl) rfl (K.Cel.up hcel3.1)) rfl ?_
   (repeat' first | refine X.rq ?_ | refine X.rc ?_ ?_ <;> intro hc <;> try omega)
   refine K.l_buildSlice (Fx.und rfl) (Fx.sz rfl) rfl (Fx.zr rfl) rfl rfl rfl (cs := [.int .u64 (x.page : Nat)]) rfl rfl (fun B103 => ?_)
   refine K.l_call (Fx.cal rfl) rfl (PutB h a2 c2 l2 B103 27 [x.page] (by simp; omega) (Nat.le_of_ble_eq_true rfl) (by first | omega | exact Nat.zero_le _)) (K.pp [0, 1] rfl) rfl ?_
   rintro u h' H' - ⟨e, a3, c3, rfl, rfl⟩
   obtain rfl := e.symm
   simp only [Go.K.nmz]
   simp only [List.flatMap_cons, List.flatMap_nil, List.append_nil, List.nil_append]
   obtain ⟨l3, el3⟩ : ∃ l, l = l2 ++ cu x.page := ⟨_, rfl⟩
   have nl3 : l3.length ≤ 794640021 := by rw [el3]; (try simp only [List.length_append]); omega
   rw [← el3]
   (repeat' first | refine X.rq ?_ | refine X.rc ?_ ?_ <;> intro hc <;> try omega)
   simp only [hk]
   (repeat' first | refine X.rq ?_ | refine X.rc ?_ ?_ <;> intro hc <;> try omega)
   refine X.bs (fun B204 => ?_)
   rw [show [Value.int .u8 k] = (lebs k 1).map u8 from one_u8 (k := k) (by first | decide | omega)]
   refine K.WL.bufOf (m := 1) (s := 1) (by simp [lebs_length]) (by unfold maxLen; omega) ?_
   refine l_appBB (l := l3) (l2 := lebs k 1) (Fx.und rfl) (Fx.und rfl) rfl rfl (by rw [lebs_length]; omega) rfl (fun a4 c4 => ?_)
   obtain ⟨l4, el4⟩ : ∃ l, l = l3 ++ lebs k 1 := ⟨_, rfl⟩
   have nl4 : l4.length ≤ 794640022 := by rw [el4]; (try simp only [List.length_append, lebs_length]); omega
   rw [← el4]
   (repeat' first | refine X.rq ?_ | refine X.rc ?_ ?_ <;> intro hc <;> try omega)
   refine K.l_buildSlice (Fx.und rfl) (Fx.sz rfl) rfl (Fx.zr rfl) rfl rfl rfl (cs := [.int .u64 (x.to.next : Nat), .int .u64 (x.to.cells.length : Nat)]) rfl rfl (fun B105 => ?_)
   refine K.l_call (Fx.cal rfl) rfl (PutB h a4 c4 l4 B105 27 [x.to.next, x.to.cells.length] (by simp; omega) (Nat.le_of_ble_eq_true rfl) (by first | omega | exact Nat.zero_le _)) (K.pp [0, 0] rfl) rfl ?_
   rintro u h' H' - ⟨e, a5, c5, rfl, rfl⟩
   obtain rfl := e.symm
   simp only [Go.K.nmz]
   simp only [List.flatMap_cons, List.flatMap_nil, List.append_nil, List.nil_append]
   obtain ⟨l5, el5⟩ : ∃ l, l = l4 ++ (cu x.to.next ++ cu x.to.cells.length) := ⟨_, rfl⟩
   have nl5 : l5.length ≤ 794640042 := by rw [el5]; (try simp only [List.length_append]); omega
   rw [← el5]
   (repeat' first | refine X.rq ?_ | refine X.rc ?_ ?_ <;> intro hc <;> try omega)
   skip
   refine K.c_loop (σ := Nat × Option Nat × Nat × List UInt8) (fun s => [(1, .pointer (some ⟨B1, 0, none⟩)), (3, bufV s.2.1 s.2.2.2.length s.2.2.1), (4, .int .i64 j), (5, .pointer (some ⟨B5, 0, none⟩)), (6, .int .i64 s.1)]) (fun _ => h)
    (fun s => bufA 5 1 s.2.1 s.2.2.2.length s.2.2.1 (s.2.2.2.map u8) :: blk B5 86 (cP x.to (.slice ao5 x.to.cells.length ca5)) :: blk B1 45 (cR r (.slice ad r.op.data.length cd) (.slice ai r.images.length ci) (.slice al r.lives.length cl) (.slice ay r.dirty.length cy)) :: F) (fun s => s.1 ≤ x.to.cells.length ∧ s.2.2.2 = l5 ++ cellsN (x.to.cells.take s.1)) (fun s => x.to.cells.length - s.1) (0, a5, c5, l5) ⟨Nat.zero_le _, by simp [cellsN]⟩ (by repeat (first | exact K.Sub.nil _ | refine K.Sub.cons rfl ?_)) rfl rfl ?_
   rintro ⟨i, a6, c6, l6⟩ ⟨hi, hl6⟩ KC hKC
   dsimp only at hi hl6 ⊢
   by_cases hil : i < x.to.cells.length
   ·have hd1 : es5[i]? = some (es5[i]'(by omega)) := List.getElem?_eq_getElem (by omega)
    have hd0 : es5[((i : Nat) : Int).toNat]? = some (es5[i]'(by omega)) := by rw [Int.toNat_natCast]; exact hd1
    have hy1 : x.to.cells[i]? = some x.to.cells[i] := List.getElem?_eq_getElem hil
    have hox := hokc _ (List.getElem_mem hil)
    have haty := flat_at cellN hy1
    have hl7 : (cellsN (x.to.cells.take i)).length ≤ 12000 := by
     have h1 := flat_len cellN 200 (x.to.cells.take i) fun y hy => cellN_len (hokc y (List.mem_of_mem_take hy))
     have h2 : (x.to.cells.take i).length * 200 ≤ 60 * 200 := Nat.mul_le_mul_right _ (by rw [List.length_take]; omega)
     unfold cellsN; omega
    generalize es5[i]'(by omega) = cy5 at hd0 hd1
    generalize x.to.cells[i] = y at hy1 hox haty
    obtain ⟨hkl, hdl, ao3, ca3, rfl, hbv⟩ := hr5 i cy5 y hd1 hy1
    have hyd : y.data.length ≤ 180 := by
     cases hu : y.used with
     | true => have := hox.1 hu; omega
     | false => have := hox.2 hu; omega
    have h13 := cu_len y.data.length
    have h14 := cu_len y.killer
    have hl6n : l6.length ≤ 794660000 := by rw [hl6, List.length_append]; omega
    (repeat' first | refine X.rq ?_ | refine X.rc ?_ ?_ <;> intro hc <;> try omega)
    refine K.s_pureE (K.p_indexL hv5 (Fx.und rfl) (Fx.sz rfl) rfl rfl (by omega) hd0) rfl ?_
    rintro v4 ⟨b4, o4, rfl, hcel4⟩
    refine K.s_pure (K.p_loadM (Fx.agg rfl) rfl (Cels.up hcel4) (Fx.sz rfl) rfl) rfl ?_
    refine K.l_alloc (Fx.zr rfl) rfl rfl (fun B7 => ?_)
    refine X.stw ?_
    simp only [Go.K.nmz]
    (repeat' first | refine X.rq ?_ | refine X.rc ?_ ?_ <;> intro hc <;> try omega)
    refine K.l_buildSlice (Fx.und rfl) (Fx.sz rfl) rfl (Fx.zr rfl) rfl rfl rfl (cs := [.int .u64 (y.data.length : Nat)]) rfl rfl (fun B107 => ?_)
    refine K.l_call (Fx.cal rfl) rfl (PutB h a6 c6 l6 B107 27 [y.data.length] (by simp; omega) (Nat.le_of_ble_eq_true rfl) (by first | omega | exact Nat.zero_le _)) (K.pp [0, 1] rfl) rfl ?_
    rintro u h' H' - ⟨e, a7, c7, rfl, rfl⟩
    obtain rfl := e.symm
    simp only [Go.K.nmz]
    simp only [List.flatMap_cons, List.flatMap_nil, List.append_nil, List.nil_append]
    obtain ⟨l7, el7⟩ : ∃ l, l = l6 ++ cu y.data.length := ⟨_, rfl⟩
    have nl7 : l7.length ≤ 794660010 := by rw [el7]; (try simp only [List.length_append]); omega
    rw [← el7]
    cases hu : y.used with
    | true =>
     (repeat' first | refine X.rq ?_ | refine X.rc ?_ ?_ <;> intro hc <;> try omega)
     refine K.l_buildSlice (Fx.und rfl) (Fx.sz rfl) rfl (Fx.zr rfl) rfl rfl rfl (cs := [.int .u64 (y.killer : Nat)]) rfl rfl (fun B108 => ?_)
     refine K.l_call (Fx.cal rfl) rfl (PutB h a7 c7 l7 B108 27 [y.killer] (by simp; omega) (Nat.le_of_ble_eq_true rfl) (by first | omega | exact Nat.zero_le _)) (K.pp [0, 0] rfl) rfl ?_
     rintro u h' H' - ⟨e, a8, c8, rfl, rfl⟩
     obtain rfl := e.symm
     simp only [Go.K.nmz]
     simp only [List.flatMap_cons, List.flatMap_nil, List.append_nil, List.nil_append]
     obtain ⟨l8, el8⟩ : ∃ l, l = l7 ++ cu y.killer := ⟨_, rfl⟩
     have nl8 : l8.length ≤ 794660020 := by rw [el8]; (try simp only [List.length_append]); omega
     rw [← el8]
     (repeat' first | refine X.rq ?_ | refine X.rc ?_ ?_ <;> intro hc <;> try omega)
     refine l_appBV hbv (Fx.und rfl) (Fx.und rfl) rfl rfl (by omega) rfl (fun a9 c9 => ?_)
     (repeat' first | refine X.rq ?_ | refine X.rc ?_ ?_ <;> intro hc <;> try omega)
     refine K.AT.sel [1] rfl ?_
     refine K.a_round hKC (i + 1, a9, c9, l8 ++ y.data) ⟨by dsimp only; omega, ?_⟩ (by repeat (first | exact K.Sub.nil _ | refine K.Sub.cons rfl ?_)) rfl rfl (by dsimp only; omega)
     dsimp only
     unfold cellsN at hl6 ⊢
     rw [haty, el8, el7, hl6, cellN, if_pos hu]
     simp only [List.append_assoc]
    | false =>
     (repeat' first | refine X.rq ?_ | refine X.rc ?_ ?_ <;> intro hc <;> try omega)
     refine K.AT.sel [1] rfl ?_
     refine K.a_round hKC (i + 1, a7, c7, l7) ⟨by dsimp only; omega, ?_⟩ (by repeat (first | exact K.Sub.nil _ | refine K.Sub.cons rfl ?_)) rfl rfl (by dsimp only; omega)
     dsimp only
     unfold cellsN at hl6 ⊢
     rw [haty, el7, hl6, cellN, if_neg (by rw [hu]; decide), List.append_nil]
     simp only [List.append_assoc]
   ·obtain rfl : i = x.to.cells.length := by omega
    rw [List.take_length] at hl6
    skip
    (repeat' first | refine X.rq ?_ | refine X.rc ?_ ?_ <;> intro hc <;> try omega)
    refine K.AT.sel [1] rfl ?_
    refine K.a_round hKL (j + 1, a6, c6, l6) ⟨by dsimp only; omega, ?_⟩ (by repeat (first | exact K.Sub.nil _ | refine K.Sub.cons rfl ?_)) rfl rfl (by dsimp only; omega)
    dsimp only
    rw [hat, hl6, el5, el4, el3, hl2, imgN, hpagN]
    simp only [List.append_assoc]
  ·obtain rfl : j = r.images.length := by omega
   rw [List.take_length] at hl2
   (repeat' first | refine X.rq ?_ | refine X.rc ?_ ?_ <;> intro hc <;> try omega)
   refine K.AT.sel [1] rfl ?_
   rw [show l2 = fieldsN r by rw [hl2, el1, hf]]
   refine K.done (by first | exact Or.inl rfl | exact Or.inr rfl) rfl (by first | exact K.Base.le.refl _ | assumption) (H' := [bufA 5 1 a2 (fieldsN r).length c2 ((fieldsN r).map u8)]) rfl ⟨rfl, a2, c2, rfl, rfl⟩
 ·have hf : fieldsN r = cu r.lives.length ++ r.lives.flatMap liveN ++ cu r.dirty.length ++ r.dirty.flatMap dirtN ++ cu r.next := by unfold fieldsN; rw [if_neg (by omega), if_neg (by omega), if_neg (by omega), if_neg (by omega), if_pos hk0]
  have h9 := cu_len r.lives.length
  have h10 := cu_len r.dirty.length
  have h11 := cu_len r.next
  (repeat' first | refine X.rq ?_ | refine X.rc ?_ ?_ <;> intro hc <;> try omega)
  refine K.l_buildSlice (Fx.und rfl) (Fx.sz rfl) rfl (Fx.zr rfl) rfl rfl rfl (cs := [.int .u64 (r.lives.length : Nat)]) rfl rfl (fun B101 => ?_)
  refine K.l_call (Fx.cal rfl) rfl (PutB h none 0 [] B101 27 [r.lives.length] (by simp; omega) (Nat.le_of_ble_eq_true rfl) (by first | omega | exact Nat.zero_le _)) (K.pp [0, 0] rfl) rfl ?_
  rintro u h' H' - ⟨e, a1, c1, rfl, rfl⟩
  obtain rfl := e.symm
  simp only [Go.K.nmz]
  simp only [List.flatMap_cons, List.flatMap_nil, List.append_nil, List.nil_append]
  obtain ⟨l1, el1⟩ : ∃ l, l = cu r.lives.length := ⟨_, rfl⟩
  have nl1 : l1.length ≤ 10 := by rw [el1]; (try simp only [List.length_append]); omega
  rw [← el1]
  (repeat' first | refine X.rq ?_ | refine X.rc ?_ ?_ <;> intro hc <;> try omega)
  refine K.c_loop (σ := Nat × Option Nat × Nat × List UInt8) (fun s => [(1, .pointer (some ⟨B1, 0, none⟩)), (3, bufV s.2.1 s.2.2.2.length s.2.2.1), (8, .int .i64 s.1)]) (fun _ => h)
   (fun s => bufA 5 1 s.2.1 s.2.2.2.length s.2.2.1 (s.2.2.2.map u8) :: blk B1 45 (cR r (.slice ad r.op.data.length cd) (.slice ai r.images.length ci) (.slice al r.lives.length cl) (.slice ay r.dirty.length cy)) :: F) (fun s => s.1 ≤ r.lives.length ∧ s.2.2.2 = l1 ++ (r.lives.take s.1).flatMap liveN) (fun s => r.lives.length - s.1) (0, a1, c1, l1) ⟨Nat.zero_le _, by simp⟩ (by repeat (first | exact K.Sub.nil _ | refine K.Sub.cons rfl ?_)) rfl rfl ?_
  rintro ⟨j, a2, c2, l2⟩ ⟨hj, hl2⟩ KL hKL
  dsimp only at hj hl2 ⊢
  by_cases hjl : j < r.lives.length
  ·have he1 : r.lives[j]? = some r.lives[j] := List.getElem?_eq_getElem hjl
   have hwx := hw.live _ (List.getElem_mem hjl)
   have hl3 : ((r.lives.take j).flatMap liveN).length ≤ 2170000 := by
    have h1 := flat_len liveN 31 (r.lives.take j) fun x _ => liveN_len x
    have h2 : (r.lives.take j).length * 31 ≤ 66000 * 31 := Nat.mul_le_mul_right _ (by rw [List.length_take]; omega)
    omega
   have hat := flat_at liveN he1
   generalize r.lives[j] = x at he1 hwx hat
   have hc0 : (r.lives.map cL)[((j : Nat) : Int).toNat]? = some (cL x) := by rw [Int.toNat_natCast, List.getElem?_map, he1]; rfl
   have hl2n : l2.length ≤ 2170010 := by rw [hl2, List.length_append]; omega
   (repeat' first | refine X.rq ?_ | refine X.rc ?_ ?_ <;> intro hc <;> try omega)
   have hx1 := hwx.txn
   have hx2 := hwx.last
   have hx3 := hwx.undo
   have g1 := cu_len x.txn
   have g2 := cu_len x.last
   have g3 := cu_len x.undo
   refine K.s_pureE (K.p_indexL hl4 (Fx.und rfl) (Fx.sz rfl) rfl rfl (by omega) hc0) rfl ?_
   rintro v2 ⟨b, o, rfl, hcel⟩
   refine K.s_pure (K.p_loadM (Fx.agg rfl) rfl (Cels.up hcel) (Fx.sz rfl) rfl) rfl ?_
   refine K.l_alloc (Fx.zr rfl) rfl rfl (fun B5 => ?_)
   refine X.stw ?_
   simp only [Go.K.nmz]
   (repeat' first | refine X.rq ?_ | refine X.rc ?_ ?_ <;> intro hc <;> try omega)
   refine K.l_buildSlice (Fx.und rfl) (Fx.sz rfl) rfl (Fx.zr rfl) rfl rfl rfl (cs := [.int .u64 (x.txn : Nat), .int .u64 (x.last : Nat), .int .u64 (x.undo : Nat)]) rfl rfl (fun B103 => ?_)
   refine K.l_call (Fx.cal rfl) rfl (PutB h a2 c2 l2 B103 27 [x.txn, x.last, x.undo] (by simp; omega) (Nat.le_of_ble_eq_true rfl) (by first | omega | exact Nat.zero_le _)) (K.pp [0, 1] rfl) rfl ?_
   rintro u h' H' - ⟨e, a3, c3, rfl, rfl⟩
   obtain rfl := e.symm
   simp only [Go.K.nmz]
   simp only [List.flatMap_cons, List.flatMap_nil, List.append_nil, List.nil_append]
   obtain ⟨l3, el3⟩ : ∃ l, l = l2 ++ (cu x.txn ++ (cu x.last ++ cu x.undo)) := ⟨_, rfl⟩
   have nl3 : l3.length ≤ 2170050 := by rw [el3]; (try simp only [List.length_append]); omega
   rw [← el3]
   (repeat' first | refine X.rq ?_ | refine X.rc ?_ ?_ <;> intro hc <;> try omega)
   ·have hlo : x.lost = true := by first | exact hc | exact Bool.eq_false_iff.2 hc
    refine X.bs (fun B204 => ?_)
    rw [show [Value.int .u8 1] = (lebs 1 1).map u8 from one_u8 (k := 1) (by first | decide | omega)]
    refine K.WL.bufOf (m := 1) (s := 1) (by simp [lebs_length]) (by unfold maxLen; omega) ?_
    refine l_appBB (l := l3) (l2 := lebs 1 1) (Fx.und rfl) (Fx.und rfl) rfl rfl (by rw [lebs_length]; omega) rfl (fun a4 c4 => ?_)
    (repeat' first | refine X.rq ?_ | refine X.rc ?_ ?_ <;> intro hc <;> try omega)
    refine K.AT.sel [1] rfl ?_
    refine K.a_round hKL (j + 1, a4, c4, l3 ++ lebs 1 1) ⟨by dsimp only; omega, ?_⟩ (by repeat (first | exact K.Sub.nil _ | refine K.Sub.cons rfl ?_)) rfl rfl (by dsimp only; omega)
    dsimp only
    rw [hat, el3, hl2, liveN, hlo]
    simp only [List.append_assoc]
    rfl
   ·have hlo : x.lost = false := by first | exact hc | exact Bool.eq_false_iff.2 hc
    refine X.bs (fun B204 => ?_)
    rw [show [Value.int .u8 0] = (lebs 0 1).map u8 from one_u8 (k := 0) (by first | decide | omega)]
    refine K.WL.bufOf (m := 1) (s := 1) (by simp [lebs_length]) (by unfold maxLen; omega) ?_
    refine l_appBB (l := l3) (l2 := lebs 0 1) (Fx.und rfl) (Fx.und rfl) rfl rfl (by rw [lebs_length]; omega) rfl (fun a4 c4 => ?_)
    (repeat' first | refine X.rq ?_ | refine X.rc ?_ ?_ <;> intro hc <;> try omega)
    refine K.AT.sel [1] rfl ?_
    refine K.a_round hKL (j + 1, a4, c4, l3 ++ lebs 0 1) ⟨by dsimp only; omega, ?_⟩ (by repeat (first | exact K.Sub.nil _ | refine K.Sub.cons rfl ?_)) rfl rfl (by dsimp only; omega)
    dsimp only
    rw [hat, el3, hl2, liveN, hlo]
    simp only [List.append_assoc]
    rfl
  ·obtain rfl : j = r.lives.length := by omega
   rw [List.take_length] at hl2
   have hl2n : l2.length ≤ 2170010 := by
    have h1 := flat_len liveN 31 r.lives fun x _ => liveN_len x
    have h2 : r.lives.length * 31 ≤ 66000 * 31 := Nat.mul_le_mul_right _ hs3
    rw [hl2, List.length_append]; omega
   (repeat' first | refine X.rq ?_ | refine X.rc ?_ ?_ <;> intro hc <;> try omega)
   refine K.l_buildSlice (Fx.und rfl) (Fx.sz rfl) rfl (Fx.zr rfl) rfl rfl rfl (cs := [.int .u64 (r.dirty.length : Nat)]) rfl rfl (fun B103 => ?_)
   refine K.l_call (Fx.cal rfl) rfl (PutB h a2 c2 l2 B103 27 [r.dirty.length] (by simp; omega) (Nat.le_of_ble_eq_true rfl) (by first | omega | exact Nat.zero_le _)) (K.pp [0, 0] rfl) rfl ?_
   rintro u h' H' - ⟨e, a3, c3, rfl, rfl⟩
   obtain rfl := e.symm
   simp only [Go.K.nmz]
   simp only [List.flatMap_cons, List.flatMap_nil, List.append_nil, List.nil_append]
   obtain ⟨l4, el4⟩ : ∃ l, l = l2 ++ cu r.dirty.length := ⟨_, rfl⟩
   have nl4 : l4.length ≤ 2170020 := by rw [el4]; (try simp only [List.length_append]); omega
   rw [← el4]
   (repeat' first | refine X.rq ?_ | refine X.rc ?_ ?_ <;> intro hc <;> try omega)
   refine K.c_loop (σ := Nat × Option Nat × Nat × List UInt8) (fun s => [(1, .pointer (some ⟨B1, 0, none⟩)), (3, bufV s.2.1 s.2.2.2.length s.2.2.1), (10, .int .i64 s.1)]) (fun _ => h)
    (fun s => bufA 5 1 s.2.1 s.2.2.2.length s.2.2.1 (s.2.2.2.map u8) :: blk B1 45 (cR r (.slice ad r.op.data.length cd) (.slice ai r.images.length ci) (.slice al r.lives.length cl) (.slice ay r.dirty.length cy)) :: F) (fun s => s.1 ≤ r.dirty.length ∧ s.2.2.2 = l4 ++ (r.dirty.take s.1).flatMap dirtN) (fun s => r.dirty.length - s.1) (0, a3, c3, l4) ⟨Nat.zero_le _, by simp⟩ (by repeat (first | exact K.Sub.nil _ | refine K.Sub.cons rfl ?_)) rfl rfl ?_
   rintro ⟨j, a6, c6, l6⟩ ⟨hj, hl6⟩ KM hKM
   dsimp only at hj hl6 ⊢
   by_cases hjl : j < r.dirty.length
   ·have he1 : r.dirty[j]? = some r.dirty[j] := List.getElem?_eq_getElem hjl
    have hwx := hw.dirt _ (List.getElem_mem hjl)
    have hl3 : ((r.dirty.take j).flatMap dirtN).length ≤ 2000000 := by
     have h1 := flat_len dirtN 20 (r.dirty.take j) fun x _ => dirtN_len x
     have h2 : (r.dirty.take j).length * 20 ≤ 100000 * 20 := Nat.mul_le_mul_right _ (by rw [List.length_take]; omega)
     omega
    have hat := flat_at dirtN he1
    generalize r.dirty[j] = x at he1 hwx hat
    have hc0 : (r.dirty.map cD)[((j : Nat) : Int).toNat]? = some (cD x) := by rw [Int.toNat_natCast, List.getElem?_map, he1]; rfl
    have hl6n : l6.length ≤ 4170020 := by rw [hl6, List.length_append]; omega
    (repeat' first | refine X.rq ?_ | refine X.rc ?_ ?_ <;> intro hc <;> try omega)
    have hx1 := hwx.page
    have hx2 := hwx.frm
    have g1 := cu_len x.page
    have g2 := cu_len x.frm
    refine X.draw ([blk B1 45 (cR r (.slice ad r.op.data.length cd) (.slice ai r.images.length ci) (.slice al r.lives.length cl) (.slice ay r.dirty.length cy))]) [] (.pu 0 (.pu 1 (.pu 3 (.pu 8 (.pu 10 (.st 2 (.st 4 (.pu 5 (.st 6 (.pu 7 (.st 9 (.st 11 (.pu 12 (.st 13 (.on 14 (.on 15 (.pu 16 .nil))))))))))))))))) ?_
    refine K.d_pu rfl (fun _ _ => X.mv) rfl ?_
    refine K.d_pu rfl (fun _ _ => X.fa) rfl ?_
    refine K.d_pu rfl (fun _ _ => X.mv) rfl ?_
    refine K.d_pu rfl (fun _ _ => X.fa) rfl ?_
    refine K.d_pu rfl (fun _ _ => X.mv) rfl ?_
    refine K.d_st rfl X.ld rfl ?_
    skip
    refine K.d_stE rfl (K.p_indexL hd2 (Fx.und rfl) (Fx.sz rfl) rfl rfl (by omega) hc0) rfl ?_
    rintro v2 ⟨b2, o2, rfl, hcel⟩
    refine K.d_pu rfl (fun _ _ => X.fa) rfl ?_
    refine K.d_st rfl (K.p_load (Fx.agg rfl) rfl (K.Cel.up hcel.1)) rfl ?_
    refine K.d_pu rfl (fun _ _ => X.cv) rfl ?_
    refine K.d_st rfl X.ld rfl ?_
    refine K.d_stE rfl (K.p_indexL hd2 (Fx.und rfl) (Fx.sz rfl) rfl rfl (by omega) hc0) rfl ?_
    rintro v3 ⟨b3, o3, rfl, hcel3⟩
    refine K.d_pu rfl (fun _ _ => X.fa) rfl ?_
    refine K.d_st rfl (K.p_load (Fx.agg rfl) rfl (K.Cel.up hcel3.2.1)) rfl ?_
    refine K.d_on rfl (fun KK hKK => ?_)
    refine K.l_buildSlice (Fx.und rfl) (Fx.sz rfl) rfl (Fx.zr rfl) rfl rfl rfl (cs := [.int .u64 (x.page : Nat), .int .u64 (x.frm : Nat)]) rfl rfl (fun B110 => ?_)
    refine K.l_nil ?_
    refine X.onE hKK ?_
    refine K.d_on rfl (fun KK hKK => ?_)
    refine K.l_call (Fx.cal rfl) rfl (PutB h a6 c6 l6 B110 27 [x.page, x.frm] (by simp; omega) (Nat.le_of_ble_eq_true rfl) (by omega)) (K.pp [0, 0] rfl) rfl ?_
    rintro u h' H' - ⟨e, a7, c7, rfl, rfl⟩
    obtain rfl := e.symm
    simp only [Go.K.nmz]
    simp only [List.flatMap_cons, List.flatMap_nil, List.append_nil, List.nil_append]
    refine K.l_nil ?_
    refine X.onE hKK ?_
    refine K.d_pu rfl (fun _ _ => X.sg) rfl ?_
    refine K.d_nil ?_
    (repeat' first | refine X.rq ?_ | refine X.rc ?_ ?_ <;> intro hc <;> try omega)
    refine K.a_round hKM (j + 1, a7, c7, l6 ++ (cu x.page ++ cu x.frm)) ⟨by dsimp only; omega, ?_⟩ (by repeat (first | exact K.Sub.nil _ | refine K.Sub.cons rfl ?_)) rfl rfl (by dsimp only; omega)
    dsimp only
    rw [hat, hl6, dirtN]
    simp only [List.append_assoc]
   ·obtain rfl : j = r.dirty.length := by omega
    rw [List.take_length] at hl6
    have hl6n : l6.length ≤ 4170020 := by
     have h1 := flat_len dirtN 20 r.dirty fun x _ => dirtN_len x
     have h2 : r.dirty.length * 20 ≤ 100000 * 20 := Nat.mul_le_mul_right _ hs4
     rw [hl6, List.length_append]; omega
    (repeat' first | refine X.rq ?_ | refine X.rc ?_ ?_ <;> intro hc <;> try omega)
    refine K.l_buildSlice (Fx.und rfl) (Fx.sz rfl) rfl (Fx.zr rfl) rfl rfl rfl (cs := [.int .u64 (r.next : Nat)]) rfl rfl (fun B107 => ?_)
    refine K.l_call (Fx.cal rfl) rfl (PutB h a6 c6 l6 B107 27 [r.next] (by simp; omega) (Nat.le_of_ble_eq_true rfl) (by first | omega | exact Nat.zero_le _)) (K.pp [0, 0] rfl) rfl ?_
    rintro u h' H' - ⟨e, a7, c7, rfl, rfl⟩
    obtain rfl := e.symm
    simp only [Go.K.nmz]
    simp only [List.flatMap_cons, List.flatMap_nil, List.append_nil, List.nil_append]
    (repeat' first | refine X.rq ?_ | refine X.rc ?_ ?_ <;> intro hc <;> try omega)
    refine K.AT.sel [1] rfl ?_
    rw [show l6 ++ cu r.next = fieldsN r by rw [hl6, el4, hl2, el1, hf]]
    refine K.done (by first | exact Or.inl rfl | exact Or.inr rfl) rfl (by first | exact K.Base.le.refl _ | assumption) (H' := [bufA 5 1 a7 (fieldsN r).length c7 ((fieldsN r).map u8)]) rfl ⟨rfl, a7, c7, rfl, rfl⟩
end Go.Proofs.YtmcdaegaopfihaaGreat.Rc
