/-
  A record's fields read, by the document. Conditions: each theorem's own.
-/
import Derived.Test.YtihambjhlhgaeaaHp
import Derived.Test.YtihambjhlhgaeaaHq

namespace Go.Proofs.Ytihambjhlhgaeaa.Rc
open Go Go.K Go.Proofs Go.Proofs.Ytihambjhlhgaeaa Go.Proofs.Ytihambjhlhgaeaa.Pg Go.Proofs.Ytihambjhlhgaeaa.Cc Go.Proofs.Ytihambjhlhgaeaa.Rb
set_option linter.unusedVariables false
set_option linter.unusedSimpArgs false
set_option maxRecDepth 10000

def RdPr (k : Nat) (ok : Bool) (rem : List UInt8) (y : Recd) : Prop := validR y ∧ y.kind = k ∧ ok = true ∧ rem = fieldsN y
structure LoD (α : Type) where
  b : Base
  sv : Value
  ok : Bool
  rem : List UInt8
  es : List (List Value)
  l : List α
  a : Option Nat
  cap : Nat
structure CeD where
  b : Base
  sv : Value
  ok : Bool
  rem : List UInt8
  x : PCell
  ao : Option Addr
  ca : Nat
theorem cellsN_len {y : Recd} (hv : validR y) {x : PImg} (hx : x ∈ y.images) : x.to.cells.length ≤ 60 ∧ (∀ z ∈ x.to.cells, okCell z) ∧ 1 ≤ x.to.kind ∧ x.to.kind ≤ 3 ∧ x.to.lsn = 0 := by
  have hq := (may_okR hv.1).1.2.2.2.2.2.2.1 x hx
  unfold imgQ at hq
  rw [Bool.and_eq_true, decide_eq_true_eq] at hq
  obtain ⟨⟨hk1, hk3⟩, h60, _⟩ := (mayQ_iff x.to).1 hq.1
  exact ⟨h60, may_ok hq.1, hk1, hk3, hq.2⟩
set_option maxHeartbeats 8000000 in
theorem M_read (h : Base) (p : Nat) (sv : Value) (ok : Bool) (rem : List UInt8) (k : Nat) (hk : k < 256) (hb : BV h sv rem) (hl20 : rem.length ≤ 16390) :
    Tr Try.prog 49 [.int .i64 k, rp p] h [qA p sv (!ok)] (fun u h' H' => ∃ cs r sv' ok' rem', u = .agg cs.toArray ∧ RecC h' cs r ∧ smallR r ∧ r.lsn = 0 ∧ BV h' sv' rem' ∧ rem'.length ≤ rem.length ∧ H' = [qA p sv' (!ok')] ∧ ∀ y, RdPr k ok rem y → r = y ∧ ok' = true ∧ rem' = []) := by
  have hl : rem.length ≤ big := by unfold big; omega
  have g1 := hl
  have fB : ∀ y, RdPr k ok rem y → okR y ∧ y.lsn = 0 ∧ wfX y ∧ y.kind = k ∧ ok = true ∧ rem = fieldsN y := fun y hy => by
    obtain ⟨⟨hm, hl0, hwx⟩, hky, hok, he⟩ := hy
    exact ⟨(may_okR hm).1, hl0, hwx, hky, hok, he⟩
  refine K.enter Try.func49 rfl (Nat.le_of_ble_eq_true rfl) (fun F => ?_)
  simp only [List.cons_append, List.nil_append]
  (repeat' (first | refine X.rq ?_ | (refine X.rc ?_ ?_ <;> intro hc <;> first | (exfalso; omega) | skip)))
  refine K.l_alloc (Fx.zr rfl) rfl rfl (fun B4 => ?_)
  (repeat' (first | refine X.rq ?_ | (refine X.rc ?_ ?_ <;> intro hc <;> first | (exfalso; omega) | skip)))
  refine K.l_alloc (Fx.zr rfl) rfl rfl (fun B5 => ?_)
  refine X.stw ?_
  simp only [List.set_cons_zero, List.set_cons_succ, List.eraseIdx_cons_zero, List.eraseIdx_cons_succ, List.cons_append, List.nil_append]
  have hkk : k = 1 ∨ k = 2 ∨ k = 3 ∨ k = 4 ∨ k = 8 ∨ (k ≠ 1 ∧ k ≠ 2 ∧ k ≠ 3 ∧ k ≠ 4 ∧ k ≠ 8) := by omega
  rcases hkk with hk0 | hk0 | hk0 | hk0 | hk0 | hk0
  · (repeat' (first | refine X.rq ?_ | (refine X.rc ?_ ?_ <;> intro hc <;> first | (exfalso; omega) | skip)))
    refine K.l_call (Fx.cal rfl) rfl (M_narrow h p sv ok rem hb g1) (K.pp [2] rfl) rfl ?_
    rintro u h' H' - ⟨e, tx, sv2, ok2, rem2, rfl, htx, hb2, rfl, f2⟩
    obtain rfl := e.symm
    simp only [List.set_cons_zero, List.set_cons_succ, List.eraseIdx_cons_zero, List.eraseIdx_cons_succ, List.cons_append, List.nil_append]
    have g2 : rem2.length ≤ big := Nat.le_trans f2.1 g1
    (repeat' (first | refine X.rq ?_ | (refine X.rc ?_ ?_ <;> intro hc <;> first | (exfalso; omega) | skip)))
    refine X.sto ?_
    simp only [List.set_cons_zero, List.set_cons_succ, List.eraseIdx_cons_zero, List.eraseIdx_cons_succ, List.cons_append, List.nil_append]
    have gl : rem2.length ≤ rem.length := by
      have := f2.1
      omega
    (repeat' (first | refine X.rq ?_ | (refine X.rc ?_ ?_ <;> intro hc <;> first | (exfalso; omega) | skip)))
    refine X.stw ?_
    simp only [List.set_cons_zero, List.set_cons_succ, List.eraseIdx_cons_zero, List.eraseIdx_cons_succ, List.cons_append, List.nil_append]
    (repeat' (first | refine X.rq ?_ | (refine X.rc ?_ ?_ <;> intro hc <;> first | (exfalso; omega) | skip)))
    refine K.AT.perm (K.pp [2, 1] rfl) ?_
    simp only [List.set_cons_zero, List.set_cons_succ, List.eraseIdx_cons_zero, List.eraseIdx_cons_succ, List.cons_append, List.nil_append]
    refine K.doneD (vs := [.agg (cR ⟨(k : Nat), 0, tx, 0, 0, 0, 0, zO, [], [], [], 0⟩ (.slice none (⟨(k : Nat), 0, tx, 0, 0, 0, 0, zO, [], [], [], 0⟩ : Recd).op.data.length 0) (.slice none (⟨(k : Nat), 0, tx, 0, 0, 0, 0, zO, [], [], [], 0⟩ : Recd).images.length 0) (.slice none (⟨(k : Nat), 0, tx, 0, 0, 0, 0, zO, [], [], [], 0⟩ : Recd).lives.length 0) (.slice none (⟨(k : Nat), 0, tx, 0, 0, 0, 0, zO, [], [], [], 0⟩ : Recd).dirty.length 0)).toArray]) (by first | exact Or.inl rfl | exact Or.inr rfl) (.cell rfl (Fx.agg rfl) (Fx.sz rfl) (K.cels_own (pre := []) (post := []) 0 rfl rfl) .nil) (K.Base.le.refl _) (D := [_, _]) (H' := [qA p sv2 (!ok2)]) rfl ⟨_, ⟨(k : Nat), 0, tx, 0, 0, 0, 0, zO, [], [], [], 0⟩, sv2, ok2, rem2, rfl, recC_of (wfR_mk (by omega) (by omega) (by omega) (by omega) (by omega) (by omega) wf_zO (by omega) (Nat.zero_le _) (Nat.zero_le _) (Nat.zero_le _) (fun x hx => by cases hx) (fun x hx => by cases hx)) BV.nil ImgsV.nil SL.nil SL.nil, ⟨Nat.zero_le _, Nat.zero_le _, Nat.zero_le _, Nat.zero_le _⟩, rfl, hb2, gl, rfl, fun y hy => ?_⟩
    obtain ⟨hok, hl0, hwx, hky, o1, e1⟩ := fB y hy
    have hf : fieldsN y = cu y.txn := by unfold fieldsN; rw [if_pos (by omega)]
    rw [hf] at e1
    obtain ⟨d1, d2, d3⟩ := f2.2 y.txn [] hwx.1.txn o1 (by rw [e1, List.append_nil])
    refine ⟨?_, d2, d3⟩
    rw [eq_1 hok.2.1 (by omega), hl0, d1, hk0]
    rfl
  · (repeat' (first | refine X.rq ?_ | (refine X.rc ?_ ?_ <;> intro hc <;> first | (exfalso; omega) | skip)))
    refine K.l_call (Fx.cal rfl) rfl (M_narrow h p sv ok rem hb g1) (K.pp [2] rfl) rfl ?_
    rintro u h' H' - ⟨e, tx, sv2, ok2, rem2, rfl, htx, hb2, rfl, f2⟩
    obtain rfl := e.symm
    simp only [List.set_cons_zero, List.set_cons_succ, List.eraseIdx_cons_zero, List.eraseIdx_cons_succ, List.cons_append, List.nil_append]
    have g2 : rem2.length ≤ big := Nat.le_trans f2.1 g1
    (repeat' (first | refine X.rq ?_ | (refine X.rc ?_ ?_ <;> intro hc <;> first | (exfalso; omega) | skip)))
    refine X.sto ?_
    simp only [List.set_cons_zero, List.set_cons_succ, List.eraseIdx_cons_zero, List.eraseIdx_cons_succ, List.cons_append, List.nil_append]
    (repeat' (first | refine X.rq ?_ | (refine X.rc ?_ ?_ <;> intro hc <;> first | (exfalso; omega) | skip)))
    refine K.l_call (Fx.cal rfl) rfl (M_Uint h p sv2 ok2 rem2 hb2 g2) (K.pp [0] rfl) rfl ?_
    rintro u h' H' - ⟨e, pv, sv3, ok3, rem3, rfl, hpv, hb3, rfl, f3⟩
    obtain rfl := e.symm
    simp only [List.set_cons_zero, List.set_cons_succ, List.eraseIdx_cons_zero, List.eraseIdx_cons_succ, List.cons_append, List.nil_append]
    have g3 : rem3.length ≤ big := Nat.le_trans f3.1 g2
    (repeat' (first | refine X.rq ?_ | (refine X.rc ?_ ?_ <;> intro hc <;> first | (exfalso; omega) | skip)))
    refine X.sto ?_
    simp only [List.set_cons_zero, List.set_cons_succ, List.eraseIdx_cons_zero, List.eraseIdx_cons_succ, List.cons_append, List.nil_append]
    (repeat' (first | refine X.rq ?_ | (refine X.rc ?_ ?_ <;> intro hc <;> first | (exfalso; omega) | skip)))
    refine K.l_call (Fx.cal rfl) rfl (M_narrow h p sv3 ok3 rem3 hb3 g3) (K.pp [0] rfl) rfl ?_
    rintro u h' H' - ⟨e, pg, sv4, ok4, rem4, rfl, hpg, hb4, rfl, f4⟩
    obtain rfl := e.symm
    simp only [List.set_cons_zero, List.set_cons_succ, List.eraseIdx_cons_zero, List.eraseIdx_cons_succ, List.cons_append, List.nil_append]
    have g4 : rem4.length ≤ big := Nat.le_trans f4.1 g3
    (repeat' (first | refine X.rq ?_ | (refine X.rc ?_ ?_ <;> intro hc <;> first | (exfalso; omega) | skip)))
    refine X.sto ?_
    simp only [List.set_cons_zero, List.set_cons_succ, List.eraseIdx_cons_zero, List.eraseIdx_cons_succ, List.cons_append, List.nil_append]
    (repeat' (first | refine X.rq ?_ | (refine X.rc ?_ ?_ <;> intro hc <;> first | (exfalso; omega) | skip)))
    refine K.l_call (Fx.cal rfl) rfl (M_narrow h p sv4 ok4 rem4 hb4 g4) (K.pp [0] rfl) rfl ?_
    rintro u h' H' - ⟨e, rt, sv5, ok5, rem5, rfl, hrt, hb5, rfl, f5⟩
    obtain rfl := e.symm
    simp only [List.set_cons_zero, List.set_cons_succ, List.eraseIdx_cons_zero, List.eraseIdx_cons_succ, List.cons_append, List.nil_append]
    have g5 : rem5.length ≤ big := Nat.le_trans f5.1 g4
    (repeat' (first | refine X.rq ?_ | (refine X.rc ?_ ?_ <;> intro hc <;> first | (exfalso; omega) | skip)))
    refine X.sto ?_
    simp only [List.set_cons_zero, List.set_cons_succ, List.eraseIdx_cons_zero, List.eraseIdx_cons_succ, List.cons_append, List.nil_append]
    (repeat' (first | refine X.rq ?_ | (refine X.rc ?_ ?_ <;> intro hc <;> first | (exfalso; omega) | skip)))
    refine K.l_call (Fx.cal rfl) rfl (M_U8 h p sv5 ok5 rem5 hb5 g5) (K.pp [0] rfl) rfl ?_
    rintro u h' H' - ⟨e, kd, sv6, ok6, rem6, rfl, hkd, hb6, rfl, f6⟩
    obtain rfl := e.symm
    simp only [List.set_cons_zero, List.set_cons_succ, List.eraseIdx_cons_zero, List.eraseIdx_cons_succ, List.cons_append, List.nil_append]
    have g6 : rem6.length ≤ big := Nat.le_trans f6.1 g5
    (repeat' (first | refine X.rq ?_ | (refine X.rc ?_ ?_ <;> intro hc <;> first | (exfalso; omega) | skip)))
    refine X.sto ?_
    simp only [List.set_cons_zero, List.set_cons_succ, List.eraseIdx_cons_zero, List.eraseIdx_cons_succ, List.cons_append, List.nil_append]
    (repeat' (first | refine X.rq ?_ | (refine X.rc ?_ ?_ <;> intro hc <;> first | (exfalso; omega) | skip)))
    refine K.l_call (Fx.cal rfl) rfl (M_narrow h p sv6 ok6 rem6 hb6 g6) (K.pp [0] rfl) rfl ?_
    rintro u h' H' - ⟨e, sl, sv7, ok7, rem7, rfl, hsl, hb7, rfl, f7⟩
    obtain rfl := e.symm
    simp only [List.set_cons_zero, List.set_cons_succ, List.eraseIdx_cons_zero, List.eraseIdx_cons_succ, List.cons_append, List.nil_append]
    have g7 : rem7.length ≤ big := Nat.le_trans f7.1 g6
    (repeat' (first | refine X.rq ?_ | (refine X.rc ?_ ?_ <;> intro hc <;> first | (exfalso; omega) | skip)))
    refine X.sto ?_
    simp only [List.set_cons_zero, List.set_cons_succ, List.eraseIdx_cons_zero, List.eraseIdx_cons_succ, List.cons_append, List.nil_append]
    (repeat' (first | refine X.rq ?_ | (refine X.rc ?_ ?_ <;> intro hc <;> first | (exfalso; omega) | skip)))
    refine K.l_call (Fx.cal rfl) rfl (M_narrow h p sv7 ok7 rem7 hb7 g7) (K.pp [0] rfl) rfl ?_
    rintro u h' H' - ⟨e, ot, sv8, ok8, rem8, rfl, hot, hb8, rfl, f8⟩
    obtain rfl := e.symm
    simp only [List.set_cons_zero, List.set_cons_succ, List.eraseIdx_cons_zero, List.eraseIdx_cons_succ, List.cons_append, List.nil_append]
    have g8 : rem8.length ≤ big := Nat.le_trans f8.1 g7
    (repeat' (first | refine X.rq ?_ | (refine X.rc ?_ ?_ <;> intro hc <;> first | (exfalso; omega) | skip)))
    refine X.sto ?_
    simp only [List.set_cons_zero, List.set_cons_succ, List.eraseIdx_cons_zero, List.eraseIdx_cons_succ, List.cons_append, List.nil_append]
    (repeat' (first | refine X.rq ?_ | (refine X.rc ?_ ?_ <;> intro hc <;> first | (exfalso; omega) | skip)))
    refine K.l_call (vals := [rp p, .int .i64 (180 : Nat)]) (Fx.cal rfl) rfl (M_Text h p sv8 ok8 rem8 180 hb8 g8 (by decide)) (K.pp [0] rfl) rfl ?_
    rintro u h' H' - ⟨e, dt, sv9, ok9, rem9, rfl, hdt, hb9, rfl, f9⟩
    obtain rfl := e.symm
    simp only [List.set_cons_zero, List.set_cons_succ, List.eraseIdx_cons_zero, List.eraseIdx_cons_succ, List.cons_append, List.nil_append]
    have g9 : rem9.length ≤ big := Nat.le_trans f9.1 g8
    refine K.l_toBytes (Fx.und rfl) (Fx.und rfl) (Fx.und rfl) rfl (by unfold maxLen; show dt.length ≤ _; omega) rfl (fun Bt capt => ?_)
    refine K.WL.freezeBuf (l := dt) (a := some Bt) (fun h2 le2 hbv => ?_)
    obtain ⟨ao9, ca9, e9⟩ := hbv.len
    rw [show bufV (some Bt) (ByteArray.size ⟨dt.toArray⟩) capt = .slice ao9 dt.length ca9 from e9]
    rw [e9] at hbv
    (repeat' (first | refine X.rq ?_ | (refine X.rc ?_ ?_ <;> intro hc <;> first | (exfalso; omega) | skip)))
    refine X.sto ?_
    simp only [List.set_cons_zero, List.set_cons_succ, List.eraseIdx_cons_zero, List.eraseIdx_cons_succ, List.cons_append, List.nil_append]
    have gl : rem9.length ≤ rem.length := by
      have := f2.1
      have := f3.1
      have := f4.1
      have := f5.1
      have := f6.1
      have := f7.1
      have := f8.1
      have := f9.1
      omega
    have hb9 := hb9.le le2
    (repeat' (first | refine X.rq ?_ | (refine X.rc ?_ ?_ <;> intro hc <;> first | (exfalso; omega) | skip)))
    refine X.stw ?_
    simp only [List.set_cons_zero, List.set_cons_succ, List.eraseIdx_cons_zero, List.eraseIdx_cons_succ, List.cons_append, List.nil_append]
    (repeat' (first | refine X.rq ?_ | (refine X.rc ?_ ?_ <;> intro hc <;> first | (exfalso; omega) | skip)))
    refine K.AT.perm (K.pp [2, 1] rfl) ?_
    simp only [List.set_cons_zero, List.set_cons_succ, List.eraseIdx_cons_zero, List.eraseIdx_cons_succ, List.cons_append, List.nil_append]
    refine K.doneD (vs := [.agg (cR ⟨(k : Nat), 0, tx, pv, 0, pg, rt, ⟨(kd : Nat), (sl : Nat), ot, dt⟩, [], [], [], 0⟩ (.slice ao9 (⟨(k : Nat), 0, tx, pv, 0, pg, rt, ⟨(kd : Nat), (sl : Nat), ot, dt⟩, [], [], [], 0⟩ : Recd).op.data.length ca9) (.slice none (⟨(k : Nat), 0, tx, pv, 0, pg, rt, ⟨(kd : Nat), (sl : Nat), ot, dt⟩, [], [], [], 0⟩ : Recd).images.length 0) (.slice none (⟨(k : Nat), 0, tx, pv, 0, pg, rt, ⟨(kd : Nat), (sl : Nat), ot, dt⟩, [], [], [], 0⟩ : Recd).lives.length 0) (.slice none (⟨(k : Nat), 0, tx, pv, 0, pg, rt, ⟨(kd : Nat), (sl : Nat), ot, dt⟩, [], [], [], 0⟩ : Recd).dirty.length 0)).toArray]) (by first | exact Or.inl rfl | exact Or.inr rfl) (.cell rfl (Fx.agg rfl) (Fx.sz rfl) (K.cels_own (pre := []) (post := []) 0 rfl rfl) .nil) (le2) (D := [_, _]) (H' := [qA p sv9 (!ok9)]) rfl ⟨_, ⟨(k : Nat), 0, tx, pv, 0, pg, rt, ⟨(kd : Nat), (sl : Nat), ot, dt⟩, [], [], [], 0⟩, sv9, ok9, rem9, rfl, recC_of (wfR_mk (by omega) (by omega) (by omega) (by omega) (by omega) (by omega) ⟨in64n (by omega), in64n (by omega), by omega, show dt.length ≤ _ by omega⟩ (by omega) (Nat.zero_le _) (Nat.zero_le _) (Nat.zero_le _) (fun x hx => by cases hx) (fun x hx => by cases hx)) hbv ImgsV.nil SL.nil SL.nil, ⟨Nat.zero_le _, Nat.zero_le _, Nat.zero_le _, show dt.length ≤ 17000 by omega⟩, rfl, hb9, gl, rfl, fun y hy => ?_⟩
    obtain ⟨hok, hl0, hwx, hky, o1, e1⟩ := fB y hy
    have hd := hok.2.2.2.1 (by omega)
    obtain ⟨hd1, hd2, hd3, hd4, hd5⟩ := hd
    have hkd : 1 ≤ y.op.kind ∧ y.op.kind ≤ 4 := hd3.2.1
    have hdl : y.op.data.length ≤ 180 := by
      have h1 := hd3.2.2.2.2.1
      have h2 := hd3.2.2.2.2.2
      omega
    have hf : fieldsN y = cu y.txn ++ cu y.prev ++ (if y.kind = 3 then cu y.undo else []) ++ cu y.page ++ cu y.root ++ opN y.op := by unfold fieldsN; rw [if_neg (by omega), if_neg (by omega), if_pos (by omega)]
    rw [hf, if_neg (by omega), opN] at e1
    simp only [List.append_assoc, List.nil_append] at e1
    obtain ⟨v2, o2, e2⟩ := f2.2 y.txn _ hwx.1.txn o1 e1
    obtain ⟨v3, o3, e3⟩ := f3.2 y.prev _ hwx.1.prev o2 e2
    obtain ⟨v4, o4, e4⟩ := f4.2 y.page _ hwx.1.page o3 e3
    obtain ⟨v5, o5, e5⟩ := f5.2 y.root _ hwx.1.root o4 e4
    obtain ⟨v6, o6, e6⟩ := f6.2 y.op.kind.toNat _ (show y.op.kind.toNat < 256 by omega) o5 e5
    obtain ⟨v7, o7, e7⟩ := f7.2 y.op.slot.toNat _ (show y.op.slot.toNat < 4294967296 by omega) o6 e6
    obtain ⟨v8, o8, e8⟩ := f8.2 y.op.txn _ hwx.1.op.txn o7 e7
    obtain ⟨v9, o9, e9⟩ := f9.2 y.op.data [] (show y.op.data.length ≤ 180 from hdl) o8 (by rw [e8, List.append_nil])
    refine ⟨?_, o9, e9⟩
    have hop : (⟨(kd : Nat), (sl : Nat), ot, dt⟩ : POp) = y.op := by
      have h1 : ((kd : Nat) : Int) = y.op.kind := by omega
      have h2 : ((sl : Nat) : Int) = y.op.slot := by omega
      rw [h1, h2, v8, v9]
    rw [eq_2 hok.2.1 (by omega), hl0, hk0]
    try dsimp only
    rw [hop, v2, v3, v4, v5]
    rfl
  · (repeat' (first | refine X.rq ?_ | (refine X.rc ?_ ?_ <;> intro hc <;> first | (exfalso; omega) | skip)))
    refine K.l_call (Fx.cal rfl) rfl (M_narrow h p sv ok rem hb g1) (K.pp [2] rfl) rfl ?_
    rintro u h' H' - ⟨e, tx, sv2, ok2, rem2, rfl, htx, hb2, rfl, f2⟩
    obtain rfl := e.symm
    simp only [List.set_cons_zero, List.set_cons_succ, List.eraseIdx_cons_zero, List.eraseIdx_cons_succ, List.cons_append, List.nil_append]
    have g2 : rem2.length ≤ big := Nat.le_trans f2.1 g1
    (repeat' (first | refine X.rq ?_ | (refine X.rc ?_ ?_ <;> intro hc <;> first | (exfalso; omega) | skip)))
    refine X.sto ?_
    simp only [List.set_cons_zero, List.set_cons_succ, List.eraseIdx_cons_zero, List.eraseIdx_cons_succ, List.cons_append, List.nil_append]
    (repeat' (first | refine X.rq ?_ | (refine X.rc ?_ ?_ <;> intro hc <;> first | (exfalso; omega) | skip)))
    refine K.l_call (Fx.cal rfl) rfl (M_Uint h p sv2 ok2 rem2 hb2 g2) (K.pp [0] rfl) rfl ?_
    rintro u h' H' - ⟨e, pv, sv3, ok3, rem3, rfl, hpv, hb3, rfl, f3⟩
    obtain rfl := e.symm
    simp only [List.set_cons_zero, List.set_cons_succ, List.eraseIdx_cons_zero, List.eraseIdx_cons_succ, List.cons_append, List.nil_append]
    have g3 : rem3.length ≤ big := Nat.le_trans f3.1 g2
    (repeat' (first | refine X.rq ?_ | (refine X.rc ?_ ?_ <;> intro hc <;> first | (exfalso; omega) | skip)))
    refine X.sto ?_
    simp only [List.set_cons_zero, List.set_cons_succ, List.eraseIdx_cons_zero, List.eraseIdx_cons_succ, List.cons_append, List.nil_append]
    (repeat' (first | refine X.rq ?_ | (refine X.rc ?_ ?_ <;> intro hc <;> first | (exfalso; omega) | skip)))
    refine K.l_call (Fx.cal rfl) rfl (M_Uint h p sv3 ok3 rem3 hb3 g3) (K.pp [0] rfl) rfl ?_
    rintro u h' H' - ⟨e, un, sv4, ok4, rem4, rfl, hun, hb4, rfl, f4⟩
    obtain rfl := e.symm
    simp only [List.set_cons_zero, List.set_cons_succ, List.eraseIdx_cons_zero, List.eraseIdx_cons_succ, List.cons_append, List.nil_append]
    have g4 : rem4.length ≤ big := Nat.le_trans f4.1 g3
    (repeat' (first | refine X.rq ?_ | (refine X.rc ?_ ?_ <;> intro hc <;> first | (exfalso; omega) | skip)))
    refine X.sto ?_
    simp only [List.set_cons_zero, List.set_cons_succ, List.eraseIdx_cons_zero, List.eraseIdx_cons_succ, List.cons_append, List.nil_append]
    (repeat' (first | refine X.rq ?_ | (refine X.rc ?_ ?_ <;> intro hc <;> first | (exfalso; omega) | skip)))
    refine K.l_call (Fx.cal rfl) rfl (M_narrow h p sv4 ok4 rem4 hb4 g4) (K.pp [0] rfl) rfl ?_
    rintro u h' H' - ⟨e, pg, sv5, ok5, rem5, rfl, hpg, hb5, rfl, f5⟩
    obtain rfl := e.symm
    simp only [List.set_cons_zero, List.set_cons_succ, List.eraseIdx_cons_zero, List.eraseIdx_cons_succ, List.cons_append, List.nil_append]
    have g5 : rem5.length ≤ big := Nat.le_trans f5.1 g4
    (repeat' (first | refine X.rq ?_ | (refine X.rc ?_ ?_ <;> intro hc <;> first | (exfalso; omega) | skip)))
    refine X.sto ?_
    simp only [List.set_cons_zero, List.set_cons_succ, List.eraseIdx_cons_zero, List.eraseIdx_cons_succ, List.cons_append, List.nil_append]
    (repeat' (first | refine X.rq ?_ | (refine X.rc ?_ ?_ <;> intro hc <;> first | (exfalso; omega) | skip)))
    refine K.l_call (Fx.cal rfl) rfl (M_narrow h p sv5 ok5 rem5 hb5 g5) (K.pp [0] rfl) rfl ?_
    rintro u h' H' - ⟨e, rt, sv6, ok6, rem6, rfl, hrt, hb6, rfl, f6⟩
    obtain rfl := e.symm
    simp only [List.set_cons_zero, List.set_cons_succ, List.eraseIdx_cons_zero, List.eraseIdx_cons_succ, List.cons_append, List.nil_append]
    have g6 : rem6.length ≤ big := Nat.le_trans f6.1 g5
    (repeat' (first | refine X.rq ?_ | (refine X.rc ?_ ?_ <;> intro hc <;> first | (exfalso; omega) | skip)))
    refine X.sto ?_
    simp only [List.set_cons_zero, List.set_cons_succ, List.eraseIdx_cons_zero, List.eraseIdx_cons_succ, List.cons_append, List.nil_append]
    (repeat' (first | refine X.rq ?_ | (refine X.rc ?_ ?_ <;> intro hc <;> first | (exfalso; omega) | skip)))
    refine K.l_call (Fx.cal rfl) rfl (M_U8 h p sv6 ok6 rem6 hb6 g6) (K.pp [0] rfl) rfl ?_
    rintro u h' H' - ⟨e, kd, sv7, ok7, rem7, rfl, hkd, hb7, rfl, f7⟩
    obtain rfl := e.symm
    simp only [List.set_cons_zero, List.set_cons_succ, List.eraseIdx_cons_zero, List.eraseIdx_cons_succ, List.cons_append, List.nil_append]
    have g7 : rem7.length ≤ big := Nat.le_trans f7.1 g6
    (repeat' (first | refine X.rq ?_ | (refine X.rc ?_ ?_ <;> intro hc <;> first | (exfalso; omega) | skip)))
    refine X.sto ?_
    simp only [List.set_cons_zero, List.set_cons_succ, List.eraseIdx_cons_zero, List.eraseIdx_cons_succ, List.cons_append, List.nil_append]
    (repeat' (first | refine X.rq ?_ | (refine X.rc ?_ ?_ <;> intro hc <;> first | (exfalso; omega) | skip)))
    refine K.l_call (Fx.cal rfl) rfl (M_narrow h p sv7 ok7 rem7 hb7 g7) (K.pp [0] rfl) rfl ?_
    rintro u h' H' - ⟨e, sl, sv8, ok8, rem8, rfl, hsl, hb8, rfl, f8⟩
    obtain rfl := e.symm
    simp only [List.set_cons_zero, List.set_cons_succ, List.eraseIdx_cons_zero, List.eraseIdx_cons_succ, List.cons_append, List.nil_append]
    have g8 : rem8.length ≤ big := Nat.le_trans f8.1 g7
    (repeat' (first | refine X.rq ?_ | (refine X.rc ?_ ?_ <;> intro hc <;> first | (exfalso; omega) | skip)))
    refine X.sto ?_
    simp only [List.set_cons_zero, List.set_cons_succ, List.eraseIdx_cons_zero, List.eraseIdx_cons_succ, List.cons_append, List.nil_append]
    (repeat' (first | refine X.rq ?_ | (refine X.rc ?_ ?_ <;> intro hc <;> first | (exfalso; omega) | skip)))
    refine K.l_call (Fx.cal rfl) rfl (M_narrow h p sv8 ok8 rem8 hb8 g8) (K.pp [0] rfl) rfl ?_
    rintro u h' H' - ⟨e, ot, sv9, ok9, rem9, rfl, hot, hb9, rfl, f9⟩
    obtain rfl := e.symm
    simp only [List.set_cons_zero, List.set_cons_succ, List.eraseIdx_cons_zero, List.eraseIdx_cons_succ, List.cons_append, List.nil_append]
    have g9 : rem9.length ≤ big := Nat.le_trans f9.1 g8
    (repeat' (first | refine X.rq ?_ | (refine X.rc ?_ ?_ <;> intro hc <;> first | (exfalso; omega) | skip)))
    refine X.sto ?_
    simp only [List.set_cons_zero, List.set_cons_succ, List.eraseIdx_cons_zero, List.eraseIdx_cons_succ, List.cons_append, List.nil_append]
    (repeat' (first | refine X.rq ?_ | (refine X.rc ?_ ?_ <;> intro hc <;> first | (exfalso; omega) | skip)))
    refine K.l_call (vals := [rp p, .int .i64 (180 : Nat)]) (Fx.cal rfl) rfl (M_Text h p sv9 ok9 rem9 180 hb9 g9 (by decide)) (K.pp [0] rfl) rfl ?_
    rintro u h' H' - ⟨e, dt, sv10, ok10, rem10, rfl, hdt, hb10, rfl, f10⟩
    obtain rfl := e.symm
    simp only [List.set_cons_zero, List.set_cons_succ, List.eraseIdx_cons_zero, List.eraseIdx_cons_succ, List.cons_append, List.nil_append]
    have g10 : rem10.length ≤ big := Nat.le_trans f10.1 g9
    refine K.l_toBytes (Fx.und rfl) (Fx.und rfl) (Fx.und rfl) rfl (by unfold maxLen; show dt.length ≤ _; omega) rfl (fun Bt capt => ?_)
    refine K.WL.freezeBuf (l := dt) (a := some Bt) (fun h2 le2 hbv => ?_)
    obtain ⟨ao9, ca9, e9⟩ := hbv.len
    rw [show bufV (some Bt) (ByteArray.size ⟨dt.toArray⟩) capt = .slice ao9 dt.length ca9 from e9]
    rw [e9] at hbv
    (repeat' (first | refine X.rq ?_ | (refine X.rc ?_ ?_ <;> intro hc <;> first | (exfalso; omega) | skip)))
    refine X.sto ?_
    simp only [List.set_cons_zero, List.set_cons_succ, List.eraseIdx_cons_zero, List.eraseIdx_cons_succ, List.cons_append, List.nil_append]
    have gl : rem10.length ≤ rem.length := by
      have := f2.1
      have := f3.1
      have := f4.1
      have := f5.1
      have := f6.1
      have := f7.1
      have := f8.1
      have := f9.1
      have := f10.1
      omega
    have hb10 := hb10.le le2
    (repeat' (first | refine X.rq ?_ | (refine X.rc ?_ ?_ <;> intro hc <;> first | (exfalso; omega) | skip)))
    refine X.stw ?_
    simp only [List.set_cons_zero, List.set_cons_succ, List.eraseIdx_cons_zero, List.eraseIdx_cons_succ, List.cons_append, List.nil_append]
    (repeat' (first | refine X.rq ?_ | (refine X.rc ?_ ?_ <;> intro hc <;> first | (exfalso; omega) | skip)))
    refine K.AT.perm (K.pp [2, 1] rfl) ?_
    simp only [List.set_cons_zero, List.set_cons_succ, List.eraseIdx_cons_zero, List.eraseIdx_cons_succ, List.cons_append, List.nil_append]
    refine K.doneD (vs := [.agg (cR ⟨(k : Nat), 0, tx, pv, un, pg, rt, ⟨(kd : Nat), (sl : Nat), ot, dt⟩, [], [], [], 0⟩ (.slice ao9 (⟨(k : Nat), 0, tx, pv, un, pg, rt, ⟨(kd : Nat), (sl : Nat), ot, dt⟩, [], [], [], 0⟩ : Recd).op.data.length ca9) (.slice none (⟨(k : Nat), 0, tx, pv, un, pg, rt, ⟨(kd : Nat), (sl : Nat), ot, dt⟩, [], [], [], 0⟩ : Recd).images.length 0) (.slice none (⟨(k : Nat), 0, tx, pv, un, pg, rt, ⟨(kd : Nat), (sl : Nat), ot, dt⟩, [], [], [], 0⟩ : Recd).lives.length 0) (.slice none (⟨(k : Nat), 0, tx, pv, un, pg, rt, ⟨(kd : Nat), (sl : Nat), ot, dt⟩, [], [], [], 0⟩ : Recd).dirty.length 0)).toArray]) (by first | exact Or.inl rfl | exact Or.inr rfl) (.cell rfl (Fx.agg rfl) (Fx.sz rfl) (K.cels_own (pre := []) (post := []) 0 rfl rfl) .nil) (le2) (D := [_, _]) (H' := [qA p sv10 (!ok10)]) rfl ⟨_, ⟨(k : Nat), 0, tx, pv, un, pg, rt, ⟨(kd : Nat), (sl : Nat), ot, dt⟩, [], [], [], 0⟩, sv10, ok10, rem10, rfl, recC_of (wfR_mk (by omega) (by omega) (by omega) (by omega) (by omega) (by omega) ⟨in64n (by omega), in64n (by omega), by omega, show dt.length ≤ _ by omega⟩ (by omega) (Nat.zero_le _) (Nat.zero_le _) (Nat.zero_le _) (fun x hx => by cases hx) (fun x hx => by cases hx)) hbv ImgsV.nil SL.nil SL.nil, ⟨Nat.zero_le _, Nat.zero_le _, Nat.zero_le _, show dt.length ≤ 17000 by omega⟩, rfl, hb10, gl, rfl, fun y hy => ?_⟩
    obtain ⟨hok, hl0, hwx, hky, o1, e1⟩ := fB y hy
    have hd := hok.2.2.2.1 (by omega)
    obtain ⟨hd1, hd2, hd3, hd4, hd5⟩ := hd
    have hkd : 1 ≤ y.op.kind ∧ y.op.kind ≤ 4 := hd3.2.1
    have hdl : y.op.data.length ≤ 180 := by
      have h1 := hd3.2.2.2.2.1
      have h2 := hd3.2.2.2.2.2
      omega
    have hf : fieldsN y = cu y.txn ++ cu y.prev ++ (if y.kind = 3 then cu y.undo else []) ++ cu y.page ++ cu y.root ++ opN y.op := by unfold fieldsN; rw [if_neg (by omega), if_neg (by omega), if_pos (by omega)]
    rw [hf, if_pos (by omega), opN] at e1
    simp only [List.append_assoc, List.nil_append] at e1
    obtain ⟨v2, o2, e2⟩ := f2.2 y.txn _ hwx.1.txn o1 e1
    obtain ⟨v3, o3, e3⟩ := f3.2 y.prev _ hwx.1.prev o2 e2
    obtain ⟨v4, o4, e4⟩ := f4.2 y.undo _ hwx.1.undo o3 e3
    obtain ⟨v5, o5, e5⟩ := f5.2 y.page _ hwx.1.page o4 e4
    obtain ⟨v6, o6, e6⟩ := f6.2 y.root _ hwx.1.root o5 e5
    obtain ⟨v7, o7, e7⟩ := f7.2 y.op.kind.toNat _ (show y.op.kind.toNat < 256 by omega) o6 e6
    obtain ⟨v8, o8, e8⟩ := f8.2 y.op.slot.toNat _ (show y.op.slot.toNat < 4294967296 by omega) o7 e7
    obtain ⟨v9, o9, e9⟩ := f9.2 y.op.txn _ hwx.1.op.txn o8 e8
    obtain ⟨v10, o10, e10⟩ := f10.2 y.op.data [] (show y.op.data.length ≤ 180 from hdl) o9 (by rw [e9, List.append_nil])
    refine ⟨?_, o10, e10⟩
    have hop : (⟨(kd : Nat), (sl : Nat), ot, dt⟩ : POp) = y.op := by
      have h1 : ((kd : Nat) : Int) = y.op.kind := by omega
      have h2 : ((sl : Nat) : Int) = y.op.slot := by omega
      rw [h1, h2, v9, v10]
    rw [eq_3 hok.2.1 (by omega), hl0, hk0]
    try dsimp only
    rw [hop, v2, v3, v5, v6, v4]
    rfl
  · (repeat' (first | refine X.rq ?_ | (refine X.rc ?_ ?_ <;> intro hc <;> first | (exfalso; omega) | skip)))
    refine K.l_call (Fx.cal rfl) rfl (M_many h p sv ok rem hb g1) (K.pp [2] rfl) rfl ?_
    rintro u h' H' - ⟨e, N, sv2, ok2, rem2, rfl, hb2, rfl, f2⟩
    obtain rfl := e.symm
    simp only [List.set_cons_zero, List.set_cons_succ, List.eraseIdx_cons_zero, List.eraseIdx_cons_succ, List.cons_append, List.nil_append]
    have g2 : rem2.length ≤ big := Nat.le_trans f2.1.1 g1
    have hN : N ≤ 16390 := Nat.le_trans f2.1.2 (Nat.le_trans f2.1.1 hl20)
    have fw2 : ∀ y, RdPr k ok rem y → ok2 = true ∧ N = y.images.length ∧ rem2 = y.images.flatMap imgN := fun y hy => by
      obtain ⟨hok, hl0, hwx, hky, o1, e2⟩ := fB y hy
      have hf : fieldsN y = cu y.images.length ++ y.images.flatMap imgN := by unfold fieldsN; rw [if_neg (by omega), if_neg (by omega), if_neg (by omega), if_pos (by omega)]
      rw [hf] at e2
      have hlen := flat_pos imgN y.images fun x hx => by
        have h1 := cu_pos (x := x.page) (by have := (hwx.2 x hx).1; omega)
        unfold imgN
        rw [List.length_append]; omega
      have hbl2 : (y.images.flatMap imgN).length ≤ 16390 := by
        have := congrArg List.length e2
        rw [List.length_append] at this
        omega
      obtain ⟨d1, d2, d3⟩ := f2.2 y.images.length _ (by omega) hlen o1 e2
      exact ⟨d2, d1, d3⟩
    (repeat' (first | refine X.rk ?_ | (refine X.rd ?_ ?_ <;> intro hc <;> first | (exfalso; omega) | skip)))
    refine X.w ?_
    (repeat' (first | refine X.rk ?_ | (refine X.rd ?_ ?_ <;> intro hc <;> first | (exfalso; omega) | skip)))
    refine K.WC.nilBuf 53 5 ?_
    refine K.c_join (β := LoD PImg) (fun q => [(1, rp p), (4, rp B4), (5, rp B5)]) (fun q => q.b) (fun q => bufA 53 5 q.a q.es.length q.cap q.es.flatten :: qA p q.sv (!q.ok) :: blk B5 31 (cR ⟨(k : Nat), 0, 0, 0, 0, 0, 0, zO, [], [], [], 0⟩ (.slice none 0 0) (bufV q.a q.es.length q.cap) (.slice none 0 0) (.slice none 0 0)) :: blk B4 31 (cR zR (.slice none 0 0) (.slice none 0 0) (.slice none 0 0) (.slice none 0 0)) :: F)
      (fun q => (h.le q.b ∧ BV q.b q.sv q.rem ∧ q.rem.length ≤ rem2.length ∧ RowsG (ImgC q.b) q.es q.l ∧ q.l.length ≤ N) ∧ ∀ y, RdPr k ok rem y → q.ok = true ∧ q.l = y.images ∧ q.rem = []) (fun KI hI => ?_) ?_
    · (repeat' (first | refine X.rq ?_ | (refine X.rc ?_ ?_ <;> intro hc <;> first | (exfalso; omega) | skip)))
      refine K.c_loop (σ := LoD PImg) (fun q => [(1, rp p), (4, rp B4), (5, rp B5), (6, .int .i64 N), (7, .int .i64 q.l.length)]) (fun q => q.b) (fun q => bufA 53 5 q.a q.es.length q.cap q.es.flatten :: qA p q.sv (!q.ok) :: blk B5 31 (cR ⟨(k : Nat), 0, 0, 0, 0, 0, 0, zO, [], [], [], 0⟩ (.slice none 0 0) (bufV q.a q.es.length q.cap) (.slice none 0 0) (.slice none 0 0)) :: blk B4 31 (cR zR (.slice none 0 0) (.slice none 0 0) (.slice none 0 0) (.slice none 0 0)) :: F)
        (fun q => (h.le q.b ∧ BV q.b q.sv q.rem ∧ q.rem.length ≤ rem2.length ∧ RowsG (ImgC q.b) q.es q.l ∧ q.l.length ≤ N) ∧ ∀ y, RdPr k ok rem y → q.ok = true ∧ q.l = (y.images).take q.l.length ∧ N = (y.images).length ∧ q.rem = ((y.images).drop q.l.length).flatMap imgN ++ []) (fun q => N - q.l.length)
        ⟨h, sv2, ok2, rem2, [], [], none, 0⟩ ⟨⟨K.Base.le.refl _, hb2, Nat.le_refl _, RowsG.nil, Nat.zero_le _⟩, fun y hy => by
          obtain ⟨e4, e5, e6⟩ := fw2 y hy
          exact ⟨e4, by simp, e5, by simpa using e6⟩⟩ (by repeat (first | exact K.Sub.nil _ | refine K.Sub.cons rfl ?_)) rfl rfl ?_
      rintro ⟨hb, svL, okL, remL, es, l, a, cap⟩ ⟨⟨hle, hbL, hlL, hrow, hn⟩, fw⟩ KL hKL
      dsimp only at hle hbL hlL hrow hn fw ⊢
      have gL : remL.length ≤ big := Nat.le_trans hlL g2
      have hel := hrow.1
      by_cases hn0 : l.length = N
      · (repeat' (first | refine X.rq ?_ | (refine X.rc ?_ ?_ <;> intro hc <;> first | (exfalso; omega) | skip)))
        refine K.a_join hI ⟨hb, svL, okL, remL, es, l, a, cap⟩ ⟨⟨hle, hbL, hlL, hrow, hn⟩, fun y hy => ?_⟩ (by repeat (first | exact K.Sub.nil _ | refine K.Sub.cons rfl ?_)) rfl rfl
        obtain ⟨e1, e2, e3, e4⟩ := fw y hy
        dsimp only
        rw [hn0, e3, List.take_length] at e2
        rw [hn0, e3, List.drop_length] at e4
        exact ⟨e1, e2, by simpa using e4⟩
      · cases okL with
        | false =>
          (repeat' (first | refine X.rq ?_ | (refine X.rc ?_ ?_ <;> intro hc <;> first | (exfalso; omega) | skip)))
          refine K.a_join hI ⟨hb, svL, false, remL, es, l, a, cap⟩ ⟨⟨hle, hbL, hlL, hrow, hn⟩, fun y hy => ?_⟩ (by repeat (first | exact K.Sub.nil _ | refine K.Sub.cons rfl ?_)) rfl rfl
          exact absurd (fw y hy).1 (by decide)
        | true =>
          (repeat' (first | refine X.rq ?_ | (refine X.rc ?_ ?_ <;> intro hc <;> first | (exfalso; omega) | skip)))
          refine K.l_call (Fx.cal rfl) rfl (M_narrow hb p svL true remL hbL gL) (K.pp [1] rfl) rfl ?_
          rintro u h' H' - ⟨e, nb, sv5, ok5, rem5, rfl, hnb, hb5, rfl, f5⟩
          obtain rfl := e.symm
          simp only [List.set_cons_zero, List.set_cons_succ, List.eraseIdx_cons_zero, List.eraseIdx_cons_succ, List.cons_append, List.nil_append]
          have g5 : rem5.length ≤ big := Nat.le_trans f5.1 gL
          (repeat' (first | refine X.rq ?_ | (refine X.rc ?_ ?_ <;> intro hc <;> first | (exfalso; omega) | skip)))
          refine K.l_alloc (Fx.zr rfl) rfl rfl (fun B8 => ?_)
          refine X.stw ?_
          simp only [List.set_cons_zero, List.set_cons_succ, List.eraseIdx_cons_zero, List.eraseIdx_cons_succ, List.cons_append, List.nil_append]
          (repeat' (first | refine X.rq ?_ | (refine X.rc ?_ ?_ <;> intro hc <;> first | (exfalso; omega) | skip)))
          refine K.l_call (Fx.cal rfl) rfl (M_U8 hb p sv5 ok5 rem5 hb5 g5) (K.pp [1] rfl) rfl ?_
          rintro u h' H' - ⟨e, kd, sv6, ok6, rem6, rfl, hkd, hb6, rfl, f6⟩
          obtain rfl := e.symm
          simp only [List.set_cons_zero, List.set_cons_succ, List.eraseIdx_cons_zero, List.eraseIdx_cons_succ, List.cons_append, List.nil_append]
          have g6 : rem6.length ≤ big := Nat.le_trans f6.1 g5
          (repeat' (first | refine X.rq ?_ | (refine X.rc ?_ ?_ <;> intro hc <;> first | (exfalso; omega) | skip)))
          refine X.sto ?_
          simp only [List.set_cons_zero, List.set_cons_succ, List.eraseIdx_cons_zero, List.eraseIdx_cons_succ, List.cons_append, List.nil_append]
          (repeat' (first | refine X.rq ?_ | (refine X.rc ?_ ?_ <;> intro hc <;> first | (exfalso; omega) | skip)))
          refine K.l_call (Fx.cal rfl) rfl (M_narrow hb p sv6 ok6 rem6 hb6 g6) (K.pp [0] rfl) rfl ?_
          rintro u h' H' - ⟨e, nx, sv7, ok7, rem7, rfl, hnx, hb7, rfl, f7⟩
          obtain rfl := e.symm
          simp only [List.set_cons_zero, List.set_cons_succ, List.eraseIdx_cons_zero, List.eraseIdx_cons_succ, List.cons_append, List.nil_append]
          have g7 : rem7.length ≤ big := Nat.le_trans f7.1 g6
          (repeat' (first | refine X.rq ?_ | (refine X.rc ?_ ?_ <;> intro hc <;> first | (exfalso; omega) | skip)))
          refine X.sto ?_
          simp only [List.set_cons_zero, List.set_cons_succ, List.eraseIdx_cons_zero, List.eraseIdx_cons_succ, List.cons_append, List.nil_append]
          (repeat' (first | refine X.rq ?_ | (refine X.rc ?_ ?_ <;> intro hc <;> first | (exfalso; omega) | skip)))
          refine K.l_call (Fx.cal rfl) rfl (M_many hb p sv7 ok7 rem7 hb7 g7) (K.pp [0] rfl) rfl ?_
          rintro u h' H' - ⟨e, M, sv8, ok8, rem8, rfl, hb8, rfl, f8⟩
          obtain rfl := e.symm
          simp only [List.set_cons_zero, List.set_cons_succ, List.eraseIdx_cons_zero, List.eraseIdx_cons_succ, List.cons_append, List.nil_append]
          have g8 : rem8.length ≤ big := Nat.le_trans f8.1.1 g7
          have hM : M ≤ 16390 := Nat.le_trans f8.1.2 (Nat.le_trans f8.1.1 (Nat.le_trans f7.1 (Nat.le_trans f6.1 (Nat.le_trans f5.1 (Nat.le_trans hlL (Nat.le_trans f2.1.1 hl20))))))
          have fz : ∀ (z : PImg) rest, (z.page < 4294967296 ∧ 1 ≤ z.to.kind ∧ z.to.kind ≤ 3 ∧ z.to.lsn = 0 ∧ z.to.next < 4294967296 ∧ z.to.cells.length ≤ 60 ∧ ∀ c ∈ z.to.cells, okCell c ∧ c.killer < 4294967296) ∧ remL = imgN z ++ rest → ok8 = true ∧ nb = z.page ∧ (kd : Int) = z.to.kind ∧ nx = z.to.next ∧ M = z.to.cells.length ∧ rem8 = cellsN z.to.cells ++ rest := fun z rest hz => by
            obtain ⟨⟨z1, z2, z3, z4, z5, z6, z7⟩, he⟩ := hz
            rw [imgN, pagN] at he
            simp only [List.append_assoc] at he
            obtain ⟨a1, a2, a3⟩ := f5.2 z.page _ z1 rfl he
            obtain ⟨b1, b2, b3⟩ := f6.2 z.to.kind.toNat _ (show z.to.kind.toNat < 256 by omega) a2 a3
            obtain ⟨c1, c2, c3⟩ := f7.2 z.to.next _ z5 b2 b3
            have hlen := flat_pos cellN z.to.cells fun x hx => cellN_pos (z7 x hx).1
            obtain ⟨d1, d2, d3⟩ := f8.2 z.to.cells.length _ (by omega) (by rw [List.length_append]; unfold cellsN; omega) c2 c3
            exact ⟨d2, a1, by omega, c1, d1, d3⟩
          (repeat' (first | refine X.rk ?_ | (refine X.rd ?_ ?_ <;> intro hc <;> first | (exfalso; omega) | skip)))
          refine X.w ?_
          (repeat' (first | refine X.rk ?_ | (refine X.rd ?_ ?_ <;> intro hc <;> first | (exfalso; omega) | skip)))
          refine K.WC.nilBuf 55 3 ?_
          refine K.c_join (β := LoD PCell) (fun q => [(1, rp p), (4, rp B4), (5, rp B5), (6, .int .i64 N), (7, .int .i64 l.length), (8, rp B8)]) (fun q => q.b) (fun q => bufA 55 3 q.a q.es.length q.cap q.es.flatten :: qA p q.sv (!q.ok) :: blk B8 53 [.int .u32 (nb : Nat), .int .i64 (kd : Nat), .int .u64 0, .int .u32 (nx : Nat), (bufV q.a q.es.length q.cap)] :: bufA 53 5 a es.length cap es.flatten :: blk B5 31 (cR ⟨(k : Nat), 0, 0, 0, 0, 0, 0, zO, [], [], [], 0⟩ (.slice none 0 0) (bufV a es.length cap) (.slice none 0 0) (.slice none 0 0)) :: blk B4 31 (cR zR (.slice none 0 0) (.slice none 0 0) (.slice none 0 0) (.slice none 0 0)) :: F)
            (fun q => (hb.le q.b ∧ BV q.b q.sv q.rem ∧ q.rem.length ≤ rem8.length ∧ Rows q.b q.es q.l ∧ q.l.length ≤ M) ∧ ∀ (z : PImg) rest, (z.page < 4294967296 ∧ 1 ≤ z.to.kind ∧ z.to.kind ≤ 3 ∧ z.to.lsn = 0 ∧ z.to.next < 4294967296 ∧ z.to.cells.length ≤ 60 ∧ ∀ c ∈ z.to.cells, okCell c ∧ c.killer < 4294967296) ∧ remL = imgN z ++ rest → q.ok = true ∧ q.l = z.to.cells ∧ q.rem = rest) (fun KC hC => ?_) ?_
          · (repeat' (first | refine X.rq ?_ | (refine X.rc ?_ ?_ <;> intro hc <;> first | (exfalso; omega) | skip)))
            refine K.c_loop (σ := LoD PCell) (fun q => [(1, rp p), (4, rp B4), (5, rp B5), (6, .int .i64 N), (7, .int .i64 l.length), (8, rp B8), (9, .int .i64 M), (10, .int .i64 q.l.length)]) (fun q => q.b) (fun q => bufA 55 3 q.a q.es.length q.cap q.es.flatten :: qA p q.sv (!q.ok) :: blk B8 53 [.int .u32 (nb : Nat), .int .i64 (kd : Nat), .int .u64 0, .int .u32 (nx : Nat), (bufV q.a q.es.length q.cap)] :: bufA 53 5 a es.length cap es.flatten :: blk B5 31 (cR ⟨(k : Nat), 0, 0, 0, 0, 0, 0, zO, [], [], [], 0⟩ (.slice none 0 0) (bufV a es.length cap) (.slice none 0 0) (.slice none 0 0)) :: blk B4 31 (cR zR (.slice none 0 0) (.slice none 0 0) (.slice none 0 0) (.slice none 0 0)) :: F)
              (fun q => (hb.le q.b ∧ BV q.b q.sv q.rem ∧ q.rem.length ≤ rem8.length ∧ Rows q.b q.es q.l ∧ q.l.length ≤ M) ∧ ∀ (z : PImg) rest, (z.page < 4294967296 ∧ 1 ≤ z.to.kind ∧ z.to.kind ≤ 3 ∧ z.to.lsn = 0 ∧ z.to.next < 4294967296 ∧ z.to.cells.length ≤ 60 ∧ ∀ c ∈ z.to.cells, okCell c ∧ c.killer < 4294967296) ∧ remL = imgN z ++ rest → q.ok = true ∧ q.l = z.to.cells.take q.l.length ∧ M = z.to.cells.length ∧ q.rem = cellsN (z.to.cells.drop q.l.length) ++ rest) (fun q => M - q.l.length)
              ⟨hb, sv8, ok8, rem8, [], [], none, 0⟩ ⟨⟨K.Base.le.refl _, hb8, Nat.le_refl _, ⟨rfl, fun j c x h1 => by simp at h1⟩, Nat.zero_le _⟩, fun z rest hz => by
                obtain ⟨e1, _, _, _, e5, e6⟩ := fz z rest hz
                exact ⟨e1, by simp, e5, by simpa using e6⟩⟩ (by repeat (first | exact K.Sub.nil _ | refine K.Sub.cons rfl ?_)) rfl rfl ?_
            rintro ⟨bc, svC, okC, remC, ec, lc, ac, capc⟩ ⟨⟨hlec, hbC, hlC, hrowc, hnc⟩, fwc⟩ KM hKM
            dsimp only at hlec hbC hlC hrowc hnc fwc ⊢
            have gC : remC.length ≤ big := Nat.le_trans hlC g8
            have hecl := hrowc.1
            by_cases hn0 : lc.length = M
            · (repeat' (first | refine X.rq ?_ | (refine X.rc ?_ ?_ <;> intro hc <;> first | (exfalso; omega) | skip)))
              refine K.a_join hC ⟨bc, svC, okC, remC, ec, lc, ac, capc⟩ ⟨⟨hlec, hbC, hlC, hrowc, hnc⟩, fun z rest hz => ?_⟩ (by repeat (first | exact K.Sub.nil _ | refine K.Sub.cons rfl ?_)) rfl rfl
              obtain ⟨e1, e2, e3, e4⟩ := fwc z rest hz
              dsimp only
              rw [hn0, e3, List.take_length] at e2
              rw [hn0, e3, List.drop_length] at e4
              exact ⟨e1, e2, by simpa [cellsN] using e4⟩
            · cases okC with
              | false =>
                (repeat' (first | refine X.rq ?_ | (refine X.rc ?_ ?_ <;> intro hc <;> first | (exfalso; omega) | skip)))
                refine K.a_join hC ⟨bc, svC, false, remC, ec, lc, ac, capc⟩ ⟨⟨hlec, hbC, hlC, hrowc, hnc⟩, fun z rest hz => ?_⟩ (by repeat (first | exact K.Sub.nil _ | refine K.Sub.cons rfl ?_)) rfl rfl
                exact absurd (fwc z rest hz).1 (by decide)
              | true =>
                (repeat' (first | refine X.rq ?_ | (refine X.rc ?_ ?_ <;> intro hc <;> first | (exfalso; omega) | skip)))
                refine K.l_alloc (Fx.zr rfl) rfl rfl (fun B11 => ?_)
                refine X.stw ?_
                simp only [List.set_cons_zero, List.set_cons_succ, List.eraseIdx_cons_zero, List.eraseIdx_cons_succ, List.cons_append, List.nil_append]
                (repeat' (first | refine X.rq ?_ | (refine X.rc ?_ ?_ <;> intro hc <;> first | (exfalso; omega) | skip)))
                refine K.l_call (Fx.cal rfl) rfl (M_many bc p svC true remC hbC gC) (K.pp [2] rfl) rfl ?_
                rintro u h' H' - ⟨e, x, sv9, ok9, rem9, rfl, hb9, rfl, f9⟩
                obtain rfl := e.symm
                simp only [List.set_cons_zero, List.set_cons_succ, List.eraseIdx_cons_zero, List.eraseIdx_cons_succ, List.cons_append, List.nil_append]
                have g9 : rem9.length ≤ big := Nat.le_trans f9.1.1 gC
                have hx9 : x ≤ 16390 := Nat.le_trans f9.1.2 (Nat.le_trans f9.1.1 (Nat.le_trans hlC (Nat.le_trans f8.1.1 (Nat.le_trans f7.1 (Nat.le_trans f6.1 (Nat.le_trans f5.1 (Nat.le_trans hlL (Nat.le_trans f2.1.1 hl20))))))))
                (repeat' (first | refine X.rs ?_ | (refine X.rd ?_ ?_ <;> intro hc <;> first | (exfalso; omega) | skip)))
                apply K.c_seq
                refine K.c_join (β := CeD) (fun s => [(1, rp p), (4, rp B4), (5, rp B5), (6, .int .i64 N), (7, .int .i64 l.length), (8, rp B8), (9, .int .i64 M), (10, .int .i64 lc.length), (11, rp B11)]) (fun s => s.b)
                  (fun s => blk B11 55 [.bool s.x.used, .int .u32 s.x.killer, .slice s.ao s.x.data.length s.ca] :: qA p s.sv (!s.ok) :: bufA 55 3 ac ec.length capc ec.flatten :: blk B8 53 [.int .u32 (nb : Nat), .int .i64 (kd : Nat), .int .u64 0, .int .u32 (nx : Nat), (bufV ac ec.length capc)] :: bufA 53 5 a es.length cap es.flatten :: blk B5 31 (cR ⟨(k : Nat), 0, 0, 0, 0, 0, 0, zO, [], [], [], 0⟩ (.slice none 0 0) (bufV a es.length cap) (.slice none 0 0) (.slice none 0 0)) :: blk B4 31 (cR zR (.slice none 0 0) (.slice none 0 0) (.slice none 0 0) (.slice none 0 0)) :: F)
                  (fun s => bc.le s.b ∧ BV s.b s.sv s.rem ∧ CellC s.b [.bool s.x.used, .int .u32 s.x.killer, .slice s.ao s.x.data.length s.ca] s.x ∧ Fw (fun z => okCell z ∧ z.killer < 4294967296) cellN true remC s.x s.ok s.rem) (fun KD hD => ?_) ?_
                · by_cases hx0 : x = 0
                  · subst hx0
                    (repeat' (first | refine X.rq ?_ | (refine X.rc ?_ ?_ <;> intro hc <;> first | (exfalso; omega) | skip)))
                    refine K.AT.perm (K.pp [1] rfl) ?_
                    simp only [List.set_cons_zero, List.set_cons_succ, List.eraseIdx_cons_zero, List.eraseIdx_cons_succ, List.cons_append, List.nil_append]
                    refine K.a_join hD ⟨bc, sv9, ok9, rem9, ⟨false, 0, []⟩, none, 0⟩ ⟨K.Base.le.refl _, hb9, ⟨show (0 : Nat) < 4294967296 by decide, Nat.zero_le _, none, 0, rfl, BV.nil⟩, f9.1.1, fun z rest hz hok he => ?_⟩ (by repeat (first | exact K.Sub.nil _ | refine K.Sub.cons rfl ?_)) rfl rfl
                    obtain ⟨⟨hz1, hz2⟩, hz3⟩ := hz
                    have hzl : z.data.length ≤ 180 := by
                      cases hu : z.used with
                      | true => exact (hz1 hu).2
                      | false => have := (hz2 hu).2; omega
                    unfold cellN at he
                    rw [List.append_assoc] at he
                    obtain ⟨e1, e2, e3⟩ := f9.2 z.data.length _ (by omega) (by
                      rw [List.length_append]
                      cases hu : z.used with
                      | true => rw [if_pos rfl, List.length_append]; omega
                      | false => have := (hz2 hu).2; omega) hok he
                    obtain ⟨zu, zk, zd⟩ := z
                    dsimp only at *
                    cases zu with
                    | true => have := (hz1 rfl).1; omega
                    | false =>
                      obtain ⟨h1, h2⟩ := hz2 rfl
                      subst h1
                      rw [List.eq_nil_of_length_eq_zero h2]
                      exact ⟨rfl, e2, by simpa using e3⟩
                  · (repeat' (first | refine X.rq ?_ | (refine X.rc ?_ ?_ <;> intro hc <;> first | (exfalso; omega) | skip)))
                    refine K.WL.perm (K.pp [1] rfl) ?_
                    simp only [List.set_cons_zero, List.set_cons_succ, List.eraseIdx_cons_zero, List.eraseIdx_cons_succ, List.cons_append, List.nil_append]
                    refine X.sto ?_
                    simp only [List.set_cons_zero, List.set_cons_succ, List.eraseIdx_cons_zero, List.eraseIdx_cons_succ, List.cons_append, List.nil_append]
                    (repeat' (first | refine X.rq ?_ | (refine X.rc ?_ ?_ <;> intro hc <;> first | (exfalso; omega) | skip)))
                    refine K.l_call (Fx.cal rfl) rfl (M_narrow bc p sv9 ok9 rem9 hb9 g9) (K.pp [1] rfl) rfl ?_
                    rintro u h' H' - ⟨e, kl, sv10, ok10, rem10, rfl, hkl, hb10, rfl, f10⟩
                    obtain rfl := e.symm
                    simp only [List.set_cons_zero, List.set_cons_succ, List.eraseIdx_cons_zero, List.eraseIdx_cons_succ, List.cons_append, List.nil_append]
                    have g10 : rem10.length ≤ big := Nat.le_trans f10.1 g9
                    (repeat' (first | refine X.rq ?_ | (refine X.rc ?_ ?_ <;> intro hc <;> first | (exfalso; omega) | skip)))
                    refine X.sto ?_
                    simp only [List.set_cons_zero, List.set_cons_succ, List.eraseIdx_cons_zero, List.eraseIdx_cons_succ, List.cons_append, List.nil_append]
                    (repeat' (first | refine X.rq ?_ | (refine X.rc ?_ ?_ <;> intro hc <;> first | (exfalso; omega) | skip)))
                    refine K.l_call (Fx.cal rfl) rfl (M_Take bc p sv10 ok10 rem10 x hb10 g10 (by omega)) (K.pp [0] rfl) rfl ?_
                    rintro u h' H' - ⟨e, d, a9, cap9, sv11, ok11, rem11, rfl, hd, hb11, rfl, f11⟩
                    obtain rfl := e.symm
                    simp only [List.set_cons_zero, List.set_cons_succ, List.eraseIdx_cons_zero, List.eraseIdx_cons_succ, List.cons_append, List.nil_append]
                    refine K.WL.freezeBuf (fun bc2 hle2 hbv => ?_)
                    obtain ⟨ao9, ca9, e9⟩ := hbv.len
                    rw [e9] at hbv ⊢
                    (repeat' (first | refine X.rq ?_ | (refine X.rc ?_ ?_ <;> intro hc <;> first | (exfalso; omega) | skip)))
                    refine X.sto ?_
                    simp only [List.set_cons_zero, List.set_cons_succ, List.eraseIdx_cons_zero, List.eraseIdx_cons_succ, List.cons_append, List.nil_append]
                    (repeat' (first | refine X.rq ?_ | (refine X.rc ?_ ?_ <;> intro hc <;> first | (exfalso; omega) | skip)))
                    skip
                    refine K.AT.perm (K.pp [1, 0] rfl) ?_
                    simp only [List.set_cons_zero, List.set_cons_succ, List.eraseIdx_cons_zero, List.eraseIdx_cons_succ, List.cons_append, List.nil_append]
                    refine K.a_join hD ⟨bc2, sv11, ok11, rem11, ⟨true, kl, d⟩, ao9, ca9⟩ ⟨hle2, hb11.le hle2, ⟨hkl, show d.length ≤ _ by omega, ao9, ca9, rfl, hbv⟩, Nat.le_trans f11.1 (Nat.le_trans f10.1 f9.1.1), fun z rest hz hok he => ?_⟩ (by repeat (first | exact K.Sub.nil _ | refine K.Sub.cons rfl ?_)) rfl rfl
                    obtain ⟨⟨hz1, hz2⟩, hz3⟩ := hz
                    have hzl : z.data.length ≤ 180 := by
                      cases hu : z.used with
                      | true => exact (hz1 hu).2
                      | false => have := (hz2 hu).2; omega
                    unfold cellN at he
                    rw [List.append_assoc] at he
                    obtain ⟨e1, e2, e3⟩ := f9.2 z.data.length _ (by omega) (by
                      rw [List.length_append]
                      cases hu : z.used with
                      | true => rw [if_pos rfl, List.length_append]; omega
                      | false => have := (hz2 hu).2; omega) hok he
                    obtain ⟨zu, zk, zd⟩ := z
                    dsimp only at *
                    cases zu with
                    | false => have := (hz2 rfl).2; omega
                    | true =>
                      rw [if_pos rfl, List.append_assoc] at e3
                      obtain ⟨b1, b2, b3⟩ := f10.2 zk _ hz3 e2 e3
                      obtain ⟨d1, d2, d3⟩ := f11.2 zd _ (show zd.length = x from e1.symm) b2 b3
                      subst b1 d1
                      exact ⟨rfl, d2, d3⟩
                · rintro ⟨bc2, sv12, ok12, rem12, x2, ao5, ca5⟩ ⟨hle2, hb12, hcc, fwx⟩
                  dsimp only at hle2 hb12 hcc fwx ⊢
                  have hrow2 := (hrowc.le hle2).push hcc
                  (repeat' (first | refine X.rq ?_ | (refine X.rc ?_ ?_ <;> intro hc <;> first | (exfalso; omega) | skip)))
                  refine K.l_buildSlice (Fx.und rfl) (Fx.sz rfl) rfl (Fx.zr rfl) rfl rfl rfl (cs := [.bool x2.used, .int .u32 x2.killer, .slice ao5 x2.data.length ca5]) rfl rfl (fun B10 => ?_)
                  refine K.l_append_at 3 rfl (Fx.und rfl) (Fx.und rfl) rfl (Fx.sz rfl) (Fx.zr rfl) rfl (Fx.byt rfl) rfl rfl (K.src_cells (K.cels_own (pre := []) (cs := [.bool x2.used, .int .u32 x2.killer, .slice ao5 x2.data.length ca5]) (post := []) 0 rfl rfl) rfl (List.all_eq_true.1 (show ones [.bool x2.used, .int .u32 x2.killer, .slice ao5 x2.data.length ca5] = true from rfl))) (by omega) (by omega) rfl (fun a6 cap6 => ?_)
                  simp only [List.set_cons_zero, List.set_cons_succ, List.eraseIdx_cons_zero, List.eraseIdx_cons_succ, List.cons_append, List.nil_append]
                  (repeat' (first | refine X.rq ?_ | (refine X.rc ?_ ?_ <;> intro hc <;> first | (exfalso; omega) | skip)))
                  refine X.sto ?_
                  simp only [List.set_cons_zero, List.set_cons_succ, List.eraseIdx_cons_zero, List.eraseIdx_cons_succ, List.cons_append, List.nil_append]
                  (repeat' (first | refine X.rq ?_ | (refine X.rc ?_ ?_ <;> intro hc <;> first | (exfalso; omega) | skip)))
                  refine K.AT.sel [0, 0] rfl ?_
                  refine K.AT.perm (K.pp [1] rfl) ?_
                  simp only [List.set_cons_zero, List.set_cons_succ, List.eraseIdx_cons_zero, List.eraseIdx_cons_succ, List.cons_append, List.nil_append]
                  refine K.a_round hKM ⟨bc2, sv12, ok12, rem12, ec ++ [[.bool x2.used, .int .u32 x2.killer, .slice ao5 x2.data.length ca5]], lc ++ [x2], a6, cap6⟩ ⟨⟨hlec.trans hle2, hb12, Nat.le_trans fwx.1 hlC, hrow2, by dsimp only; rw [List.length_append, List.length_singleton]; omega⟩, fun z rest hz => ?_⟩ ?_ rfl ?_ (by dsimp only; rw [List.length_append, List.length_singleton]; omega)
                  · obtain ⟨e1, e2, e3, e4⟩ := fwc z rest hz
                    dsimp only
                    obtain ⟨c, hz1, hz2, hz3⟩ := drop_at (l := z.to.cells) (j := lc.length) (n := M - lc.length - 1) (by omega)
                    rw [hz2] at e4
                    have hzm := List.mem_of_getElem? hz1
                    obtain ⟨d1, d2, d3⟩ := fwx.2 c (cellsN (z.to.cells.drop (lc.length + 1)) ++ rest) (hz.1.2.2.2.2.2.2 c hzm) rfl (by rw [e4]; unfold cellsN; rw [List.flatMap_cons, List.append_assoc])
                    rw [List.length_append, List.length_singleton]
                    refine ⟨d2, ?_, e3, d3⟩
                    rw [hz3, ← e2, d1]
                  · dsimp only
                    rw [List.length_append, List.length_singleton]
                    exact (by repeat (first | exact K.Sub.nil _ | refine K.Sub.cons rfl ?_))
                  · dsimp only
                    rw [List.length_append, List.length_singleton, List.flatten_append]
                    simp only [List.flatten_cons, List.flatten_nil, List.append_nil]
                    try rfl
          · rintro ⟨bc, svC, okC, remC, ec, lc, ac, capc⟩ ⟨⟨hlec, hbC, hlC, hrowc, hnc⟩, fwc⟩
            dsimp only at hlec hbC hlC hrowc hnc fwc ⊢
            have hecl := hrowc.1
            refine K.AT.freezeRow hrowc.three (fun bc2 hlec2 hsl hcap => ?_)
            have hlec3 := hlec.trans hlec2
            have hbC2 := hbC.le hlec2
            have hrowc2 := hrowc.le hlec2
            rw [hecl] at hsl ⊢
            obtain ⟨ao9, ca9, e9⟩ := hsl.len
            rw [hecl] at e9
            rw [e9] at hsl ⊢
            have himg : ImgC bc2 [.int .u32 (nb : Nat), .int .i64 (kd : Nat), .int .u64 0, .int .u32 (nx : Nat), .slice ao9 lc.length ca9] (⟨nb, ⟨(kd : Nat), 0, nx, lc⟩⟩ : PImg) := ⟨hnb, cP ⟨(kd : Nat), 0, nx, lc⟩ (.slice ao9 lc.length ca9), rfl, ⟨in64n (by omega), (by decide : (0 : Nat) < 18446744073709551616), hnx, show lc.length ≤ _ by omega⟩, _, rfl, ec, hsl, hecl, hrowc2.2⟩
            have hrow2 := (hrow.mono fun c x hx => ImgC.le hlec3 hx).push himg
            (repeat' (first | refine X.rq ?_ | (refine X.rc ?_ ?_ <;> intro hc <;> first | (exfalso; omega) | skip)))
            refine K.l_buildSlice (Fx.und rfl) (Fx.sz rfl) rfl (Fx.zr rfl) rfl rfl rfl (cs := [.int .u32 (nb : Nat), .int .i64 (kd : Nat), .int .u64 0, .int .u32 (nx : Nat), .slice ao9 lc.length ca9]) rfl rfl (fun B10 => ?_)
            refine K.l_append_at 3 rfl (Fx.und rfl) (Fx.und rfl) rfl (Fx.sz rfl) (Fx.zr rfl) rfl (Fx.byt rfl) rfl rfl (K.src_cells (K.cels_own (pre := []) (cs := [.int .u32 (nb : Nat), .int .i64 (kd : Nat), .int .u64 0, .int .u32 (nx : Nat), .slice ao9 lc.length ca9]) (post := []) 0 rfl rfl) rfl (List.all_eq_true.1 (show ones [.int .u32 (nb : Nat), .int .i64 (kd : Nat), .int .u64 0, .int .u32 (nx : Nat), .slice ao9 lc.length ca9] = true from rfl))) (by omega) (by omega) rfl (fun a6 cap6 => ?_)
            simp only [List.set_cons_zero, List.set_cons_succ, List.eraseIdx_cons_zero, List.eraseIdx_cons_succ, List.cons_append, List.nil_append]
            (repeat' (first | refine X.rq ?_ | (refine X.rc ?_ ?_ <;> intro hc <;> first | (exfalso; omega) | skip)))
            refine X.sto ?_
            simp only [List.set_cons_zero, List.set_cons_succ, List.eraseIdx_cons_zero, List.eraseIdx_cons_succ, List.cons_append, List.nil_append]
            (repeat' (first | refine X.rq ?_ | (refine X.rc ?_ ?_ <;> intro hc <;> first | (exfalso; omega) | skip)))
            refine K.AT.sel [0, 1] rfl ?_
            refine K.AT.perm (K.pp [1] rfl) ?_
            simp only [List.set_cons_zero, List.set_cons_succ, List.eraseIdx_cons_zero, List.eraseIdx_cons_succ, List.cons_append, List.nil_append]
            refine K.a_round hKL ⟨bc2, svC, okC, remC, es ++ [[.int .u32 (nb : Nat), .int .i64 (kd : Nat), .int .u64 0, .int .u32 (nx : Nat), .slice ao9 lc.length ca9]], l ++ [⟨nb, ⟨(kd : Nat), 0, nx, lc⟩⟩], a6, cap6⟩ ⟨⟨hle.trans hlec3, hbC2, Nat.le_trans hlC (Nat.le_trans f8.1.1 (Nat.le_trans f7.1 (Nat.le_trans f6.1 (Nat.le_trans f5.1 hlL)))), hrow2, by dsimp only; rw [List.length_append, List.length_singleton]; omega⟩, fun y hy => ?_⟩ ?_ rfl ?_ (by dsimp only; rw [List.length_append, List.length_singleton]; omega)
            · obtain ⟨e1, e2, e3, e4⟩ := fw y hy
              obtain ⟨hok, hl0, hwx, hky, _⟩ := fB y hy
              dsimp only
              obtain ⟨z, hz1, hz2, hz3⟩ := drop_at (l := y.images) (j := l.length) (n := N - l.length - 1) (by omega)
              have hzm := List.mem_of_getElem? hz1
              obtain ⟨q1, q2, q3, q4, q5⟩ := cellsN_len hy.1 hzm
              have hzw := hwx.2 z hzm
              rw [hz2, List.append_nil, List.flatMap_cons] at e4
              have hpz := And.intro (And.intro hzw.1 (And.intro q3 (And.intro q4 (And.intro q5 (And.intro hzw.2.1 (And.intro q1 fun c bc => And.intro (q2 c bc) (hzw.2.2 c bc))))))) e4
              obtain ⟨b1, b2, b3⟩ := fwc z _ hpz
              obtain ⟨_, i1, i2, i3, _, _⟩ := fz z _ hpz
              rw [List.length_append, List.length_singleton]
              refine ⟨b1, ?_, e3, by rw [b3, List.append_nil]⟩
              rw [hz3, ← e2, i1, i2, i3, b2, ← q5]
            · dsimp only
              rw [List.length_append, List.length_singleton]
              exact (by repeat (first | exact K.Sub.nil _ | refine K.Sub.cons rfl ?_))
            · dsimp only
              rw [List.length_append, List.length_singleton, List.flatten_append]
              simp only [List.flatten_cons, List.flatten_nil, List.append_nil]
              try rfl
    · rintro ⟨hb, svL, okL, remL, es, l, a, cap⟩ ⟨⟨hle, hbL, hlL, hrow, hn⟩, fw⟩
      dsimp only at hle hbL hlL hrow hn fw ⊢
      have gL : remL.length ≤ big := Nat.le_trans hlL g2
      have hel := hrow.1
      refine K.AT.freezeRow (hrow.sz fun c x hc => ImgC.five hc) (fun hb2 hle2 hsl hcap => ?_)
      have hle3 := hle.trans hle2
      have hbL2 := hbL.le hle2
      rw [hel] at hsl ⊢
      obtain ⟨ao9, ca9, e9⟩ := hsl.len
      rw [hel] at e9
      rw [e9] at hsl ⊢
      have gl : remL.length ≤ rem.length := Nat.le_trans hlL f2.1.1
      (repeat' (first | refine X.rq ?_ | (refine X.rc ?_ ?_ <;> intro hc <;> first | (exfalso; omega) | skip)))
      refine X.stw ?_
      simp only [List.set_cons_zero, List.set_cons_succ, List.eraseIdx_cons_zero, List.eraseIdx_cons_succ, List.cons_append, List.nil_append]
      (repeat' (first | refine X.rq ?_ | (refine X.rc ?_ ?_ <;> intro hc <;> first | (exfalso; omega) | skip)))
      refine K.AT.perm (K.pp [2, 1] rfl) ?_
      simp only [List.set_cons_zero, List.set_cons_succ, List.eraseIdx_cons_zero, List.eraseIdx_cons_succ, List.cons_append, List.nil_append]
      refine K.doneD (vs := [.agg (cR ⟨(k : Nat), 0, 0, 0, 0, 0, 0, zO, l, [], [], 0⟩ (.slice none (⟨(k : Nat), 0, 0, 0, 0, 0, 0, zO, l, [], [], 0⟩ : Recd).op.data.length 0) (.slice ao9 (⟨(k : Nat), 0, 0, 0, 0, 0, 0, zO, l, [], [], 0⟩ : Recd).images.length ca9) (.slice none (⟨(k : Nat), 0, 0, 0, 0, 0, 0, zO, l, [], [], 0⟩ : Recd).lives.length 0) (.slice none (⟨(k : Nat), 0, 0, 0, 0, 0, 0, zO, l, [], [], 0⟩ : Recd).dirty.length 0)).toArray]) (by first | exact Or.inl rfl | exact Or.inr rfl) (.cell rfl (Fx.agg rfl) (Fx.sz rfl) (K.cels_own (pre := []) (post := []) 0 rfl rfl) .nil) (hle3) (D := [_, _]) (H' := [qA p svL (!okL)]) rfl ⟨_, ⟨(k : Nat), 0, 0, 0, 0, 0, 0, zO, l, [], [], 0⟩, svL, okL, remL, rfl, recC_of (wfR_mk (by omega) (by omega) (by omega) (by omega) (by omega) (by omega) wf_zO (by omega) (by omega) (Nat.zero_le _) (Nat.zero_le _) (fun x hx => by cases hx) (fun x hx => by cases hx)) BV.nil ⟨es, hsl, hel, fun j c x a b => ImgC.le hle2 (hrow.2 j c x a b)⟩ SL.nil SL.nil, ⟨show l.length ≤ 17000 by omega, Nat.zero_le _, Nat.zero_le _, Nat.zero_le _⟩, rfl, hbL2, gl, rfl, fun y hy => ?_⟩
      obtain ⟨hok, hl0, hwx, hky, o1, e1⟩ := fB y hy
      obtain ⟨e1, e2, e3⟩ := fw y hy
      refine ⟨?_, e1, e3⟩
      rw [eq_4 hok.2.1 (by omega), hl0, hk0]
      try dsimp only
      rw [e2]
      rfl
  · (repeat' (first | refine X.rq ?_ | (refine X.rc ?_ ?_ <;> intro hc <;> first | (exfalso; omega) | skip)))
    refine K.l_call (Fx.cal rfl) rfl (M_many h p sv ok rem hb g1) (K.pp [2] rfl) rfl ?_
    rintro u h' H' - ⟨e, N, sv2, ok2, rem2, rfl, hb2, rfl, f2⟩
    obtain rfl := e.symm
    simp only [List.set_cons_zero, List.set_cons_succ, List.eraseIdx_cons_zero, List.eraseIdx_cons_succ, List.cons_append, List.nil_append]
    have g2 : rem2.length ≤ big := Nat.le_trans f2.1.1 g1
    have hN : N ≤ 16390 := Nat.le_trans f2.1.2 (Nat.le_trans f2.1.1 hl20)
    have hl2 : rem2.length ≤ 16390 := Nat.le_trans f2.1.1 hl20
    have fw2 : ∀ y, RdPr k ok rem y → ok2 = true ∧ N = y.lives.length ∧ rem2 = y.lives.flatMap liveN ++ (cu y.dirty.length ++ (y.dirty.flatMap dirtN ++ cu y.next)) := fun y hy => by
      obtain ⟨hok, hl0, hwx, hky, o1, e2⟩ := fB y hy
      have hf : fieldsN y = cu y.lives.length ++ y.lives.flatMap liveN ++ cu y.dirty.length ++ y.dirty.flatMap dirtN ++ cu y.next := by unfold fieldsN; rw [if_neg (by omega), if_neg (by omega), if_neg (by omega), if_neg (by omega), if_pos (by omega)]
      rw [hf] at e2
      have hlen := flat_pos liveN y.lives fun x hx => by
        have h1 := cu_pos (x := x.txn) (by have := (hwx.1.live x hx).txn; omega)
        unfold liveN
        rw [List.length_append, List.length_append, List.length_append]; omega
      have hbl2 : (y.lives.flatMap liveN).length ≤ 16390 := by
        have := congrArg List.length e2
        simp only [List.length_append] at this
        omega
      simp only [List.append_assoc] at e2
      obtain ⟨d1, d2, d3⟩ := f2.2 y.lives.length _ (by omega) (by rw [List.length_append]; omega) o1 e2
      exact ⟨d2, d1, d3⟩
    (repeat' (first | refine X.rk ?_ | (refine X.rd ?_ ?_ <;> intro hc <;> first | (exfalso; omega) | skip)))
    refine X.w ?_
    (repeat' (first | refine X.rk ?_ | (refine X.rd ?_ ?_ <;> intro hc <;> first | (exfalso; omega) | skip)))
    refine K.WC.nilBuf 70 4 ?_
    refine K.c_join (β := LoD PLive) (fun q => [(1, rp p), (4, rp B4), (5, rp B5)]) (fun q => q.b) (fun q => bufA 70 4 q.a q.es.length q.cap q.es.flatten :: qA p q.sv (!q.ok) :: blk B5 31 (cR ⟨(k : Nat), 0, 0, 0, 0, 0, 0, zO, [], [], [], 0⟩ (.slice none 0 0) (.slice none 0 0) (bufV q.a q.es.length q.cap) (.slice none 0 0)) :: blk B4 31 (cR zR (.slice none 0 0) (.slice none 0 0) (.slice none 0 0) (.slice none 0 0)) :: F)
      (fun q => (h.le q.b ∧ BV q.b q.sv q.rem ∧ q.rem.length ≤ rem2.length ∧ RowsG (fun c x => c = Rc.cL x ∧ wfL x) q.es q.l ∧ q.l.length ≤ N) ∧ ∀ y, RdPr k ok rem y → q.ok = true ∧ q.l = y.lives ∧ q.rem = (cu y.dirty.length ++ (y.dirty.flatMap dirtN ++ cu y.next))) (fun KI hI => ?_) ?_
    · (repeat' (first | refine X.rq ?_ | (refine X.rc ?_ ?_ <;> intro hc <;> first | (exfalso; omega) | skip)))
      refine K.c_loop (σ := LoD PLive) (fun q => [(1, rp p), (4, rp B4), (5, rp B5), (13, .int .i64 N), (14, .int .i64 q.l.length)]) (fun q => q.b) (fun q => bufA 70 4 q.a q.es.length q.cap q.es.flatten :: qA p q.sv (!q.ok) :: blk B5 31 (cR ⟨(k : Nat), 0, 0, 0, 0, 0, 0, zO, [], [], [], 0⟩ (.slice none 0 0) (.slice none 0 0) (bufV q.a q.es.length q.cap) (.slice none 0 0)) :: blk B4 31 (cR zR (.slice none 0 0) (.slice none 0 0) (.slice none 0 0) (.slice none 0 0)) :: F)
        (fun q => (h.le q.b ∧ BV q.b q.sv q.rem ∧ q.rem.length ≤ rem2.length ∧ RowsG (fun c x => c = Rc.cL x ∧ wfL x) q.es q.l ∧ q.l.length ≤ N) ∧ ∀ y, RdPr k ok rem y → q.ok = true ∧ q.l = (y.lives).take q.l.length ∧ N = (y.lives).length ∧ q.rem = ((y.lives).drop q.l.length).flatMap liveN ++ (cu y.dirty.length ++ (y.dirty.flatMap dirtN ++ cu y.next))) (fun q => N - q.l.length)
        ⟨h, sv2, ok2, rem2, [], [], none, 0⟩ ⟨⟨K.Base.le.refl _, hb2, Nat.le_refl _, RowsG.nil, Nat.zero_le _⟩, fun y hy => by
          obtain ⟨e4, e5, e6⟩ := fw2 y hy
          exact ⟨e4, by simp, e5, by simpa using e6⟩⟩ (by repeat (first | exact K.Sub.nil _ | refine K.Sub.cons rfl ?_)) rfl rfl ?_
      rintro ⟨hb, svL, okL, remL, es, l, a, cap⟩ ⟨⟨hle, hbL, hlL, hrow, hn⟩, fw⟩ KL hKL
      dsimp only at hle hbL hlL hrow hn fw ⊢
      have gL : remL.length ≤ big := Nat.le_trans hlL g2
      have hel := hrow.1
      by_cases hn0 : l.length = N
      · (repeat' (first | refine X.rq ?_ | (refine X.rc ?_ ?_ <;> intro hc <;> first | (exfalso; omega) | skip)))
        refine K.a_join hI ⟨hb, svL, okL, remL, es, l, a, cap⟩ ⟨⟨hle, hbL, hlL, hrow, hn⟩, fun y hy => ?_⟩ (by repeat (first | exact K.Sub.nil _ | refine K.Sub.cons rfl ?_)) rfl rfl
        obtain ⟨e1, e2, e3, e4⟩ := fw y hy
        dsimp only
        rw [hn0, e3, List.take_length] at e2
        rw [hn0, e3, List.drop_length] at e4
        exact ⟨e1, e2, by simpa using e4⟩
      · cases okL with
        | false =>
          (repeat' (first | refine X.rq ?_ | (refine X.rc ?_ ?_ <;> intro hc <;> first | (exfalso; omega) | skip)))
          refine K.a_join hI ⟨hb, svL, false, remL, es, l, a, cap⟩ ⟨⟨hle, hbL, hlL, hrow, hn⟩, fun y hy => ?_⟩ (by repeat (first | exact K.Sub.nil _ | refine K.Sub.cons rfl ?_)) rfl rfl
          exact absurd (fw y hy).1 (by decide)
        | true =>
          (repeat' (first | refine X.rq ?_ | (refine X.rc ?_ ?_ <;> intro hc <;> first | (exfalso; omega) | skip)))
          refine K.l_call (Fx.cal rfl) rfl (M_narrow hb p svL true remL hbL gL) (K.pp [1] rfl) rfl ?_
          rintro u h' H' - ⟨e, ta, sv5, ok5, rem5, rfl, hta, hb5, rfl, f5⟩
          obtain rfl := e.symm
          simp only [List.set_cons_zero, List.set_cons_succ, List.eraseIdx_cons_zero, List.eraseIdx_cons_succ, List.cons_append, List.nil_append]
          have g5 : rem5.length ≤ big := Nat.le_trans f5.1 gL
          (repeat' (first | refine X.rq ?_ | (refine X.rc ?_ ?_ <;> intro hc <;> first | (exfalso; omega) | skip)))
          refine K.l_alloc (Fx.zr rfl) rfl rfl (fun B15 => ?_)
          refine X.stw ?_
          simp only [List.set_cons_zero, List.set_cons_succ, List.eraseIdx_cons_zero, List.eraseIdx_cons_succ, List.cons_append, List.nil_append]
          (repeat' (first | refine X.rq ?_ | (refine X.rc ?_ ?_ <;> intro hc <;> first | (exfalso; omega) | skip)))
          refine K.l_call (Fx.cal rfl) rfl (M_Uint hb p sv5 ok5 rem5 hb5 g5) (K.pp [1] rfl) rfl ?_
          rintro u h' H' - ⟨e, la, sv6, ok6, rem6, rfl, hla, hb6, rfl, f6⟩
          obtain rfl := e.symm
          simp only [List.set_cons_zero, List.set_cons_succ, List.eraseIdx_cons_zero, List.eraseIdx_cons_succ, List.cons_append, List.nil_append]
          have g6 : rem6.length ≤ big := Nat.le_trans f6.1 g5
          (repeat' (first | refine X.rq ?_ | (refine X.rc ?_ ?_ <;> intro hc <;> first | (exfalso; omega) | skip)))
          refine X.sto ?_
          simp only [List.set_cons_zero, List.set_cons_succ, List.eraseIdx_cons_zero, List.eraseIdx_cons_succ, List.cons_append, List.nil_append]
          (repeat' (first | refine X.rq ?_ | (refine X.rc ?_ ?_ <;> intro hc <;> first | (exfalso; omega) | skip)))
          refine K.l_call (Fx.cal rfl) rfl (M_Uint hb p sv6 ok6 rem6 hb6 g6) (K.pp [0] rfl) rfl ?_
          rintro u h' H' - ⟨e, un, sv7, ok7, rem7, rfl, hun, hb7, rfl, f7⟩
          obtain rfl := e.symm
          simp only [List.set_cons_zero, List.set_cons_succ, List.eraseIdx_cons_zero, List.eraseIdx_cons_succ, List.cons_append, List.nil_append]
          have g7 : rem7.length ≤ big := Nat.le_trans f7.1 g6
          (repeat' (first | refine X.rq ?_ | (refine X.rc ?_ ?_ <;> intro hc <;> first | (exfalso; omega) | skip)))
          refine X.sto ?_
          simp only [List.set_cons_zero, List.set_cons_succ, List.eraseIdx_cons_zero, List.eraseIdx_cons_succ, List.cons_append, List.nil_append]
          (repeat' (first | refine X.rq ?_ | (refine X.rc ?_ ?_ <;> intro hc <;> first | (exfalso; omega) | skip)))
          refine K.l_call (Fx.cal rfl) rfl (M_U8 hb p sv7 ok7 rem7 hb7 g7) (K.pp [0] rfl) rfl ?_
          rintro u h' H' - ⟨e, lo, sv8, ok8, rem8, rfl, hlo, hb8, rfl, f8⟩
          obtain rfl := e.symm
          simp only [List.set_cons_zero, List.set_cons_succ, List.eraseIdx_cons_zero, List.eraseIdx_cons_succ, List.cons_append, List.nil_append]
          have g8 : rem8.length ≤ big := Nat.le_trans f8.1 g7
          (repeat' (first | refine X.rq ?_ | (refine X.rc ?_ ?_ <;> intro hc <;> first | (exfalso; omega) | skip)))
          refine X.sto ?_
          simp only [List.set_cons_zero, List.set_cons_succ, List.eraseIdx_cons_zero, List.eraseIdx_cons_succ, List.cons_append, List.nil_append]
          have hrow2 := hrow.push (c := [.int .u32 (ta : Nat), .int .u64 (la : Nat), .int .u64 (un : Nat), .bool (decide ((lo : Int) = 1))]) (x := ⟨ta, la, un, decide ((lo : Int) = 1)⟩) ⟨rfl, hta, hla, hun⟩
          (repeat' (first | refine X.rq ?_ | (refine X.rc ?_ ?_ <;> intro hc <;> first | (exfalso; omega) | skip)))
          refine K.l_buildSlice (Fx.und rfl) (Fx.sz rfl) rfl (Fx.zr rfl) rfl rfl rfl (cs := [.int .u32 (ta : Nat), .int .u64 (la : Nat), .int .u64 (un : Nat), .bool (decide ((lo : Int) = 1))]) rfl rfl (fun B10 => ?_)
          refine K.l_append_at 3 rfl (Fx.und rfl) (Fx.und rfl) rfl (Fx.sz rfl) (Fx.zr rfl) rfl (Fx.byt rfl) rfl rfl (K.src_cells (K.cels_own (pre := []) (cs := [.int .u32 (ta : Nat), .int .u64 (la : Nat), .int .u64 (un : Nat), .bool (decide ((lo : Int) = 1))]) (post := []) 0 rfl rfl) rfl (List.all_eq_true.1 (show ones [.int .u32 (ta : Nat), .int .u64 (la : Nat), .int .u64 (un : Nat), .bool (decide ((lo : Int) = 1))] = true from rfl))) (by omega) (by omega) rfl (fun a6 cap6 => ?_)
          simp only [List.set_cons_zero, List.set_cons_succ, List.eraseIdx_cons_zero, List.eraseIdx_cons_succ, List.cons_append, List.nil_append]
          (repeat' (first | refine X.rq ?_ | (refine X.rc ?_ ?_ <;> intro hc <;> first | (exfalso; omega) | skip)))
          refine X.sto ?_
          simp only [List.set_cons_zero, List.set_cons_succ, List.eraseIdx_cons_zero, List.eraseIdx_cons_succ, List.cons_append, List.nil_append]
          (repeat' (first | refine X.rq ?_ | (refine X.rc ?_ ?_ <;> intro hc <;> first | (exfalso; omega) | skip)))
          refine K.AT.sel [0, 1] rfl ?_
          refine K.AT.perm (K.pp [1] rfl) ?_
          simp only [List.set_cons_zero, List.set_cons_succ, List.eraseIdx_cons_zero, List.eraseIdx_cons_succ, List.cons_append, List.nil_append]
          refine K.a_round hKL ⟨hb, sv8, ok8, rem8, es ++ [[.int .u32 (ta : Nat), .int .u64 (la : Nat), .int .u64 (un : Nat), .bool (decide ((lo : Int) = 1))]], l ++ [⟨ta, la, un, decide ((lo : Int) = 1)⟩], a6, cap6⟩ ⟨⟨hle, hb8, Nat.le_trans f8.1 (Nat.le_trans f7.1 (Nat.le_trans f6.1 (Nat.le_trans f5.1 hlL))), hrow2, by dsimp only; rw [List.length_append, List.length_singleton]; omega⟩, fun y hy => ?_⟩ ?_ rfl ?_ (by dsimp only; rw [List.length_append, List.length_singleton]; omega)
          · obtain ⟨e1, e2, e3, e4⟩ := fw y hy
            obtain ⟨hok, hl0, hwx, hky, _⟩ := fB y hy
            dsimp only
            obtain ⟨z, hz1, hz2, hz3⟩ := drop_at (l := y.lives) (j := l.length) (n := N - l.length - 1) (by omega)
            have hzm := List.mem_of_getElem? hz1
            have hzw := hwx.1.live z hzm
            rw [hz2, List.flatMap_cons, liveN] at e4
            simp only [List.append_assoc] at e4
            obtain ⟨d1, d2, d3⟩ := f5.2 z.txn _ hzw.txn rfl e4
            obtain ⟨i1, i2, i3⟩ := f6.2 z.last _ hzw.last d2 d3
            obtain ⟨j1, j2, j3⟩ := f7.2 z.undo _ hzw.undo i2 i3
            obtain ⟨k1, k2, k3⟩ := f8.2 (if z.lost = true then 1 else 0) _ (by show (if _ then _ else _) < 256; split <;> decide) j2 (by rw [j3]; cases z.lost <;> rfl)
            rw [List.length_append, List.length_singleton]
            refine ⟨k2, ?_, e3, k3⟩
            have hlo : decide ((lo : Int) = 1) = z.lost := by rw [k1]; cases z.lost <;> rfl
            rw [hz3, ← e2, d1, i1, j1, hlo]
          · dsimp only
            rw [List.length_append, List.length_singleton]
            exact (by repeat (first | exact K.Sub.nil _ | refine K.Sub.cons rfl ?_))
          · dsimp only
            rw [List.length_append, List.length_singleton, List.flatten_append]
            simp only [List.flatten_cons, List.flatten_nil, List.append_nil]
            try rfl
    · rintro ⟨hb, svL, okL, remL, es, l, a, cap⟩ ⟨⟨hle, hbL, hlL, hrow, hn⟩, fw⟩
      dsimp only at hle hbL hlL hrow hn fw ⊢
      have gL : remL.length ≤ big := Nat.le_trans hlL g2
      have hel := hrow.1
      refine K.AT.freezeRow (hrow.sz (fun c x hc => by rw [hc.1]; rfl)) (fun hb2 hle2 hsl hcap => ?_)
      have hle3 := hle.trans hle2
      have hbL2 := hbL.le hle2
      rw [hel] at hsl ⊢
      obtain ⟨ao9, ca9, e9⟩ := hsl.len
      rw [hel] at e9
      rw [e9] at hsl ⊢
      have hem := hrow.map (f := Rc.cL) fun c x hc => hc.1
      rw [hem] at hsl
      have hwl : ∀ x ∈ l, wfL x := hrow.all fun c x hc => hc.2
      (repeat' (first | refine X.rq ?_ | (refine X.rc ?_ ?_ <;> intro hc <;> first | (exfalso; omega) | skip)))
      refine K.l_call (Fx.cal rfl) rfl (M_many hb2 p svL okL remL hbL2 gL) (K.pp [0] rfl) rfl ?_
      rintro u h' H' - ⟨e, N12, sv12, ok12, rem12, rfl, hb12, rfl, f12⟩
      obtain rfl := e.symm
      simp only [List.set_cons_zero, List.set_cons_succ, List.eraseIdx_cons_zero, List.eraseIdx_cons_succ, List.cons_append, List.nil_append]
      have g12 : rem12.length ≤ big := Nat.le_trans f12.1.1 gL
      have hN12 : N12 ≤ 16390 := Nat.le_trans f12.1.2 (Nat.le_trans f12.1.1 (Nat.le_trans hlL hl2))
      have hl12 : rem12.length ≤ 16390 := Nat.le_trans f12.1.1 (Nat.le_trans hlL hl2)
      have fw12 : ∀ y, RdPr k ok rem y → ok12 = true ∧ N12 = y.dirty.length ∧ rem12 = y.dirty.flatMap dirtN ++ cu y.next := fun y hy => by
        obtain ⟨hok, hl0, hwx, hky, o1, o2⟩ := fB y hy
        obtain ⟨e1, e2, e3⟩ := fw y hy
        have hlen := flat_pos dirtN y.dirty fun x hx => by
          have h1 := cu_pos (x := x.page) (by have := (hwx.1.dirt x hx).page; omega)
          unfold dirtN
          rw [List.length_append]; omega
        have hf : fieldsN y = cu y.lives.length ++ y.lives.flatMap liveN ++ cu y.dirty.length ++ y.dirty.flatMap dirtN ++ cu y.next := by unfold fieldsN; rw [if_neg (by omega), if_neg (by omega), if_neg (by omega), if_neg (by omega), if_pos (by omega)]
        have hbl2 : (y.dirty.flatMap dirtN).length ≤ 16390 := by
          have := congrArg List.length o2
          rw [hf] at this
          simp only [List.length_append] at this
          omega
        obtain ⟨d1, d2, d3⟩ := f12.2 y.dirty.length _ (by omega) (by rw [List.length_append]; omega) e1 e3
        exact ⟨d2, d1, d3⟩
      (repeat' (first | refine X.rk ?_ | (refine X.rd ?_ ?_ <;> intro hc <;> first | (exfalso; omega) | skip)))
      refine X.w ?_
      (repeat' (first | refine X.rk ?_ | (refine X.rd ?_ ?_ <;> intro hc <;> first | (exfalso; omega) | skip)))
      refine K.WC.nilBuf 74 2 ?_
      refine K.c_join (β := LoD PDirty) (fun q => [(1, rp p), (4, rp B4), (5, rp B5)]) (fun q => q.b) (fun q => bufA 74 2 q.a q.es.length q.cap q.es.flatten :: qA p q.sv (!q.ok) :: blk B5 31 (cR ⟨(k : Nat), 0, 0, 0, 0, 0, 0, zO, [], [], [], 0⟩ (.slice none 0 0) (.slice none 0 0) (.slice ao9 l.length ca9) (bufV q.a q.es.length q.cap)) :: blk B4 31 (cR zR (.slice none 0 0) (.slice none 0 0) (.slice none 0 0) (.slice none 0 0)) :: F)
        (fun q => (hb2.le q.b ∧ BV q.b q.sv q.rem ∧ q.rem.length ≤ rem12.length ∧ RowsG (fun c x => c = Rc.cD x ∧ wfD x) q.es q.l ∧ q.l.length ≤ N12) ∧ ∀ y, RdPr k ok rem y → q.ok = true ∧ q.l = y.dirty ∧ q.rem = cu y.next) (fun KI hI => ?_) ?_
      · (repeat' (first | refine X.rq ?_ | (refine X.rc ?_ ?_ <;> intro hc <;> first | (exfalso; omega) | skip)))
        refine K.c_loop (σ := LoD PDirty) (fun q => [(1, rp p), (4, rp B4), (5, rp B5), (13, .int .i64 N12), (16, .int .i64 q.l.length)]) (fun q => q.b) (fun q => bufA 74 2 q.a q.es.length q.cap q.es.flatten :: qA p q.sv (!q.ok) :: blk B5 31 (cR ⟨(k : Nat), 0, 0, 0, 0, 0, 0, zO, [], [], [], 0⟩ (.slice none 0 0) (.slice none 0 0) (.slice ao9 l.length ca9) (bufV q.a q.es.length q.cap)) :: blk B4 31 (cR zR (.slice none 0 0) (.slice none 0 0) (.slice none 0 0) (.slice none 0 0)) :: F)
          (fun q => (hb2.le q.b ∧ BV q.b q.sv q.rem ∧ q.rem.length ≤ rem12.length ∧ RowsG (fun c x => c = Rc.cD x ∧ wfD x) q.es q.l ∧ q.l.length ≤ N12) ∧ ∀ y, RdPr k ok rem y → q.ok = true ∧ q.l = (y.dirty).take q.l.length ∧ N12 = (y.dirty).length ∧ q.rem = ((y.dirty).drop q.l.length).flatMap dirtN ++ cu y.next) (fun q => N12 - q.l.length)
          ⟨hb2, sv12, ok12, rem12, [], [], none, 0⟩ ⟨⟨K.Base.le.refl _, hb12, Nat.le_refl _, RowsG.nil, Nat.zero_le _⟩, fun y hy => by
            obtain ⟨e4, e5, e6⟩ := fw12 y hy
            exact ⟨e4, by simp, e5, by simpa using e6⟩⟩ (by repeat (first | exact K.Sub.nil _ | refine K.Sub.cons rfl ?_)) rfl rfl ?_
        rintro ⟨hb', svL', okL', remL', es', l', a', cap'⟩ ⟨⟨hle', hbL', hlL', hrow', hn'⟩, fw'⟩ KL hKL
        dsimp only at hle' hbL' hlL' hrow' hn' fw' ⊢
        have gL' : remL'.length ≤ big := Nat.le_trans hlL' g12
        have hel' := hrow'.1
        by_cases hn0' : l'.length = N12
        · (repeat' (first | refine X.rq ?_ | (refine X.rc ?_ ?_ <;> intro hc <;> first | (exfalso; omega) | skip)))
          refine K.a_join hI ⟨hb', svL', okL', remL', es', l', a', cap'⟩ ⟨⟨hle', hbL', hlL', hrow', hn'⟩, fun y hy => ?_⟩ (by repeat (first | exact K.Sub.nil _ | refine K.Sub.cons rfl ?_)) rfl rfl
          obtain ⟨e1, e2, e3, e4⟩ := fw' y hy
          dsimp only
          rw [hn0', e3, List.take_length] at e2
          rw [hn0', e3, List.drop_length] at e4
          exact ⟨e1, e2, by simpa using e4⟩
        · cases okL' with
          | false =>
            (repeat' (first | refine X.rq ?_ | (refine X.rc ?_ ?_ <;> intro hc <;> first | (exfalso; omega) | skip)))
            refine K.a_join hI ⟨hb', svL', false, remL', es', l', a', cap'⟩ ⟨⟨hle', hbL', hlL', hrow', hn'⟩, fun y hy => ?_⟩ (by repeat (first | exact K.Sub.nil _ | refine K.Sub.cons rfl ?_)) rfl rfl
            exact absurd (fw' y hy).1 (by decide)
          | true =>
            (repeat' (first | refine X.rq ?_ | (refine X.rc ?_ ?_ <;> intro hc <;> first | (exfalso; omega) | skip)))
            refine K.l_call (Fx.cal rfl) rfl (M_narrow hb' p svL' true remL' hbL' gL') (K.pp [1] rfl) rfl ?_
            rintro u h' H' - ⟨e, pa, sv5, ok5, rem5, rfl, hpa, hb5, rfl, f5⟩
            obtain rfl := e.symm
            simp only [List.set_cons_zero, List.set_cons_succ, List.eraseIdx_cons_zero, List.eraseIdx_cons_succ, List.cons_append, List.nil_append]
            have g5 : rem5.length ≤ big := Nat.le_trans f5.1 gL'
            (repeat' (first | refine X.rq ?_ | (refine X.rc ?_ ?_ <;> intro hc <;> first | (exfalso; omega) | skip)))
            refine K.l_alloc (Fx.zr rfl) rfl rfl (fun B17 => ?_)
            refine X.stw ?_
            simp only [List.set_cons_zero, List.set_cons_succ, List.eraseIdx_cons_zero, List.eraseIdx_cons_succ, List.cons_append, List.nil_append]
            (repeat' (first | refine X.rq ?_ | (refine X.rc ?_ ?_ <;> intro hc <;> first | (exfalso; omega) | skip)))
            refine K.l_call (Fx.cal rfl) rfl (M_Uint hb' p sv5 ok5 rem5 hb5 g5) (K.pp [1] rfl) rfl ?_
            rintro u h' H' - ⟨e, fr, sv6, ok6, rem6, rfl, hfr, hb6, rfl, f6⟩
            obtain rfl := e.symm
            simp only [List.set_cons_zero, List.set_cons_succ, List.eraseIdx_cons_zero, List.eraseIdx_cons_succ, List.cons_append, List.nil_append]
            have g6 : rem6.length ≤ big := Nat.le_trans f6.1 g5
            (repeat' (first | refine X.rq ?_ | (refine X.rc ?_ ?_ <;> intro hc <;> first | (exfalso; omega) | skip)))
            refine X.sto ?_
            simp only [List.set_cons_zero, List.set_cons_succ, List.eraseIdx_cons_zero, List.eraseIdx_cons_succ, List.cons_append, List.nil_append]
            have hrow2 := hrow'.push (c := [.int .u32 (pa : Nat), .int .u64 (fr : Nat)]) (x := ⟨pa, fr⟩) ⟨rfl, hpa, hfr⟩
            (repeat' (first | refine X.rq ?_ | (refine X.rc ?_ ?_ <;> intro hc <;> first | (exfalso; omega) | skip)))
            refine K.l_buildSlice (Fx.und rfl) (Fx.sz rfl) rfl (Fx.zr rfl) rfl rfl rfl (cs := [.int .u32 (pa : Nat), .int .u64 (fr : Nat)]) rfl rfl (fun B10 => ?_)
            refine K.l_append_at 3 rfl (Fx.und rfl) (Fx.und rfl) rfl (Fx.sz rfl) (Fx.zr rfl) rfl (Fx.byt rfl) rfl rfl (K.src_cells (K.cels_own (pre := []) (cs := [.int .u32 (pa : Nat), .int .u64 (fr : Nat)]) (post := []) 0 rfl rfl) rfl (List.all_eq_true.1 (show ones [.int .u32 (pa : Nat), .int .u64 (fr : Nat)] = true from rfl))) (by omega) (by omega) rfl (fun a6 cap6 => ?_)
            simp only [List.set_cons_zero, List.set_cons_succ, List.eraseIdx_cons_zero, List.eraseIdx_cons_succ, List.cons_append, List.nil_append]
            (repeat' (first | refine X.rq ?_ | (refine X.rc ?_ ?_ <;> intro hc <;> first | (exfalso; omega) | skip)))
            refine X.sto ?_
            simp only [List.set_cons_zero, List.set_cons_succ, List.eraseIdx_cons_zero, List.eraseIdx_cons_succ, List.cons_append, List.nil_append]
            (repeat' (first | refine X.rq ?_ | (refine X.rc ?_ ?_ <;> intro hc <;> first | (exfalso; omega) | skip)))
            refine K.AT.sel [0, 1] rfl ?_
            refine K.AT.perm (K.pp [1] rfl) ?_
            simp only [List.set_cons_zero, List.set_cons_succ, List.eraseIdx_cons_zero, List.eraseIdx_cons_succ, List.cons_append, List.nil_append]
            refine K.a_round hKL ⟨hb', sv6, ok6, rem6, es' ++ [[.int .u32 (pa : Nat), .int .u64 (fr : Nat)]], l' ++ [⟨pa, fr⟩], a6, cap6⟩ ⟨⟨hle', hb6, Nat.le_trans f6.1 (Nat.le_trans f5.1 hlL'), hrow2, by dsimp only; rw [List.length_append, List.length_singleton]; omega⟩, fun y hy => ?_⟩ ?_ rfl ?_ (by dsimp only; rw [List.length_append, List.length_singleton]; omega)
            · obtain ⟨e1, e2, e3, e4⟩ := fw' y hy
              obtain ⟨hok, hl0, hwx, hky, _⟩ := fB y hy
              dsimp only
              obtain ⟨z, hz1, hz2, hz3⟩ := drop_at (l := y.dirty) (j := l'.length) (n := N12 - l'.length - 1) (by omega)
              have hzm := List.mem_of_getElem? hz1
              have hzw := hwx.1.dirt z hzm
              rw [hz2, List.flatMap_cons, dirtN] at e4
              simp only [List.append_assoc] at e4
              obtain ⟨d1, d2, d3⟩ := f5.2 z.page _ hzw.page rfl e4
              obtain ⟨i1, i2, i3⟩ := f6.2 z.frm _ hzw.frm d2 d3
              rw [List.length_append, List.length_singleton]
              refine ⟨i2, ?_, e3, i3⟩
              rw [hz3, ← e2, d1, i1]
            · dsimp only
              rw [List.length_append, List.length_singleton]
              exact (by repeat (first | exact K.Sub.nil _ | refine K.Sub.cons rfl ?_))
            · dsimp only
              rw [List.length_append, List.length_singleton, List.flatten_append]
              simp only [List.flatten_cons, List.flatten_nil, List.append_nil]
              try rfl
      · rintro ⟨hb', svL', okL', remL', es', l', a', cap'⟩ ⟨⟨hle', hbL', hlL', hrow', hn'⟩, fw'⟩
        dsimp only at hle' hbL' hlL' hrow' hn' fw' ⊢
        have gL' : remL'.length ≤ big := Nat.le_trans hlL' g12
        have hel' := hrow'.1
        refine K.AT.freezeRow (hrow'.sz (fun c x hc => by rw [hc.1]; rfl)) (fun hb2' hle2' hsl' hcap' => ?_)
        have hle3' := hle'.trans hle2'
        have hbL2' := hbL'.le hle2'
        rw [hel'] at hsl' ⊢
        obtain ⟨ao9', ca9', e9'⟩ := hsl'.len
        rw [hel'] at e9'
        rw [e9'] at hsl' ⊢
        have hem' := hrow'.map (f := Rc.cD) fun c x hc => hc.1
        rw [hem'] at hsl'
        have hwd : ∀ x ∈ l', wfD x := hrow'.all fun c x hc => hc.2
        (repeat' (first | refine X.rq ?_ | (refine X.rc ?_ ?_ <;> intro hc <;> first | (exfalso; omega) | skip)))
        refine K.l_call (Fx.cal rfl) rfl (M_narrow hb2' p svL' okL' remL' hbL2' gL') (K.pp [0] rfl) rfl ?_
        rintro u h' H' - ⟨e, nx, sv15, ok15, rem15, rfl, hnx, hb15, rfl, f15⟩
        obtain rfl := e.symm
        simp only [List.set_cons_zero, List.set_cons_succ, List.eraseIdx_cons_zero, List.eraseIdx_cons_succ, List.cons_append, List.nil_append]
        (repeat' (first | refine X.rq ?_ | (refine X.rc ?_ ?_ <;> intro hc <;> first | (exfalso; omega) | skip)))
        refine X.sto ?_
        simp only [List.set_cons_zero, List.set_cons_succ, List.eraseIdx_cons_zero, List.eraseIdx_cons_succ, List.cons_append, List.nil_append]
        (repeat' (first | refine X.rq ?_ | (refine X.rc ?_ ?_ <;> intro hc <;> first | (exfalso; omega) | skip)))
        have gl : rem15.length ≤ rem.length := Nat.le_trans f15.1 (Nat.le_trans hlL' (Nat.le_trans f12.1.1 (Nat.le_trans hlL f2.1.1)))
        (repeat' (first | refine X.rq ?_ | (refine X.rc ?_ ?_ <;> intro hc <;> first | (exfalso; omega) | skip)))
        refine X.stw ?_
        simp only [List.set_cons_zero, List.set_cons_succ, List.eraseIdx_cons_zero, List.eraseIdx_cons_succ, List.cons_append, List.nil_append]
        (repeat' (first | refine X.rq ?_ | (refine X.rc ?_ ?_ <;> intro hc <;> first | (exfalso; omega) | skip)))
        refine K.AT.perm (K.pp [2, 1] rfl) ?_
        simp only [List.set_cons_zero, List.set_cons_succ, List.eraseIdx_cons_zero, List.eraseIdx_cons_succ, List.cons_append, List.nil_append]
        refine K.doneD (vs := [.agg (cR ⟨(k : Nat), 0, 0, 0, 0, 0, 0, zO, [], l, l', nx⟩ (.slice none (⟨(k : Nat), 0, 0, 0, 0, 0, 0, zO, [], l, l', nx⟩ : Recd).op.data.length 0) (.slice none (⟨(k : Nat), 0, 0, 0, 0, 0, 0, zO, [], l, l', nx⟩ : Recd).images.length 0) (.slice ao9 (⟨(k : Nat), 0, 0, 0, 0, 0, 0, zO, [], l, l', nx⟩ : Recd).lives.length ca9) (.slice ao9' (⟨(k : Nat), 0, 0, 0, 0, 0, 0, zO, [], l, l', nx⟩ : Recd).dirty.length ca9')).toArray]) (by first | exact Or.inl rfl | exact Or.inr rfl) (.cell rfl (Fx.agg rfl) (Fx.sz rfl) (K.cels_own (pre := []) (post := []) 0 rfl rfl) .nil) (hle3.trans hle3') (D := [_, _]) (H' := [qA p sv15 (!ok15)]) rfl ⟨_, ⟨(k : Nat), 0, 0, 0, 0, 0, 0, zO, [], l, l', nx⟩, sv15, ok15, rem15, rfl, recC_of (wfR_mk (by omega) (by omega) (by omega) (by omega) (by omega) (by omega) wf_zO (by omega) (Nat.zero_le _) (by omega) (by omega) hwl hwd) BV.nil ImgsV.nil (hsl.le hle3') hsl', ⟨Nat.zero_le _, show l.length ≤ 17000 by omega, show l'.length ≤ 17000 by omega, Nat.zero_le _⟩, rfl, hb15, gl, rfl, fun y hy => ?_⟩
        obtain ⟨hok, hl0, hwx, hky, o1, e1⟩ := fB y hy
        obtain ⟨e1, e2, e3⟩ := fw' y hy
        obtain ⟨_, u2, _⟩ := fw y hy
        obtain ⟨d1, d2, d3⟩ := f15.2 y.next [] hwx.1.next e1 (by rw [e3, List.append_nil])
        refine ⟨?_, d2, d3⟩
        rw [eq_8 hok.2.1 (by omega), hl0, hk0]
        try dsimp only
        rw [e2, u2, d1]
        rfl
  · (repeat' (first | refine X.rq ?_ | (refine X.rc ?_ ?_ <;> intro hc <;> first | (exfalso; omega) | skip)))
    refine K.l_call (Fx.cal rfl) rfl (M_narrow h p sv ok rem hb g1) (K.pp [2] rfl) rfl ?_
    rintro u h' H' - ⟨e, tx, sv2, ok2, rem2, rfl, htx, hb2, rfl, f2⟩
    obtain rfl := e.symm
    simp only [List.set_cons_zero, List.set_cons_succ, List.eraseIdx_cons_zero, List.eraseIdx_cons_succ, List.cons_append, List.nil_append]
    have g2 : rem2.length ≤ big := Nat.le_trans f2.1 g1
    (repeat' (first | refine X.rq ?_ | (refine X.rc ?_ ?_ <;> intro hc <;> first | (exfalso; omega) | skip)))
    refine X.sto ?_
    simp only [List.set_cons_zero, List.set_cons_succ, List.eraseIdx_cons_zero, List.eraseIdx_cons_succ, List.cons_append, List.nil_append]
    (repeat' (first | refine X.rq ?_ | (refine X.rc ?_ ?_ <;> intro hc <;> first | (exfalso; omega) | skip)))
    refine K.l_call (Fx.cal rfl) rfl (M_Uint h p sv2 ok2 rem2 hb2 g2) (K.pp [0] rfl) rfl ?_
    rintro u h' H' - ⟨e, pv, sv3, ok3, rem3, rfl, hpv, hb3, rfl, f3⟩
    obtain rfl := e.symm
    simp only [List.set_cons_zero, List.set_cons_succ, List.eraseIdx_cons_zero, List.eraseIdx_cons_succ, List.cons_append, List.nil_append]
    have g3 : rem3.length ≤ big := Nat.le_trans f3.1 g2
    (repeat' (first | refine X.rq ?_ | (refine X.rc ?_ ?_ <;> intro hc <;> first | (exfalso; omega) | skip)))
    refine X.sto ?_
    simp only [List.set_cons_zero, List.set_cons_succ, List.eraseIdx_cons_zero, List.eraseIdx_cons_succ, List.cons_append, List.nil_append]
    have gl : rem3.length ≤ rem.length := by
      have := f2.1
      have := f3.1
      omega
    (repeat' (first | refine X.rq ?_ | (refine X.rc ?_ ?_ <;> intro hc <;> first | (exfalso; omega) | skip)))
    refine X.stw ?_
    simp only [List.set_cons_zero, List.set_cons_succ, List.eraseIdx_cons_zero, List.eraseIdx_cons_succ, List.cons_append, List.nil_append]
    (repeat' (first | refine X.rq ?_ | (refine X.rc ?_ ?_ <;> intro hc <;> first | (exfalso; omega) | skip)))
    refine K.AT.perm (K.pp [2, 1] rfl) ?_
    simp only [List.set_cons_zero, List.set_cons_succ, List.eraseIdx_cons_zero, List.eraseIdx_cons_succ, List.cons_append, List.nil_append]
    refine K.doneD (vs := [.agg (cR ⟨(k : Nat), 0, tx, pv, 0, 0, 0, zO, [], [], [], 0⟩ (.slice none (⟨(k : Nat), 0, tx, pv, 0, 0, 0, zO, [], [], [], 0⟩ : Recd).op.data.length 0) (.slice none (⟨(k : Nat), 0, tx, pv, 0, 0, 0, zO, [], [], [], 0⟩ : Recd).images.length 0) (.slice none (⟨(k : Nat), 0, tx, pv, 0, 0, 0, zO, [], [], [], 0⟩ : Recd).lives.length 0) (.slice none (⟨(k : Nat), 0, tx, pv, 0, 0, 0, zO, [], [], [], 0⟩ : Recd).dirty.length 0)).toArray]) (by first | exact Or.inl rfl | exact Or.inr rfl) (.cell rfl (Fx.agg rfl) (Fx.sz rfl) (K.cels_own (pre := []) (post := []) 0 rfl rfl) .nil) (K.Base.le.refl _) (D := [_, _]) (H' := [qA p sv3 (!ok3)]) rfl ⟨_, ⟨(k : Nat), 0, tx, pv, 0, 0, 0, zO, [], [], [], 0⟩, sv3, ok3, rem3, rfl, recC_of (wfR_mk (by omega) (by omega) (by omega) (by omega) (by omega) (by omega) wf_zO (by omega) (Nat.zero_le _) (Nat.zero_le _) (Nat.zero_le _) (fun x hx => by cases hx) (fun x hx => by cases hx)) BV.nil ImgsV.nil SL.nil SL.nil, ⟨Nat.zero_le _, Nat.zero_le _, Nat.zero_le _, Nat.zero_le _⟩, rfl, hb3, gl, rfl, fun y hy => ?_⟩
    obtain ⟨hok, hl0, hwx, hky, o1, e1⟩ := fB y hy
    have hk567 : y.kind = 5 ∨ y.kind = 6 ∨ y.kind = 7 := by have := hok.1; omega
    have hf : fieldsN y = cu y.txn ++ cu y.prev := by unfold fieldsN; rw [if_neg (by omega), if_pos (by omega)]
    rw [hf] at e1
    obtain ⟨d1, d2, d3⟩ := f2.2 y.txn _ hwx.1.txn o1 e1
    obtain ⟨b1, b2, b3⟩ := f3.2 y.prev [] hwx.1.prev d2 (by rw [d3, List.append_nil])
    refine ⟨?_, b2, b3⟩
    rw [eq_5 hok.2.1 hk567, hl0, d1, b1, hky]
end Go.Proofs.Ytihambjhlhgaeaa.Rc
