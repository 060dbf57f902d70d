/-
  Acts; are there more than are gone through; nobody's table. Conditions: each theorem's own.
-/
import Derived.Test.YtcpdfajaggbjlaaDoorTx

namespace Go.Proofs.YtcpdfajaggbjlaaDoor.Lk
open Go Go.K Go.Proofs Go.Proofs.YtcpdfajaggbjlaaDoor
set_option linter.unusedVariables false
set_option linter.unusedSimpArgs false
set_option maxRecDepth 10000

/-- A call of a transaction. -/
structure PAct where
  op : Int
  txn : Nat
  thing : PThing
  mode : Int
def cA (x : PAct) : List Value := [.int .i64 x.op, .int .u32 x.txn, .bool x.thing.rng, .int .u32 x.thing.id, .string x.thing.frm, .string x.thing.to, .int .i64 x.mode]
structure wfA (x : PAct) : Prop where
  op : -9223372036854775808 ≤ x.op ∧ x.op ≤ 9223372036854775807
  txn : x.txn < 4294967296
  thing : wfT x.thing
  mode : -9223372036854775808 ≤ x.mode ∧ x.mode ≤ 9223372036854775807
theorem sevA (l : List PAct) : ∀ e ∈ l.map cA, e.length = 7 := fun e he => by
  obtain ⟨x, _, rfl⟩ := List.mem_map.1 he
  rfl
theorem act_thing {h : Base} {K : List Asrt} {b o : Nat} {x : PAct} (hc : Cels h K b o (cA x)) : Cels h K b (o + 2) (cT x.thing) := ⟨hc.2.2.1, hc.2.2.2.1, hc.2.2.2.2.1, hc.2.2.2.2.2.1, trivial⟩
set_option maxHeartbeats 2000000 in
theorem Long (h : Base) (v : Value) (l : List PAct) (hv : SL h 7 v (l.map cA)) (hw : ∀ x ∈ l, wfA x) (hl : l.length ≤ 9223372036854775807) :
    Tr Tryd.prog 8 [v] h [] (fun u h' H' => h' = h ∧ ∃ b, u = .bool b ∧ (b = false → l.length ≤ 120) ∧ H' = []) := by
  have hlen : (l.map cA).length = l.length := List.length_map ..
  obtain ⟨ao, ca, rfl⟩ := hv.len
  rw [hlen] at hv ⊢
  refine K.enter Tryd.func8 rfl (Nat.le_of_ble_eq_true rfl) (fun F => ?_)
  simp only [List.nil_append, List.cons_append]
  (repeat' (first | refine X.rq ?_ | (refine X.rc ?_ ?_ <;> intro hc <;> first | (exfalso; omega) | skip)))
  refine K.c_loop (σ := Nat) (fun j => [(0, .slice ao l.length ca), (3, .int .i64 j)]) (fun _ => h) (fun _ => F) (fun j => j ≤ l.length) (fun j => l.length - j) 0 (Nat.zero_le _) (by repeat (first | exact K.Sub.nil _ | refine K.Sub.cons rfl ?_)) rfl rfl ?_
  intro j hj KL hKL
  by_cases hjl : j < l.length
  · have hx1 : l[j]? = some l[j] := List.getElem?_eq_getElem hjl
    have hmem : l[j] ∈ l := List.getElem_mem hjl
    generalize l[j] = x at hx1 hmem
    have hc0 : (l.map cA)[j]? = some (cA x) := by rw [List.getElem?_map, hx1]; rfl
    obtain ⟨bb, oo, rfl, hcx⟩ := hv.at hc0
    have hwx := (hw x hmem).thing
    have hf := hwx.frm
    have ht := hwx.to
    by_cases hj2 : j ≤ 120
    · (repeat' (first | refine X.rq ?_ | (refine X.rc ?_ ?_ <;> intro hc <;> first | (exfalso; omega) | skip)))
      refine K.s_pure (K.p_load (v := .string x.thing.frm) (Fx.agg rfl) rfl (Cels.up hcx).2.2.2.2.1) rfl ?_
      by_cases h1 : 1000 < x.thing.frm.size
      · (repeat' (first | refine X.rq ?_ | (refine X.rc ?_ ?_ <;> intro hc <;> first | (exfalso; omega) | skip)))
        all_goals first | (exfalso; simp_all; done) | skip
        refine K.done (by first | exact Or.inl rfl | exact Or.inr rfl) rfl (by first | exact K.Base.le.refl _ | assumption) (H' := []) rfl ⟨rfl, true, rfl, (fun e => by cases e), rfl⟩
      · (repeat' (first | refine X.rq ?_ | (refine X.rc ?_ ?_ <;> intro hc <;> first | (exfalso; omega) | skip)))
        all_goals first | (exfalso; simp_all; done) | skip
        refine K.s_pure (K.p_load (v := .string x.thing.to) (Fx.agg rfl) rfl (Cels.up hcx).2.2.2.2.2.1) rfl ?_
        by_cases h2 : 1000 < x.thing.to.size
        · (repeat' (first | refine X.rq ?_ | (refine X.rc ?_ ?_ <;> intro hc <;> first | (exfalso; omega) | skip)))
          all_goals first | (exfalso; simp_all; done) | skip
          refine K.done (by first | exact Or.inl rfl | exact Or.inr rfl) rfl (by first | exact K.Base.le.refl _ | assumption) (H' := []) rfl ⟨rfl, true, rfl, (fun e => by cases e), rfl⟩
        · (repeat' (first | refine X.rq ?_ | (refine X.rc ?_ ?_ <;> intro hc <;> first | (exfalso; omega) | skip)))
          all_goals first | (exfalso; simp_all; done) | skip
          refine K.a_round hKL (j + 1) (by omega) (by repeat (first | exact K.Sub.nil _ | refine K.Sub.cons rfl ?_)) rfl rfl (by omega)
    · (repeat' (first | refine X.rq ?_ | (refine X.rc ?_ ?_ <;> intro hc <;> first | (exfalso; omega) | skip)))
      all_goals first | (exfalso; simp_all; done) | skip
      refine K.done (by first | exact Or.inl rfl | exact Or.inr rfl) rfl (by first | exact K.Base.le.refl _ | assumption) (H' := []) rfl ⟨rfl, decide (120 < (l.length : Int)), rfl, fun e => by have := of_decide_eq_false e; omega, rfl⟩
  · obtain rfl : j = l.length := by omega
    (repeat' (first | refine X.rq ?_ | (refine X.rc ?_ ?_ <;> intro hc <;> first | (exfalso; omega) | skip)))
    refine K.done (by first | exact Or.inl rfl | exact Or.inr rfl) rfl (by first | exact K.Base.le.refl _ | assumption) (H' := []) rfl ⟨rfl, decide (120 < (l.length : Int)), rfl, fun e => by have := of_decide_eq_false e; omega, rfl⟩
set_option maxHeartbeats 4000000 in
theorem LockNobodyW (h : Base) (v : Value) (l : List PAct) (hv : SL h 7 v (l.map cA)) (hw : ∀ x ∈ l, wfA x) (hl : l.length ≤ 9223372036854775807) (hG : Glob h) :
    Tr Tryd.prog 7 [v] h [] (fun u h' H' => u = .bool true ∧ H' = []) := by
  have hlen : (l.map cA).length = l.length := List.length_map ..
  have hlo := Long h v l hv hw hl
  obtain ⟨ao, ca, rfl⟩ := hv.len
  rw [hlen] at hv hlo ⊢
  refine K.enter Tryd.func7 rfl (Nat.le_of_ble_eq_true rfl) (fun F => ?_)
  simp only [List.nil_append, List.cons_append]
  (repeat' (first | refine X.rq ?_ | (refine X.rc ?_ ?_ <;> intro hc <;> first | (exfalso; omega) | skip)))
  refine K.l_call (Fx.cal rfl) rfl hlo (K.pp [] rfl) rfl ?_
  rintro u h' H' - ⟨e, b, rfl, hb, rfl⟩
  obtain rfl := e.symm
  simp only [List.nil_append, List.cons_append]
  cases b with
  | true =>
    (repeat' (first | refine X.rq ?_ | (refine X.rc ?_ ?_ <;> intro hc <;> first | (exfalso; omega) | skip)))
    refine K.l_call (Fx.cal rfl) rfl (Alive h hG) (K.pp [] rfl) rfl ?_
    rintro u h' H' hle ⟨rfl, rfl⟩
    simp only [List.nil_append, List.cons_append]
    (repeat' (first | refine X.rq ?_ | (refine X.rc ?_ ?_ <;> intro hc <;> first | (exfalso; omega) | skip)))
    refine K.done (by first | exact Or.inl rfl | exact Or.inr rfl) rfl (by first | exact K.Base.le.refl _ | assumption) (H' := []) rfl ⟨rfl, rfl⟩
  | false =>
    have hb := hb rfl
    (repeat' (first | refine X.rq ?_ | (refine X.rc ?_ ?_ <;> intro hc <;> first | (exfalso; omega) | skip)))
    refine K.c_loop (σ := Nat) (fun j => [(0, .slice ao l.length ca), (3, .pointer none), (4, .int .i64 j)]) (fun _ => h) (fun _ => F) (fun j => j ≤ l.length) (fun j => l.length - j) 0 (Nat.zero_le _) (by repeat (first | exact K.Sub.nil _ | refine K.Sub.cons rfl ?_)) rfl rfl ?_
    intro j hj KL hKL
    by_cases hjl : j < l.length
    · have hx1 : l[j]? = some l[j] := List.getElem?_eq_getElem hjl
      have hmem : l[j] ∈ l := List.getElem_mem hjl
      generalize l[j] = x at hx1 hmem
      have hc0 : (l.map cA)[j]? = some (cA x) := by rw [List.getElem?_map, hx1]; rfl
      obtain ⟨bb, oo, rfl, hcx⟩ := hv.at hc0
      (repeat' (first | refine X.rq ?_ | (refine X.rc ?_ ?_ <;> intro hc <;> first | (exfalso; omega) | skip)))
      refine K.s_pure (K.p_loadM (Fx.agg rfl) rfl (Cels.up hcx) (Fx.sz rfl) rfl) rfl ?_
      refine K.l_alloc (Fx.zr rfl) rfl rfl (fun B5 => ?_)
      (repeat' (first | refine X.rq ?_ | (refine X.rc ?_ ?_ <;> intro hc <;> first | (exfalso; omega) | skip)))
      refine X.stw ?_
      simp only [List.set_cons_zero, List.set_cons_succ, List.eraseIdx_cons_zero, List.eraseIdx_cons_succ, List.cons_append, List.nil_append]
      (repeat' (first | refine X.rq ?_ | (refine X.rc ?_ ?_ <;> intro hc <;> first | (exfalso; omega) | skip)))
      refine K.s_pure (K.p_loadN (vs := cT x.thing) (Fx.agg rfl) (Fx.sz rfl) rfl (K.cels_own (pre := [.int .i64 x.op, .int .u32 x.txn]) (post := [.int .i64 x.mode]) 0 rfl rfl)) rfl ?_
      (repeat' (first | refine X.rq ?_ | (refine X.rc ?_ ?_ <;> intro hc <;> first | (exfalso; omega) | skip)))
      refine K.l_callV (Fx.cal rfl) rfl (AskNil h x.txn x.thing x.mode) (K.pp [] rfl) rfl rfl ?_
      simp only [List.nil_append, List.cons_append]
      (repeat' (first | refine X.rq ?_ | (refine X.rc ?_ ?_ <;> intro hc <;> first | (exfalso; omega) | skip)))
      refine K.l_callV (Fx.cal rfl) rfl (ReleaseNil h x.txn) (K.pp [] rfl) rfl rfl ?_
      simp only [List.nil_append, List.cons_append]
      (repeat' (first | refine X.rq ?_ | (refine X.rc ?_ ?_ <;> intro hc <;> first | (exfalso; omega) | skip)))
      refine K.s_pure (K.p_loadN (vs := cT x.thing) (Fx.agg rfl) (Fx.sz rfl) rfl (K.cels_own (pre := [.int .i64 x.op, .int .u32 x.txn]) (post := [.int .i64 x.mode]) 0 rfl rfl)) rfl ?_
      (repeat' (first | refine X.rq ?_ | (refine X.rc ?_ ?_ <;> intro hc <;> first | (exfalso; omega) | skip)))
      refine K.l_callV (Fx.cal rfl) rfl (HasNil h x.txn x.thing x.mode) (K.pp [] rfl) rfl rfl ?_
      simp only [List.nil_append, List.cons_append]
      (repeat' (first | refine X.rq ?_ | (refine X.rc ?_ ?_ <;> intro hc <;> first | (exfalso; omega) | skip)))
      refine K.AT.sel [0] rfl ?_
      refine K.a_round hKL (j + 1) (by omega) (by repeat (first | exact K.Sub.nil _ | refine K.Sub.cons rfl ?_)) rfl rfl (by omega)
    · obtain rfl : j = l.length := by omega
      (repeat' (first | refine X.rq ?_ | (refine X.rc ?_ ?_ <;> intro hc <;> first | (exfalso; omega) | skip)))
      refine K.l_callV (Fx.cal rfl) rfl (AllNil h) (K.pp [] rfl) rfl rfl ?_
      simp only [List.nil_append, List.cons_append]
      (repeat' (first | refine X.rq ?_ | (refine X.rc ?_ ?_ <;> intro hc <;> first | (exfalso; omega) | skip)))
      refine K.l_callV (Fx.cal rfl) rfl (WaitsNil h) (K.pp [] rfl) rfl rfl ?_
      simp only [List.nil_append, List.cons_append]
      (repeat' (first | refine X.rq ?_ | (refine X.rc ?_ ?_ <;> intro hc <;> first | (exfalso; omega) | skip)))
      refine K.l_call (Fx.cal rfl) rfl (VictimNil h) (K.pp [] rfl) rfl ?_
      rintro u h' H' - ⟨e, rfl, rfl⟩
      obtain rfl := e.symm
      simp only [List.nil_append, List.cons_append]
      (repeat' (first | refine X.rq ?_ | (refine X.rc ?_ ?_ <;> intro hc <;> first | (exfalso; omega) | skip)))
      refine K.l_call (Fx.cal rfl) rfl (Alive h hG) (K.pp [] rfl) rfl ?_
      rintro u h' H' hle ⟨rfl, rfl⟩
      simp only [List.nil_append, List.cons_append]
      (repeat' (first | refine X.rq ?_ | (refine X.rc ?_ ?_ <;> intro hc <;> first | (exfalso; omega) | skip)))
      refine K.done (by first | exact Or.inl rfl | exact Or.inr rfl) rfl (by first | exact K.Base.le.refl _ | assumption) (H' := []) rfl ⟨rfl, rfl⟩
end Go.Proofs.YtcpdfajaggbjlaaDoor.Lk
