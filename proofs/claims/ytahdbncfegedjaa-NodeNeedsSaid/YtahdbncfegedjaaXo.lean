/-
  Trees of pages: a Split that is being made: pages taken and put; room. Conditions: each theorem's own.
-/
import Derived.Test.YtahdbncfegedjaaXn

namespace Go.Proofs.Ytahdbncfegedjaa.Nd
open Go Go.K Go.Proofs Go.Proofs.Ytahdbncfegedjaa Go.Proofs.Ytahdbncfegedjaa.Pg
set_option linter.unusedVariables false
set_option linter.unusedSimpArgs false
set_option maxRecDepth 10000

abbrev wkV (iv fv : Value) (cnt : Nat) : List Value := [iv, fv, .int .i64 cnt]
theorem U32s.len {h : Base} {v : Value} {l : List Nat} (hu : U32s h v l) : ∃ ao ca, v = .slice ao l.length ca := by
  obtain ⟨ao, ca, rfl⟩ := hu.1.len
  exact ⟨ao, ca, by rw [List.length_map]⟩
set_option maxHeartbeats 1000000 in
theorem Take (h : Base) (Bw : Nat) (iv fv : Value) (fs : List Nat) (cnt : Nat) (hf : U32s h fv fs) (hfl : fs.length ≤ 1000000) (hc : cnt ≤ 1000000) : Tr Try.prog 88 [.pointer (some ⟨Bw, 0, none⟩)] h [blk Bw 81 (wkV iv fv cnt)]
    (fun v h' H' => h' = h ∧ v = uV (fs.headD 0) ∧ ∃ fv', U32s h fv' fs.tail ∧ H' = [blk Bw 81 (wkV iv fv' (cnt + 1))]) := by
  have hf0 := hf
  obtain ⟨ao, ca, rfl⟩ := hf.len
  refine K.enter Try.func88 rfl (Nat.le_of_ble_eq_true rfl) (fun F => ?_)
  cases fs with
  | nil =>
    (repeat' (first | refine X.rq ?_ | (refine X.rc ?_ ?_ <;> intro hc <;> first | (exfalso; omega) | skip)))
    refine X.sto ?_
    simp only [List.set_cons_zero, List.set_cons_succ, List.eraseIdx_cons_zero, List.eraseIdx_cons_succ, List.cons_append, List.nil_append]
    (repeat' (first | refine X.rq ?_ | (refine X.rc ?_ ?_ <;> intro hc <;> first | (exfalso; omega) | skip)))
    refine K.done (by first | exact Or.inl rfl | exact Or.inr rfl) rfl (by first | exact K.Base.le.refl _ | assumption) (H' := [blk Bw 81 (wkV iv (.slice ao 0 ca) (cnt + 1))]) rfl ⟨rfl, rfl, _, hf0, rfl⟩
  | cons x fs =>
    have hx : ((x :: fs).map fun n => [uV n])[(0 : Int).toNat]? = some [uV x] := rfl
    rw [List.length_cons] at hf0 ⊢
    have hft : ∀ y ∈ fs, y < 4294967296 := fun y hy => hf0.2 y (List.mem_cons_of_mem _ hy)
    rw [List.length_cons] at hfl
    (repeat' (first | refine X.rq ?_ | (refine X.rc ?_ ?_ <;> intro hc <;> first | (exfalso; omega) | skip)))
    refine X.sto ?_
    simp only [List.set_cons_zero, List.set_cons_succ, List.eraseIdx_cons_zero, List.eraseIdx_cons_succ, List.cons_append, List.nil_append]
    (repeat' (first | refine X.rq ?_ | (refine X.rc ?_ ?_ <;> intro hc <;> first | (exfalso; omega) | skip)))
    refine K.s_pureE (K.p_indexL hf0.1 (Fx.und rfl) (Fx.sz rfl) rfl rfl (by omega) hx) rfl ?_
    rintro v2 ⟨b, o, rfl, hcel⟩
    refine K.s_pure (K.p_load (Fx.agg rfl) rfl (Cels.up hcel).1) rfl ?_
    (repeat' (first | refine X.rq ?_ | (refine X.rc ?_ ?_ <;> intro hc <;> first | (exfalso; omega) | skip)))
    refine K.s_pureE (K.p_sliceL (lo := some (.const (.int .i64 1))) (hi := none) (k1 := .i64) (k2 := .i64) (p := 1) (q := fs.length + 1) hf0.1 (Fx.und rfl) (Fx.sz rfl) rfl ⟨_, rfl, rfl⟩ (by simp) (by omega) (by simp)) rfl ?_
    intro v3 hs3
    rw [List.take_of_length_le (by simp), List.map_cons, List.drop_succ_cons, List.drop_zero] at hs3
    obtain ⟨ao3, ca3, rfl⟩ := hs3.len
    (repeat' (first | refine X.rq ?_ | (refine X.rc ?_ ?_ <;> intro hc <;> first | (exfalso; omega) | skip)))
    refine X.sto ?_
    simp only [List.set_cons_zero, List.set_cons_succ, List.eraseIdx_cons_zero, List.eraseIdx_cons_succ, List.cons_append, List.nil_append]
    (repeat' (first | refine X.rq ?_ | (refine X.rc ?_ ?_ <;> intro hc <;> first | (exfalso; omega) | skip)))
    refine K.done (by first | exact Or.inl rfl | exact Or.inr rfl) rfl (by first | exact K.Base.le.refl _ | assumption) (H' := [blk Bw 81 (wkV iv (.slice ao3 (fs.map fun n => [uV n]).length ca3) (cnt + 1))]) rfl ⟨rfl, rfl, _, ⟨hs3, hft⟩, rfl⟩
set_option maxHeartbeats 1000000 in
theorem PutW (h : Base) (Bw : Nat) (fv : Value) (cnt n : Nat) (p : Pag) (cv : Value) (a : Option Nat) (cap : Nat) (rows : List (List Value)) (hp : PagC h (cP p cv) p) (hr : rows.length ≤ 1000000) :
    Tr Try.prog 66 [.pointer (some ⟨Bw, 0, none⟩), uV n, .agg (cP p cv).toArray] h [blk Bw 81 (wkV (bufV a rows.length cap) fv cnt), bufA 58 5 a rows.length cap rows.flatten]
      (fun v h' H' => h' = h ∧ ∃ a' cap', H' = [blk Bw 81 (wkV (bufV a' (rows.length + 1) cap') fv cnt), bufA 58 5 a' (rows.length + 1) cap' (rows ++ [uV n :: cP p cv]).flatten]) := by
  obtain ⟨hw, cv', e, es, hsl, hel, hcs⟩ := hp
  obtain rfl : cv = cv' := by simpa [cP] using e
  clear e
  obtain ⟨ao, ca, rfl⟩ := hsl.len
  refine K.enter Try.func66 rfl (Nat.le_of_ble_eq_true rfl) (fun F => ?_)
  simp only [List.cons_append, List.nil_append]
  (repeat' (first | refine X.rq ?_ | (refine X.rc ?_ ?_ <;> intro hc <;> first | (exfalso; omega) | skip)))
  refine K.l_box rfl rfl rfl (fun B5 => ?_)
  (repeat' (first | refine X.rq ?_ | (refine X.rc ?_ ?_ <;> intro hc <;> first | (exfalso; omega) | skip)))
  refine X.draw ([blk B5 55 (cP p (.slice ao es.length ca)), blk Bw 81 (wkV (bufV a rows.length cap) fv cnt)]) [12] (.pu 0 (.pu 1 (.pu 2 (.pu 3 (.pu 5 (.st 4 (.st 6 (.pu 7 (.on 8 (.on 9 (.pu 10 (.pu 11 (.cl 12 .nil))))))))))))) ?_
  refine K.d_pu rfl (fun _ _ => X.mv) rfl ?_
  refine K.d_pu rfl (fun _ _ => X.mv) rfl ?_
  refine K.d_pu rfl (fun _ _ => X.nc) rfl ?_
  refine K.d_pu rfl (fun _ _ => X.fa) rfl ?_
  refine K.d_pu rfl (fun _ _ => X.mv) rfl ?_
  refine K.d_st rfl X.ld rfl ?_
  refine K.d_st rfl X.ld rfl ?_
  refine K.d_pu rfl (fun _ _ => X.bd) rfl ?_
  refine K.d_on rfl (fun KK hKK => ?_)
  refine X.bs (fun B => ?_)
  refine K.l_nil ?_
  refine X.onE hKK ?_
  refine K.d_on rfl (fun KK hKK => ?_)
  refine K.l_append_at 3 rfl (Fx.und rfl) (Fx.und rfl) rfl (Fx.sz rfl) (Fx.zr rfl) rfl (Fx.byt rfl) rfl rfl (K.src_cells (K.cels_own (pre := []) (cs := uV n :: cP p (.slice ao es.length ca)) (post := []) 0 rfl rfl) rfl (by simp [oneCell, cP])) (by omega) (by omega) rfl (fun a7 cap7 => ?_)
  refine K.l_nil ?_
  refine X.onE hKK ?_
  refine K.d_pu rfl (fun _ _ => X.nc) rfl ?_
  refine K.d_pu rfl (fun _ _ => X.fa) rfl ?_
  refine K.d_cl rfl (fun KK hKK => ?_)
  refine X.sto ?_
  refine K.l_nil ?_
  refine K.d_clE hKK ?_
  refine K.d_nil ?_
  simp only [List.set_cons_zero, List.set_cons_succ, List.eraseIdx_cons_zero, List.eraseIdx_cons_succ, List.cons_append, List.nil_append]
  (repeat' (first | refine X.rq ?_ | (refine X.rc ?_ ?_ <;> intro hc <;> first | (exfalso; omega) | skip)))
  refine K.AT.sel [0, 0] rfl ?_
  rw [show rows.flatten ++ uV n :: cP p (.slice ao es.length ca) = (rows ++ [uV n :: cP p (.slice ao es.length ca)]).flatten by simp]
  refine K.done (by first | exact Or.inl rfl | exact Or.inr rfl) rfl (by first | exact K.Base.le.refl _ | assumption) (H' := [blk Bw 81 (wkV (bufV a7 (rows.length + 1) cap7) fv cnt), bufA 58 5 a7 (rows.length + 1) cap7 (rows ++ [uV n :: cP p (.slice ao es.length ca)]).flatten]) rfl ⟨rfl, a7, cap7, rfl⟩
def fitsQ (p : Pag) (c : PCell) : Bool := decide (p.cells.length < 60 ∧ sizeQ p.cells + 6 + c.data.length ≤ 512)
set_option maxHeartbeats 1000000 in
theorem Fits (h : Base) (cs : List Value) (p : Pag) (cc : List Value) (c : PCell) (hp : PagC h cs p) (hc : CellC h cc c) (hs : small p.cells) (hcl : c.data.length ≤ 4000) : TrV Try.prog 64 [.agg cs.toArray, .agg cc.toArray] h [] (.bool (fitsQ p c)) [] := by
  have hp0 := hp
  obtain ⟨hw, cv, rfl, es, hsl, hel, hcs⟩ := hp
  obtain ⟨ao, ca, rfl⟩ := hsl.len
  obtain ⟨hk2, hd2, ao4, ca4, rfl, hb2⟩ := hc
  rw [hel] at hsl hp0 ⊢
  have hsz := sizeS_le hs.2
  have h4 := hs.1
  have hsq : sizeQ p.cells ≤ 18 + p.cells.length * 4006 := by unfold sizeQ; omega
  have hsq2 : p.cells.length * 4006 ≤ 400 * 4006 := Nat.mul_le_mul_right _ h4
  refine K.enter Try.func64 rfl (Nat.le_of_ble_eq_true rfl) (fun F => ?_)
  (repeat' (first | refine X.rq ?_ | (refine X.rc ?_ ?_ <;> intro hc <;> first | (exfalso; omega) | skip)))
  refine K.l_box rfl rfl rfl (fun B2 => ?_)
  refine K.l_box rfl rfl rfl (fun B3 => ?_)
  simp only [List.set_cons_zero, List.set_cons_succ, List.eraseIdx_cons_zero, List.eraseIdx_cons_succ, List.cons_append, List.nil_append]
  (repeat' (first | refine X.rq ?_ | (refine X.rc ?_ ?_ <;> intro hc <;> first | (exfalso; omega) | skip)))
  by_cases hlt : p.cells.length < 60
  · refine X.draw ([blk B3 52 [.bool c.used, .int .u32 c.killer, .slice ao4 c.data.length ca4], blk B2 55 (cP p (.slice ao p.cells.length ca))]) [] (.pu 0 (.st 1 (.pu 2 (.pu 3 (.pu 4 (.pu 8 (.st 5 (.st 9 (.pu 10 (.on 6 (.pu 7 (.pu 11 (.pu 12 (.pu 13 (.pu 14 .nil))))))))))))))) ?_
    refine K.d_pu rfl (fun _ _ => X.fa) rfl ?_
    refine K.d_st rfl X.ld rfl ?_
    refine K.d_pu rfl (fun _ _ => X.len) rfl ?_
    refine K.d_pu rfl (fun _ _ => X.blss) rfl ?_
    rw [decide_eq_true (show (p.cells.length : Int) < 60 by omega)]
    refine K.d_pu rfl (fun _ _ => X.mv) rfl ?_
    first | refine K.d_skip rfl rfl rfl rfl ?_ | refine K.d_skipU rfl rfl rfl rfl rfl ?_ | refine K.d_puG rfl rfl rfl (fun _ _ => X.fa) rfl ?_
    first | refine K.d_skipS rfl rfl rfl rfl ?_ | refine K.d_skipUS rfl rfl rfl rfl rfl ?_ | refine K.d_stG rfl rfl rfl X.ld rfl ?_
    first | refine K.d_skipS rfl rfl rfl rfl ?_ | refine K.d_skipUS rfl rfl rfl rfl rfl ?_ | refine K.d_stG rfl rfl rfl X.ld rfl ?_
    first | refine K.d_skip rfl rfl rfl rfl ?_ | refine K.d_skipU rfl rfl rfl rfl rfl ?_ | refine K.d_puG rfl rfl rfl (fun _ _ => X.len) rfl ?_
    refine K.d_on rfl (fun KK hKK => ?_)
    refine K.s_take rfl rfl ?_
    refine K.l_callV (Fx.cal rfl) rfl (PSize h _ p hp0 hs) (K.pp [] rfl) rfl rfl ?_
    simp only [List.nil_append]
    refine K.l_nil ?_
    refine X.onE hKK ?_
    first | refine K.d_skip rfl rfl rfl rfl ?_ | refine K.d_skipU rfl rfl rfl rfl rfl ?_ | refine K.d_puG rfl rfl rfl (fun _ _ => X.badd) rfl ?_
    first | refine K.d_skip rfl rfl rfl rfl ?_ | refine K.d_skipU rfl rfl rfl rfl rfl ?_ | refine K.d_puG rfl rfl rfl (fun _ _ => X.badd) rfl ?_
    first | refine K.d_skip rfl rfl rfl rfl ?_ | refine K.d_skipU rfl rfl rfl rfl rfl ?_ | refine K.d_puG rfl rfl rfl (fun _ _ => X.bleq) rfl ?_
    refine K.d_pu rfl (fun _ _ => X.pk) rfl ?_
    refine K.d_pu rfl (fun _ _ => X.sg) rfl ?_
    refine K.d_nil ?_
    (repeat' (first | refine X.rq ?_ | (refine X.rc ?_ ?_ <;> intro hc <;> first | (exfalso; omega) | skip)))
    refine K.AT.drop (K.AT.drop ?_)
    refine K.done (by first | exact Or.inl rfl | exact Or.inr rfl) rfl (by first | exact K.Base.le.refl _ | assumption) (H' := []) rfl ⟨?_, rfl, rfl⟩
    show Value.bool _ = Value.bool _
    congr 1
    unfold fitsQ
    rw [decide_eq_decide]
    omega
  · refine X.draw ([blk B3 52 [.bool c.used, .int .u32 c.killer, .slice ao4 c.data.length ca4], blk B2 55 (cP p (.slice ao p.cells.length ca))]) [] (.pu 0 (.st 1 (.pu 2 (.pu 3 (.pu 4 (.pu 8 (.st 5 (.st 9 (.pu 10 (.on 6 (.pu 7 (.pu 11 (.pu 12 (.pu 13 (.pu 14 .nil))))))))))))))) ?_
    refine K.d_pu rfl (fun _ _ => X.fa) rfl ?_
    refine K.d_st rfl X.ld rfl ?_
    refine K.d_pu rfl (fun _ _ => X.len) rfl ?_
    refine K.d_pu rfl (fun _ _ => X.blss) rfl ?_
    rw [decide_eq_false (show ¬ (p.cells.length : Int) < 60 by omega)]
    refine K.d_pu rfl (fun _ _ => X.mv) rfl ?_
    first | refine K.d_skip rfl rfl rfl rfl ?_ | refine K.d_skipU rfl rfl rfl rfl rfl ?_ | refine K.d_puG rfl rfl rfl (fun _ _ => X.fa) rfl ?_
    first | refine K.d_skipS rfl rfl rfl rfl ?_ | refine K.d_skipUS rfl rfl rfl rfl rfl ?_ | refine K.d_stG rfl rfl rfl X.ld rfl ?_
    first | refine K.d_skipS rfl rfl rfl rfl ?_ | refine K.d_skipUS rfl rfl rfl rfl rfl ?_ | refine K.d_stG rfl rfl rfl X.ld rfl ?_
    first | refine K.d_skip rfl rfl rfl rfl ?_ | refine K.d_skipU rfl rfl rfl rfl rfl ?_ | refine K.d_puG rfl rfl rfl (fun _ _ => X.len) rfl ?_
    refine K.d_on rfl (fun KK hKK => ?_)
    first | refine K.s_skip rfl rfl rfl ?_ | refine K.s_skipU rfl rfl rfl rfl ?_
    refine K.l_nil ?_
    refine X.onE hKK ?_
    first | refine K.d_skip rfl rfl rfl rfl ?_ | refine K.d_skipU rfl rfl rfl rfl rfl ?_ | refine K.d_puG rfl rfl rfl (fun _ _ => X.badd) rfl ?_
    first | refine K.d_skip rfl rfl rfl rfl ?_ | refine K.d_skipU rfl rfl rfl rfl rfl ?_ | refine K.d_puG rfl rfl rfl (fun _ _ => X.badd) rfl ?_
    first | refine K.d_skip rfl rfl rfl rfl ?_ | refine K.d_skipU rfl rfl rfl rfl rfl ?_ | refine K.d_puG rfl rfl rfl (fun _ _ => X.bleq) rfl ?_
    refine K.d_pu rfl (fun _ _ => X.pk) rfl ?_
    refine K.d_pu rfl (fun _ _ => X.sg) rfl ?_
    refine K.d_nil ?_
    (repeat' (first | refine X.rq ?_ | (refine X.rc ?_ ?_ <;> intro hc <;> first | (exfalso; omega) | skip)))
    refine K.AT.drop (K.AT.drop ?_)
    refine K.done (by first | exact Or.inl rfl | exact Or.inr rfl) rfl (by first | exact K.Base.le.refl _ | assumption) (H' := []) rfl ⟨?_, rfl, rfl⟩
    show Value.bool _ = Value.bool _
    congr 1
    symm
    unfold fitsQ
    rw [decide_eq_false_iff_not]
    omega
set_option maxHeartbeats 1000000 in
theorem RRoomC (h : Base) (cs : List Value) (p : Pag) (cc : List Value) (c : PCell) (hp : PagC h cs p) (hc : CellC h cc c) (hs : small p.cells) (hcl : c.data.length ≤ 4000) : TrV Try.prog 68 [.agg cs.toArray, .agg cc.toArray] h [] (.bool (fitsQ p c)) [] := by
  have hp0 := hp
  obtain ⟨hw, cv, rfl, es, hsl, hel, hcs⟩ := hp
  obtain ⟨ao, ca, rfl⟩ := hsl.len
  obtain ⟨hk2, hd2, ao4, ca4, rfl, hb2⟩ := hc
  rw [hel] at hsl hp0 ⊢
  have hsz := sizeS_le hs.2
  have h4 := hs.1
  have hsq : sizeQ p.cells ≤ 18 + p.cells.length * 4006 := by unfold sizeQ; omega
  have hsq2 : p.cells.length * 4006 ≤ 400 * 4006 := Nat.mul_le_mul_right _ h4
  refine K.enter Try.func68 rfl (Nat.le_of_ble_eq_true rfl) (fun F => ?_)
  (repeat' (first | refine X.rq ?_ | (refine X.rc ?_ ?_ <;> intro hc <;> first | (exfalso; omega) | skip)))
  refine K.l_box rfl rfl rfl (fun B2 => ?_)
  refine K.l_box rfl rfl rfl (fun B3 => ?_)
  simp only [List.set_cons_zero, List.set_cons_succ, List.eraseIdx_cons_zero, List.eraseIdx_cons_succ, List.cons_append, List.nil_append]
  (repeat' (first | refine X.rq ?_ | (refine X.rc ?_ ?_ <;> intro hc <;> first | (exfalso; omega) | skip)))
  by_cases hlt : p.cells.length < 60
  · refine X.draw ([blk B3 52 [.bool c.used, .int .u32 c.killer, .slice ao4 c.data.length ca4], blk B2 55 (cP p (.slice ao p.cells.length ca))]) [] (.pu 0 (.st 1 (.pu 2 (.pu 3 (.pu 4 (.pu 8 (.st 5 (.st 9 (.pu 10 (.on 6 (.pu 7 (.pu 11 (.pu 12 (.pu 13 (.pu 14 .nil))))))))))))))) ?_
    refine K.d_pu rfl (fun _ _ => X.fa) rfl ?_
    refine K.d_st rfl X.ld rfl ?_
    refine K.d_pu rfl (fun _ _ => X.len) rfl ?_
    refine K.d_pu rfl (fun _ _ => X.blss) rfl ?_
    rw [decide_eq_true (show (p.cells.length : Int) < 60 by omega)]
    refine K.d_pu rfl (fun _ _ => X.mv) rfl ?_
    first | refine K.d_skip rfl rfl rfl rfl ?_ | refine K.d_skipU rfl rfl rfl rfl rfl ?_ | refine K.d_puG rfl rfl rfl (fun _ _ => X.fa) rfl ?_
    first | refine K.d_skipS rfl rfl rfl rfl ?_ | refine K.d_skipUS rfl rfl rfl rfl rfl ?_ | refine K.d_stG rfl rfl rfl X.ld rfl ?_
    first | refine K.d_skipS rfl rfl rfl rfl ?_ | refine K.d_skipUS rfl rfl rfl rfl rfl ?_ | refine K.d_stG rfl rfl rfl X.ld rfl ?_
    first | refine K.d_skip rfl rfl rfl rfl ?_ | refine K.d_skipU rfl rfl rfl rfl rfl ?_ | refine K.d_puG rfl rfl rfl (fun _ _ => X.len) rfl ?_
    refine K.d_on rfl (fun KK hKK => ?_)
    refine K.s_take rfl rfl ?_
    refine K.l_callV (Fx.cal rfl) rfl (RSize h _ p hp0 hs) (K.pp [] rfl) rfl rfl ?_
    simp only [List.nil_append]
    refine K.l_nil ?_
    refine X.onE hKK ?_
    first | refine K.d_skip rfl rfl rfl rfl ?_ | refine K.d_skipU rfl rfl rfl rfl rfl ?_ | refine K.d_puG rfl rfl rfl (fun _ _ => X.badd) rfl ?_
    first | refine K.d_skip rfl rfl rfl rfl ?_ | refine K.d_skipU rfl rfl rfl rfl rfl ?_ | refine K.d_puG rfl rfl rfl (fun _ _ => X.badd) rfl ?_
    first | refine K.d_skip rfl rfl rfl rfl ?_ | refine K.d_skipU rfl rfl rfl rfl rfl ?_ | refine K.d_puG rfl rfl rfl (fun _ _ => X.bleq) rfl ?_
    refine K.d_pu rfl (fun _ _ => X.pk) rfl ?_
    refine K.d_pu rfl (fun _ _ => X.sg) rfl ?_
    refine K.d_nil ?_
    (repeat' (first | refine X.rq ?_ | (refine X.rc ?_ ?_ <;> intro hc <;> first | (exfalso; omega) | skip)))
    refine K.AT.drop (K.AT.drop ?_)
    refine K.done (by first | exact Or.inl rfl | exact Or.inr rfl) rfl (by first | exact K.Base.le.refl _ | assumption) (H' := []) rfl ⟨?_, rfl, rfl⟩
    show Value.bool _ = Value.bool _
    congr 1
    unfold fitsQ
    rw [decide_eq_decide]
    omega
  · refine X.draw ([blk B3 52 [.bool c.used, .int .u32 c.killer, .slice ao4 c.data.length ca4], blk B2 55 (cP p (.slice ao p.cells.length ca))]) [] (.pu 0 (.st 1 (.pu 2 (.pu 3 (.pu 4 (.pu 8 (.st 5 (.st 9 (.pu 10 (.on 6 (.pu 7 (.pu 11 (.pu 12 (.pu 13 (.pu 14 .nil))))))))))))))) ?_
    refine K.d_pu rfl (fun _ _ => X.fa) rfl ?_
    refine K.d_st rfl X.ld rfl ?_
    refine K.d_pu rfl (fun _ _ => X.len) rfl ?_
    refine K.d_pu rfl (fun _ _ => X.blss) rfl ?_
    rw [decide_eq_false (show ¬ (p.cells.length : Int) < 60 by omega)]
    refine K.d_pu rfl (fun _ _ => X.mv) rfl ?_
    first | refine K.d_skip rfl rfl rfl rfl ?_ | refine K.d_skipU rfl rfl rfl rfl rfl ?_ | refine K.d_puG rfl rfl rfl (fun _ _ => X.fa) rfl ?_
    first | refine K.d_skipS rfl rfl rfl rfl ?_ | refine K.d_skipUS rfl rfl rfl rfl rfl ?_ | refine K.d_stG rfl rfl rfl X.ld rfl ?_
    first | refine K.d_skipS rfl rfl rfl rfl ?_ | refine K.d_skipUS rfl rfl rfl rfl rfl ?_ | refine K.d_stG rfl rfl rfl X.ld rfl ?_
    first | refine K.d_skip rfl rfl rfl rfl ?_ | refine K.d_skipU rfl rfl rfl rfl rfl ?_ | refine K.d_puG rfl rfl rfl (fun _ _ => X.len) rfl ?_
    refine K.d_on rfl (fun KK hKK => ?_)
    first | refine K.s_skip rfl rfl rfl ?_ | refine K.s_skipU rfl rfl rfl rfl ?_
    refine K.l_nil ?_
    refine X.onE hKK ?_
    first | refine K.d_skip rfl rfl rfl rfl ?_ | refine K.d_skipU rfl rfl rfl rfl rfl ?_ | refine K.d_puG rfl rfl rfl (fun _ _ => X.badd) rfl ?_
    first | refine K.d_skip rfl rfl rfl rfl ?_ | refine K.d_skipU rfl rfl rfl rfl rfl ?_ | refine K.d_puG rfl rfl rfl (fun _ _ => X.badd) rfl ?_
    first | refine K.d_skip rfl rfl rfl rfl ?_ | refine K.d_skipU rfl rfl rfl rfl rfl ?_ | refine K.d_puG rfl rfl rfl (fun _ _ => X.bleq) rfl ?_
    refine K.d_pu rfl (fun _ _ => X.pk) rfl ?_
    refine K.d_pu rfl (fun _ _ => X.sg) rfl ?_
    refine K.d_nil ?_
    (repeat' (first | refine X.rq ?_ | (refine X.rc ?_ ?_ <;> intro hc <;> first | (exfalso; omega) | skip)))
    refine K.AT.drop (K.AT.drop ?_)
    refine K.done (by first | exact Or.inl rfl | exact Or.inr rfl) rfl (by first | exact K.Base.le.refl _ | assumption) (H' := []) rfl ⟨?_, rfl, rfl⟩
    show Value.bool _ = Value.bool _
    congr 1
    symm
    unfold fitsQ
    rw [decide_eq_false_iff_not]
    omega
end Go.Proofs.Ytahdbncfegedjaa.Nd
