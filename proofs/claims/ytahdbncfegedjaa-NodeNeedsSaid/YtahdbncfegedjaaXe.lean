/-
  Trees of pages: the way down; the document's. Conditions: each theorem's own.
-/
import Derived.Test.YtahdbncfegedjaaXd

namespace Go.Proofs.Ytahdbncfegedjaa.Nd
open Go Go.K Go.Proofs Go.Proofs.Ytahdbncfegedjaa Go.Proofs.Ytahdbncfegedjaa.Pg
set_option linter.unusedVariables false
set_option linter.unusedSimpArgs false
set_option maxRecDepth 10000

/-- Numbers, or why there are none. -/
def WayR (h : Base) (r : Except Int (List Nat)) (v : Value) : Prop := ∃ sv l e, v = .tuple #[sv, .int .i64 e] ∧ U32s h sv l ∧ ((e = 0 ∧ r = .ok l) ∨ (r = .error e ∧ l = []))
structure WaS where
  pre : List Nat
  n : Nat
  a : Option Nat
  cap : Nat
theorem step_cells {s : List UInt8} {p : Pag} {j : Nat} {c : PCell} (hc : p.cells[j]? = some c) : ((kidsQ p).take (j + 2)).foldl (stepF s) p.next = if lt8 s (keyOf c) then ((kidsQ p).take (j + 1)).foldl (stepF s) p.next else childOf c := by
  rw [(kids_pre hc).2, List.foldl_append, List.foldl_cons, List.foldl_nil, stepF]
theorem pre_lt {s : List UInt8} {p : Pag} (hw : wfP p) (hb : big4 p) (k : Nat) : ((kidsQ p).take k).foldl (stepF s) p.next < 4294967296 :=
  step_lt hw.next fun x hx => kids_lt hw hb x (List.mem_of_mem_take hx)
set_option maxHeartbeats 4000000 in
theorem RWay (h : Base) (cs : List Value) (t : PTree) (root : Nat) (s : List UInt8) (hx : TreeC h cs t) (hroot : root < 4294967296) :
    Tr Try.prog 28 [.agg cs.toArray, uV root, txt s] h [] (fun v h' H' => H' = [] ∧ WayR h' (wayQ (some (treeG t)) s 7 root) v) := by
  have hx0 := hx
  obtain ⟨hb, he, hpl, pv, rfl, es, hv, hel, hr⟩ := hx
  obtain ⟨ao, ca, rfl⟩ := hv.len
  obtain ⟨lt0, hlt⟩ : ∃ l : Nat, l = es.length := ⟨_, rfl⟩
  rw [← hlt] at hx0 ⊢
  refine K.enter Try.func28 rfl (Nat.le_of_ble_eq_true rfl) (fun F => ?_)
  (repeat' (first | refine X.rq ?_ | (refine X.rc ?_ ?_ <;> intro hc <;> first | (exfalso; omega) | skip)))
  refine K.l_box rfl rfl rfl (fun B3 => ?_)
  (repeat' (first | refine X.rq ?_ | (refine X.rc ?_ ?_ <;> intro hc <;> first | (exfalso; omega) | skip)))
  refine K.WC.nilBuf 23 1 ?_
  refine K.c_loop (σ := WaS) (fun q => [(2, txt s), (3, .pointer (some ⟨B3, 0, none⟩)), (6, .slice none 0 0), (7, .int .i64 0), (8, bufV q.a q.pre.length q.cap), (9, uV q.n)]) (fun _ => h) (fun q => bufA 23 1 q.a q.pre.length q.cap (q.pre.map uV) :: blk B3 26 (cT t (.slice ao lt0 ca)) :: F)
    (fun q => q.pre.length ≤ 7 ∧ q.n < 4294967296 ∧ (∀ x ∈ q.pre, x < 4294967296) ∧ wayQ (some (treeG t)) s 7 root = glueQ q.pre (wayQ (some (treeG t)) s (7 - q.pre.length) q.n)) (fun q => 8 - q.pre.length) ⟨[], root, none, 0⟩ ⟨Nat.zero_le _, hroot, (fun x hx => by cases hx), ?_⟩ (by repeat (first | exact K.Sub.nil _ | refine K.Sub.cons rfl ?_)) rfl rfl ?_
  · show _ = glueQ [] (wayQ _ s 7 root)
    cases wayQ (some (treeG t)) s 7 root <;> rfl
  rintro ⟨pre, nn, a, cap⟩ ⟨hlen, hnn, hpre, hq⟩ KL hKL
  simp only at hlen hnn hpre hq ⊢
  have hpn : ∀ x ∈ pre ++ [nn], x < 4294967296 := fun x hx => by
    rcases List.mem_append.1 hx with hx | hx
    · exact hpre x hx
    · rw [List.mem_singleton.1 hx]; exact hnn
  (repeat' (first | refine X.rq ?_ | (refine X.rc ?_ ?_ <;> intro hc <;> first | (exfalso; omega) | skip)))
  refine K.l_buildSlice (Fx.und rfl) (Fx.sz rfl) rfl (Fx.zr rfl) rfl rfl rfl rfl rfl (fun BX => ?_)
  refine K.l_append_at 1 rfl (Fx.und rfl) (Fx.und rfl) rfl (Fx.sz rfl) (Fx.zr rfl) rfl (Fx.byt rfl) rfl rfl (K.src_cells (K.cels_own (pre := []) (cs := [uV nn]) (post := []) 0 rfl rfl) rfl (by simp [oneCell])) (by omega) (by omega) rfl (fun a6 cap6 => ?_)
  simp only [List.set_cons_zero, List.set_cons_succ, List.eraseIdx_cons_zero, List.eraseIdx_cons_succ, List.cons_append, List.nil_append]
  (repeat' (first | refine X.rq ?_ | (refine X.rc ?_ ?_ <;> intro hc <;> first | (exfalso; omega) | skip)))
  refine K.l_call (Fx.cal rfl) rfl (RPage h _ t nn hx0 hnn) (K.pp [] rfl) rfl ?_
  rintro u h' H' - ⟨e, rfl, p, cs, er, rfl, hpc, her, hres⟩
  obtain rfl := e.symm
  have hpc0 := hpc
  obtain ⟨hw, cv, rfl, ef, hsl, hel2, hcs⟩ := hpc
  obtain ⟨ao2, ca2, rfl⟩ := hsl.len
  rw [hel2] at hsl hpc0 ⊢
  (repeat' (first | refine X.rq ?_ | (refine X.rc ?_ ?_ <;> intro hc <;> first | (exfalso; omega) | skip)))
  refine K.l_alloc (Fx.zr rfl) rfl rfl (fun B10 => ?_)
  refine X.stw ?_
  simp only [List.set_cons_zero, List.set_cons_succ, List.eraseIdx_cons_zero, List.eraseIdx_cons_succ, List.cons_append, List.nil_append]
  (repeat' (first | refine X.rq ?_ | (refine X.rc ?_ ?_ <;> intro hc <;> first | (exfalso; omega) | skip)))
  · have e0 : er ≠ 0 := by assumption
    obtain ⟨_, e2⟩ := hres.resolve_left (fun h => e0 h.1)
    exact K.doneC (vs := [.slice none 0 0, .int .i64 er]) (by first | exact Or.inl rfl | exact Or.inr rfl) (.tmp rfl (.tmp rfl .nil)) (K.Base.le.refl _) (D := [_, _, _, _]) (H' := []) rfl ⟨rfl, _, [], er, rfl, U32s.nil, .inr ⟨by rw [hq, way_err e2]; rfl, rfl⟩⟩
  · have e0 : er = 0 := Classical.not_not.1 (by assumption)
    have h2 : p.kind = 2 := by assumption
    obtain ⟨_, hpq⟩ := hres.resolve_right (fun h => h.1 e0)
    have e9 : (pre ++ [nn]).map uV = pre.map uV ++ [uV nn] := by simp
    have e8 : (pre ++ [nn]).length = pre.length + 1 := by simp
    refine K.AT.sel [0, 0] rfl ?_
    rw [← e9, ← e8]
    refine AT.freezeU hpn (fun h1 le1 hu1 => ?_)
    exact K.doneC (vs := [bufV a6 (pre ++ [nn]).length cap6, .int .i64 0]) (by first | exact Or.inl rfl | exact Or.inr rfl) (.tmp rfl (.tmp rfl .nil)) le1 (D := [_]) (H' := []) rfl ⟨rfl, _, pre ++ [nn], 0, rfl, hu1, .inl ⟨rfl, by rw [hq, way_leaf hpq h2]; rfl⟩⟩
  · have e0 : er = 0 := Classical.not_not.1 (by assumption)
    have h2 : ¬ p.kind = 2 := by assumption
    obtain ⟨_, hpq⟩ := hres.resolve_right (fun h => h.1 e0)
    exact K.doneC (vs := [.slice none 0 0, .int .i64 5]) (by first | exact Or.inl rfl | exact Or.inr rfl) (.tmp rfl (.tmp rfl .nil)) (K.Base.le.refl _) (D := [_, _, _, _]) (H' := []) rfl ⟨rfl, _, [], 5, rfl, U32s.nil, .inr ⟨by rw [hq, show 7 - pre.length = 0 by omega, way_deep hpq h2]; rfl, rfl⟩⟩
  have e0 : er = 0 := Classical.not_not.1 (by assumption)
  have h2 : ¬ p.kind = 2 := by assumption
  have hgt : ¬ ((pre.length : Int) + 1 ≥ 8) := by assumption
  obtain ⟨_, hpq⟩ := hres.resolve_right (fun h => h.1 e0)
  have hgd := page_good hpq
  have hbg := big_of hgd h2
  have h60 := (inner_of hgd h2).1.2.1
  have hf0 : ((kidsQ p).take (0 + 1)).foldl (stepF s) p.next = p.next := by
    simp only [kidsQ, Nat.zero_add, List.take_succ_cons, List.take_zero, List.foldl_cons, List.foldl_nil, stepF]
    split <;> rfl
  refine K.WC.sel [1] rfl ?_
  refine K.c_loop (σ := Nat) (fun i => [(2, txt s), (3, .pointer (some ⟨B3, 0, none⟩)), (6, .slice none 0 0), (7, .int .i64 0), (8, bufV a6 (pre.length + 1) cap6), (9, uV (((kidsQ p).take (i + 1)).foldl (stepF s) p.next)), (10, .pointer (some ⟨B10, 0, none⟩)), (12, .int .i64 i)]) (fun _ => h) (fun _ => blk B10 55 (cP p (.slice ao2 p.cells.length ca2)) :: bufA 23 1 a6 (pre.length + 1) cap6 (pre.map uV ++ [uV nn]) :: blk B3 26 (cT t (.slice ao lt0 ca)) :: F)
    (fun i => i ≤ p.cells.length) (fun i => p.cells.length - i) 0 (Nat.zero_le _) (by rw [hf0]; exact (by repeat (first | exact K.Sub.nil _ | refine K.Sub.cons rfl ?_))) rfl rfl ?_
  rintro i hi KM hKM
  by_cases hil : i < p.cells.length
  · have hc1 : ef[i]? = some (ef[i]'(by omega)) := List.getElem?_eq_getElem (by omega)
    have hc0 : ef[((i : Nat) : Int).toNat]? = some (ef[i]'(by omega)) := by rw [Int.toNat_natCast]; exact hc1
    have he1 : p.cells[i]? = some p.cells[i] := List.getElem?_eq_getElem hil
    have hx4 := hbg _ (List.getElem_mem hil)
    generalize ef[i]'(by omega) = c at hc0 hc1
    generalize p.cells[i] = x at he1 hx4
    have hcc := hcs i c x hc1 he1
    have hcc0 := hcc
    obtain ⟨hkl, hdl, ao3, ca3, rfl, hbv⟩ := hcc
    have hsc := step_cells (s := s) he1
    (repeat' (first | refine X.rq ?_ | (refine X.rc ?_ ?_ <;> intro hc <;> first | (exfalso; omega) | skip)))
    refine K.s_pureE (K.p_indexL hsl (Fx.und rfl) (Fx.sz rfl) rfl rfl (by omega) hc0) rfl ?_
    rintro v2 ⟨b, o, rfl, hcel⟩
    refine K.s_pure (K.p_loadM (Fx.agg rfl) rfl (Cels.up hcel) (Fx.sz rfl) rfl) rfl ?_
    refine K.l_callV (Fx.cal rfl) rfl (RKey h _ x hcc0 hx4) (K.pp [] rfl) rfl rfl ?_
    simp only [List.set_cons_zero, List.set_cons_succ, List.eraseIdx_cons_zero, List.eraseIdx_cons_succ, List.cons_append, List.nil_append]
    refine K.s_pure (K.p_move rfl) rfl ?_
    refine K.s_pure (K.p_sleq rfl rfl) rfl ?_
    rw [txt_le]
    cases hb : lt8 s (keyOf x) with
    | true =>
      rw [hb, if_pos rfl] at hsc
      (repeat' (first | refine X.rq ?_ | (refine X.rc ?_ ?_ <;> intro hc <;> first | (exfalso; omega) | skip)))
      refine K.a_round hKM (i + 1) (by omega) (by rw [hsc]; exact (by repeat (first | exact K.Sub.nil _ | refine K.Sub.cons rfl ?_))) rfl rfl (by omega)
    | false =>
      rw [hb, if_neg (by simp)] at hsc
      (repeat' (first | refine X.rq ?_ | (refine X.rc ?_ ?_ <;> intro hc <;> first | (exfalso; omega) | skip)))
      refine K.s_pureE (K.p_indexL hsl (Fx.und rfl) (Fx.sz rfl) rfl rfl (by omega) hc0) rfl ?_
      rintro v2 ⟨b, o, rfl, hcel⟩
      refine K.s_pure (K.p_loadM (Fx.agg rfl) rfl (Cels.up hcel) (Fx.sz rfl) rfl) rfl ?_
      refine K.l_callV (Fx.cal rfl) rfl (RChild h _ x hcc0 hx4) (K.pp [] rfl) rfl rfl ?_
      simp only [List.set_cons_zero, List.set_cons_succ, List.eraseIdx_cons_zero, List.eraseIdx_cons_succ, List.cons_append, List.nil_append]
      (repeat' (first | refine X.rq ?_ | (refine X.rc ?_ ?_ <;> intro hc <;> first | (exfalso; omega) | skip)))
      refine K.a_round hKM (i + 1) (by omega) (by rw [hsc]; exact (by repeat (first | exact K.Sub.nil _ | refine K.Sub.cons rfl ?_))) rfl rfl (by omega)
  · obtain rfl : i = p.cells.length := by omega
    have hst : ((kidsQ p).take (p.cells.length + 1)).foldl (stepF s) p.next = stepQ p s := by
      rw [List.take_of_length_le (by simp [kidsQ])]; rfl
    rw [hst]
    (repeat' (first | refine X.rq ?_ | (refine X.rc ?_ ?_ <;> intro hc <;> first | (exfalso; omega) | skip)))
    have e9 : (pre ++ [nn]).map uV = pre.map uV ++ [uV nn] := by simp
    have e8 : (pre ++ [nn]).length = pre.length + 1 := by simp
    refine K.AT.sel [0] rfl ?_
    refine K.a_round hKL ⟨pre ++ [nn], stepQ p s, a6, cap6⟩ ⟨by dsimp only; omega, step_lt hw.next (kids_lt hw hbg), hpn, ?_⟩ (by dsimp only; rw [e8]; exact (by repeat (first | exact K.Sub.nil _ | refine K.Sub.cons rfl ?_))) rfl (by dsimp only; rw [e8, e9]; rfl) (by dsimp only; omega)
    dsimp only
    rw [hq, show 7 - pre.length = (7 - (pre ++ [nn]).length) + 1 by omega, way_next hpq h2]
end Go.Proofs.Ytahdbncfegedjaa.Nd
