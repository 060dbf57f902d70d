/-
  What the statements on expressions lend; the program is awake. Conditions: each theorem's own.
-/
import Derived.Test.YtmkhejdamjibgaaEh

namespace Go.Proofs.Ytmkhejdamjibgaa.Rw
open Go Go.K Go.Proofs Go.Proofs.Ytmkhejdamjibgaa
set_option linter.unusedVariables false
set_option linter.unusedSimpArgs false
set_option maxRecDepth 10000

theorem flat_map (r : List Val) : ∀ e ∈ r.map cV, e.length = 3 := fun e he => by
  obtain ⟨v, _, rfl⟩ := List.mem_map.1 he
  rfl
def markV : Val := ⟨77, 0, ⟨#[]⟩⟩
/-- A row in memory of its own, with a mark behind it. -/
def Lent {α : Type} (f : α → List Value) (mark : α) (l : List α) (v : Value) (h' : Base) (H' : List Asrt) : Prop :=
  H' = [] ∧ ∃ ao cap, v = .slice ao l.length cap ∧ l.length + 1 ≤ cap ∧ SL h' 3 (.slice ao (l.length + 1) cap) ((l ++ [mark]).map f)
theorem ones_V (l : List Val) : ∀ e ∈ l.map cV, ones e = true := fun e he => by
  obtain ⟨c, _, rfl⟩ := List.mem_map.1 he
  rfl
theorem lent_cV (h : Base) (v : Value) (l : List Val) (hv : SL h 3 v (l.map cV)) (hl : l.length * 32 ≤ 140737488351232) : Tr Try.prog 11 [v] h [] (Lent cV markV l) := by
  have hlen : (l.map cV).length = l.length := List.length_map ..
  have hlen2 : ((l ++ [markV]).map cV).length = l.length + 1 := by simp
  refine K.enter Try.func11 rfl (Nat.le_of_ble_eq_true rfl) (fun F => ?_)
  simp only [List.nil_append]
  (repeat' (first | refine X.rq ?_ | (refine X.rc ?_ ?_ <;> intro hc <;> first | (exfalso; omega) | skip)))
  refine K.l_buildSlice (Fx.und rfl) (Fx.sz rfl) rfl (Fx.zr rfl) rfl rfl rfl rfl rfl (fun B => ?_)
  refine K.WL.bufOf (m := 0) (s := 3) rfl (by unfold maxLen; omega) ?_
  (repeat' (first | refine X.rq ?_ | (refine X.rc ?_ ?_ <;> intro hc <;> first | (exfalso; omega) | skip)))
  refine K.l_append_at 0 rfl (Fx.und rfl) (Fx.und rfl) rfl (Fx.sz rfl) (Fx.zr rfl) rfl (Fx.byt rfl) rfl rfl (hv.src (ones_V l)) (by rw [hlen]; omega) (by rw [hlen]; omega) rfl (fun a1 cap1 => ?_)
  simp only [List.set_cons_zero, List.set_cons_succ, List.eraseIdx_cons_zero, List.eraseIdx_cons_succ, List.cons_append, List.nil_append]
  rw [Nat.zero_add, hlen]
  (repeat' (first | refine X.rq ?_ | (refine X.rc ?_ ?_ <;> intro hc <;> first | (exfalso; omega) | skip)))
  refine K.l_buildSlice (Fx.und rfl) (Fx.sz rfl) rfl (Fx.zr rfl) rfl rfl rfl (cs := cV markV) rfl rfl (fun B2 => ?_)
  refine K.l_append_at 1 rfl (Fx.und rfl) (Fx.und rfl) rfl (Fx.sz rfl) (Fx.zr rfl) rfl (Fx.byt rfl) rfl rfl (K.src_cells (K.cels_own (pre := []) (cs := cV markV) (post := []) 0 rfl rfl) rfl (by simp [cV, oneCell])) (by omega) (by omega) rfl (fun a2 cap2 => ?_)
  simp only [List.set_cons_zero, List.set_cons_succ, List.eraseIdx_cons_zero, List.eraseIdx_cons_succ, List.cons_append, List.nil_append]
  have e2 : (cellsL [] ++ (l.map cV).flatten) ++ cV markV = ((l ++ [markV]).map cV).flatten := by simp [cellsL]
  rw [e2]
  refine K.WL.perm (K.pp [1] rfl) ?_
  simp only [List.set_cons_zero, List.set_cons_succ, List.eraseIdx_cons_zero, List.eraseIdx_cons_succ, List.cons_append, List.nil_append]
  rw [← hlen2]
  refine K.WL.freezeRow (flat_map _) (fun h1 le1 hsl hcap => ?_)
  obtain ⟨b, rfl⟩ : ∃ b, a2 = some b := by
    rcases hsl with ⟨ao', c', e, e'⟩ | ⟨b, o, c', e, _⟩
    · rw [e'] at hlen2; simp at hlen2
    · cases a2 with
      | none => cases e
      | some b => exact ⟨b, rfl⟩
  rw [hlen2] at hsl hcap ⊢
  obtain ⟨ao, ca, rfl⟩ := hv.len
  rw [hlen]
  (repeat' (first | refine X.rq ?_ | (refine X.rc ?_ ?_ <;> intro hc <;> first | (exfalso; omega) | skip)))
  refine K.s_pure (K.p_sliceU (q := l.length) (Fx.und rfl) (Fx.sz rfl) rfl rfl rfl (by omega)) rfl ?_
  (repeat' (first | refine X.rq ?_ | (refine X.rc ?_ ?_ <;> intro hc <;> first | (exfalso; omega) | skip)))
  refine K.AT.drop ?_
  refine K.done (by first | exact Or.inl rfl | exact Or.inr rfl) rfl le1 (H' := []) rfl ⟨rfl, _, _, rfl, hcap, hsl⟩

theorem Num (h : Base) (n : Int) : TrV Try.prog 18 [.int .i64 n] h [] (.agg (cV (vI n)).toArray) [] := by
  refine K.enter Try.func18 rfl (Nat.le_of_ble_eq_true rfl) (fun F => ?_)
  (repeat' (first | refine X.rq ?_ | (refine X.rc ?_ ?_ <;> intro hc <;> first | (exfalso; omega) | skip)))
  refine K.l_alloc (Fx.zr rfl) rfl rfl (fun B => ?_)
  (repeat' (first | refine X.rq ?_ | (refine X.rc ?_ ?_ <;> intro hc <;> first | (exfalso; omega) | skip)))
  refine X.stw ?_
  (repeat' (first | refine X.rq ?_ | (refine X.rc ?_ ?_ <;> intro hc <;> first | (exfalso; omega) | skip)))
  refine K.doneC (by first | exact Or.inl rfl | exact Or.inr rfl) (.cell rfl (Fx.agg rfl) (Fx.sz rfl) (by first | exact K.cels_own (pre := []) (post := []) 0 rfl rfl | exact K.cels_own (pre := []) (post := []) 1 rfl rfl | exact K.cels_own (pre := []) (post := []) 2 rfl rfl | exact K.cels_own (pre := []) (post := []) 3 rfl rfl | exact K.cels_own (pre := []) (post := []) 4 rfl rfl | exact K.cels_own (pre := []) (post := []) 5 rfl rfl) .nil) (by first | exact K.Base.le.refl _ | assumption) (D := [_]) (H' := []) rfl ⟨rfl, rfl, rfl⟩
def cCol (n : Int) : List Value := cE 3 vN ⟨#[]⟩ ⟨#[]⟩ n (.slice none 0 0)
def cOne (n : Int) : List Value := cE 1 (vI n) ⟨#[]⟩ ⟨#[]⟩ 0 (.slice none 0 0)
def xCol (n : Int) : Ex := .mk 3 vN ⟨#[]⟩ ⟨#[]⟩ n []
def xOne (n : Int) : Ex := .mk 1 (vI n) ⟨#[]⟩ ⟨#[]⟩ 0 []
def xTwo (op : Int) (a b : Ex) : Ex := .mk op vN ⟨#[]⟩ ⟨#[]⟩ 0 [a, b]
theorem ColE (h : Base) (n : Int) : TrV Try.prog 20 [.int .i64 n] h [] (.agg (cCol n).toArray) [] := by
  refine K.enter Try.func20 rfl (Nat.le_of_ble_eq_true rfl) (fun F => ?_)
  (repeat' (first | refine X.rq ?_ | (refine X.rc ?_ ?_ <;> intro hc <;> first | (exfalso; omega) | skip)))
  refine K.l_alloc (Fx.zr rfl) rfl rfl (fun B => ?_)
  (repeat' (first | refine X.rq ?_ | (refine X.rc ?_ ?_ <;> intro hc <;> first | (exfalso; omega) | skip)))
  refine X.stw ?_
  (repeat' (first | refine X.rq ?_ | (refine X.rc ?_ ?_ <;> intro hc <;> first | (exfalso; omega) | skip)))
  refine K.doneC (by first | exact Or.inl rfl | exact Or.inr rfl) (.cell rfl (Fx.agg rfl) (Fx.sz rfl) (by first | exact K.cels_own (pre := []) (post := []) 0 rfl rfl | exact K.cels_own (pre := []) (post := []) 1 rfl rfl | exact K.cels_own (pre := []) (post := []) 2 rfl rfl | exact K.cels_own (pre := []) (post := []) 3 rfl rfl | exact K.cels_own (pre := []) (post := []) 4 rfl rfl | exact K.cels_own (pre := []) (post := []) 5 rfl rfl) .nil) (by first | exact K.Base.le.refl _ | assumption) (D := [_]) (H' := []) rfl ⟨rfl, rfl, rfl⟩
theorem One (h : Base) (n : Int) : TrV Try.prog 21 [.int .i64 n] h [] (.agg (cOne n).toArray) [] := by
  refine K.enter Try.func21 rfl (Nat.le_of_ble_eq_true rfl) (fun F => ?_)
  (repeat' (first | refine X.rq ?_ | (refine X.rc ?_ ?_ <;> intro hc <;> first | (exfalso; omega) | skip)))
  refine K.l_alloc (Fx.zr rfl) rfl rfl (fun B => ?_)
  (repeat' (first | refine X.rq ?_ | (refine X.rc ?_ ?_ <;> intro hc <;> first | (exfalso; omega) | skip)))
  refine K.l_callV (Fx.cal rfl) rfl (Num h n) (K.pp [] rfl) rfl rfl ?_
  simp only [List.nil_append]
  (repeat' (first | refine X.rq ?_ | (refine X.rc ?_ ?_ <;> intro hc <;> first | (exfalso; omega) | skip)))
  refine X.stw ?_
  (repeat' (first | refine X.rq ?_ | (refine X.rc ?_ ?_ <;> intro hc <;> first | (exfalso; omega) | skip)))
  refine K.doneC (by first | exact Or.inl rfl | exact Or.inr rfl) (.cell rfl (Fx.agg rfl) (Fx.sz rfl) (by first | exact K.cels_own (pre := []) (post := []) 0 rfl rfl | exact K.cels_own (pre := []) (post := []) 1 rfl rfl | exact K.cels_own (pre := []) (post := []) 2 rfl rfl | exact K.cels_own (pre := []) (post := []) 3 rfl rfl | exact K.cels_own (pre := []) (post := []) 4 rfl rfl | exact K.cels_own (pre := []) (post := []) 5 rfl rfl) .nil) (by first | exact K.Base.le.refl _ | assumption) (D := [_]) (H' := []) rfl ⟨rfl, rfl, rfl⟩
theorem col_ex (h : Base) (m : Nat) {n : Int} (hn : in64 n) : ExC h (m + 1) (cCol n) (xCol n) := ⟨⟨by decide, good_N.wf, hn⟩, _, [], rfl, .inl ⟨_, _, rfl, rfl⟩, rfl, by decide, fun j c e hc => by simp at hc⟩
theorem one_ex (h : Base) (m : Nat) {n : Int} (hn : in64 n) : ExC h (m + 1) (cOne n) (xOne n) := ⟨⟨by decide, (good_I hn).wf, by decide⟩, _, [], rfl, .inl ⟨_, _, rfl, rfl⟩, rfl, by decide, fun j c e hc => by simp at hc⟩
theorem Two (h : Base) (op : Int) (c n : Int) (hop : in64 op) (hc : in64 c) (hn : in64 n) : Tr Try.prog 19 [.int .i64 op, .agg (cCol c).toArray, .agg (cOne n).toArray] h []
    (fun v h' H' => H' = [] ∧ ∃ av, v = .agg (cE op vN ⟨#[]⟩ ⟨#[]⟩ 0 av).toArray ∧ ExC h' 2 (cE op vN ⟨#[]⟩ ⟨#[]⟩ 0 av) (xTwo op (xCol c) (xOne n))) := by
  refine K.enter Try.func19 rfl (Nat.le_of_ble_eq_true rfl) (fun F => ?_)
  (repeat' (first | refine X.rq ?_ | (refine X.rc ?_ ?_ <;> intro hc <;> first | (exfalso; omega) | skip)))
  refine K.l_box rfl rfl rfl (fun B => ?_)
  refine K.l_box rfl rfl rfl (fun B => ?_)
  refine K.l_alloc (Fx.zr rfl) rfl rfl (fun B => ?_)
  (repeat' (first | refine X.rq ?_ | (refine X.rc ?_ ?_ <;> intro hc <;> first | (exfalso; omega) | skip)))
  refine K.l_buildSlice (Fx.und rfl) (Fx.sz rfl) rfl (Fx.zr rfl) rfl rfl rfl (cs := [cCol c, cOne n].flatten) rfl rfl (fun B => ?_)
  refine K.WL.bufOf (m := 2) (s := 8) rfl (by unfold maxLen; omega) ?_
  refine K.WL.freezeRow (es := [cCol c, cOne n]) (fun e he => by
    simp only [List.mem_cons, List.not_mem_nil, or_false] at he
    rcases he with rfl | rfl <;> rfl) (fun h1 le1 hsl hcap => ?_)
  (repeat' (first | refine X.rq ?_ | (refine X.rc ?_ ?_ <;> intro hc <;> first | (exfalso; omega) | skip)))
  refine X.stw ?_
  (repeat' (first | refine X.rq ?_ | (refine X.rc ?_ ?_ <;> intro hc <;> first | (exfalso; omega) | skip)))
  refine K.doneC (by first | exact Or.inl rfl | exact Or.inr rfl) (.cell rfl (Fx.agg rfl) (Fx.sz rfl) (K.cels_own (pre := []) (post := []) 0 rfl rfl) .nil) le1 (D := [_, _, _]) (H' := []) rfl ⟨rfl, _, rfl, ?_⟩
  refine ⟨⟨hop, good_N.wf, by decide⟩, _, _, rfl, hsl, rfl, Nat.le_of_ble_eq_true rfl, fun j c e h1 h2 => ?_⟩
  match j, h1, h2 with
  | 0, h1, h2 => cases h1; cases h2; exact col_ex _ 0 hc
  | 1, h1, h2 => cases h1; cases h2; exact one_ex _ 0 hn
  | j + 2, h1, h2 => simp at h1
def awR : List Val := [vI 2, ⟨2, 0, ⟨#[120]⟩⟩]
theorem awR_wf : ∀ c ∈ awR, wfV c := fun c hc => by
  have : goodV c := by revert c; unfold goodV in64; decide +kernel
  exact this.wf
theorem aw1 : evalQ awR (xTwo 8 (xCol 0) (xOne 1)) = (vI 3, 0) := by decide +kernel
theorem aw2 : evalQ awR (xTwo 11 (xCol 0) (xOne 0)) = (vN, 32) := by decide +kernel
theorem aw3 : holdsQ awR [xTwo 14 (xCol 0) (xOne 2)] = (true, 0) := by decide +kernel
theorem aw4 : rightQ 2 (xCol 1) = true := by decide +kernel
theorem aw5 : safeQ (xCol 1) = true := by decide +kernel
set_option maxHeartbeats 2000000 in
theorem awake (h : Base) : Tr Try.prog 8 [] h [] (fun v h' H' => v = .bool true ∧ H' = []) := by
  refine K.enter Try.func8 rfl (Nat.le_of_ble_eq_true rfl) (fun F => ?_)
  simp only [List.nil_append]
  (repeat' (first | refine X.rq ?_ | (refine X.rc ?_ ?_ <;> intro hc <;> first | (exfalso; omega) | skip)))
  refine K.l_callV (Fx.cal rfl) rfl (Num h 2) (K.pp [] rfl) rfl rfl ?_
  simp only [List.nil_append]
  (repeat' (first | refine X.rq ?_ | (refine X.rc ?_ ?_ <;> intro hc <;> first | (exfalso; omega) | skip)))
  refine K.l_buildSlice (Fx.und rfl) (Fx.sz rfl) rfl (Fx.zr rfl) rfl rfl rfl (cs := (awR.map cV).flatten) rfl rfl (fun B => ?_)
  refine K.WL.bufOf (m := 2) (s := 3) rfl (by unfold maxLen; omega) ?_
  refine K.WL.freezeRow (es := awR.map cV) (flat_map _) (fun h1 le1 hrow hcap => ?_)
  (repeat' (first | refine X.rq ?_ | (refine X.rc ?_ ?_ <;> intro hc <;> first | (exfalso; omega) | skip)))
  refine K.l_callV (Fx.cal rfl) rfl (ColE h1 0) (K.pp [] rfl) rfl rfl ?_
  simp only [List.nil_append]
  refine K.l_callV (Fx.cal rfl) rfl (One h1 1) (K.pp [] rfl) rfl rfl ?_
  simp only [List.nil_append]
  refine K.l_call (Fx.cal rfl) rfl (Two h1 8 0 1 (by decide) (by decide) (by decide)) (K.pp [] rfl) rfl ?_
  rintro w h2 H' le2 ⟨rfl, av, rfl, hex⟩
  simp only [List.nil_append]
  have hrow := hrow.le le2
  (repeat' (first | refine X.rq ?_ | (refine X.rc ?_ ?_ <;> intro hc <;> first | (exfalso; omega) | skip)))
  refine K.l_callV (Fx.cal rfl) rfl (Eval 2 h2 _ _ (bufV (some B) 2 2) awR hex hrow awR_wf (by decide)) (K.pp [] rfl) rfl rfl ?_
  simp only [List.nil_append]
  rw [aw1]
  (repeat' (first | refine X.rq ?_ | (refine X.rc ?_ ?_ <;> intro hc <;> first | (exfalso; omega) | skip)))
  refine K.l_alloc (Fx.zr rfl) rfl rfl (fun B2 => ?_)
  refine X.stw ?_
  (repeat' (first | refine X.rq ?_ | (refine X.rc ?_ ?_ <;> intro hc <;> first | (exfalso; omega) | skip)))
  refine K.l_callV (Fx.cal rfl) rfl (ColE h2 0) (K.pp [] rfl) rfl rfl ?_
  simp only [List.nil_append]
  refine K.l_callV (Fx.cal rfl) rfl (One h2 0) (K.pp [] rfl) rfl rfl ?_
  simp only [List.nil_append]
  refine K.l_call (Fx.cal rfl) rfl (Two h2 11 0 0 (by decide) (by decide) (by decide)) (K.pp [] rfl) rfl ?_
  rintro w h3 H' le3 ⟨rfl, av2, rfl, hex2⟩
  simp only [List.nil_append]
  have hrow := hrow.le le3
  (repeat' (first | refine X.rq ?_ | (refine X.rc ?_ ?_ <;> intro hc <;> first | (exfalso; omega) | skip)))
  refine K.l_callV (Fx.cal rfl) rfl (Eval 2 h3 _ _ (bufV (some B) 2 2) awR hex2 hrow awR_wf (by decide)) (K.pp [] rfl) rfl rfl ?_
  simp only [List.nil_append]
  rw [aw2]
  (repeat' (first | refine X.rq ?_ | (refine X.rc ?_ ?_ <;> intro hc <;> first | (exfalso; omega) | skip)))
  refine K.l_alloc (Fx.zr rfl) rfl rfl (fun B3 => ?_)
  refine X.stw ?_
  (repeat' (first | refine X.rq ?_ | (refine X.rc ?_ ?_ <;> intro hc <;> first | (exfalso; omega) | skip)))
  refine K.l_callV (Fx.cal rfl) rfl (ColE h3 0) (K.pp [] rfl) rfl rfl ?_
  simp only [List.nil_append]
  refine K.l_callV (Fx.cal rfl) rfl (One h3 2) (K.pp [] rfl) rfl rfl ?_
  simp only [List.nil_append]
  refine K.l_call (Fx.cal rfl) rfl (Two h3 14 0 2 (by decide) (by decide) (by decide)) (K.pp [] rfl) rfl ?_
  rintro w h4 H' le4 ⟨rfl, av3, rfl, hex3⟩
  simp only [List.nil_append]
  have hrow := hrow.le le4
  (repeat' (first | refine X.rq ?_ | (refine X.rc ?_ ?_ <;> intro hc <;> first | (exfalso; omega) | skip)))
  refine K.l_buildSlice (Fx.und rfl) (Fx.sz rfl) rfl (Fx.zr rfl) rfl rfl rfl (cs := [cE 14 vN ⟨#[]⟩ ⟨#[]⟩ 0 av3].flatten) rfl rfl (fun B4 => ?_)
  refine K.WL.bufOf (m := 1) (s := 8) rfl (by unfold maxLen; omega) ?_
  refine K.WL.freezeRow (es := [cE 14 vN ⟨#[]⟩ ⟨#[]⟩ 0 av3]) (fun e he => by
    simp only [List.mem_cons, List.not_mem_nil, or_false] at he
    rcases he with rfl <;> rfl) (fun h5 le5 hls hcap5 => ?_)
  have hrow := hrow.le le5
  have hls : LsC h5 2 (bufV (some B4) 1 1) [xTwo 14 (xCol 0) (xOne 2)] := ⟨_, hls, rfl, by decide, fun j c e h1 h2 => by
    match j, h1, h2 with
    | 0, h1, h2 => cases h1; cases h2; exact hex3.le le5
    | j + 1, h1, h2 => simp at h1⟩
  (repeat' (first | refine X.rq ?_ | (refine X.rc ?_ ?_ <;> intro hc <;> first | (exfalso; omega) | skip)))
  refine K.l_callV (Fx.cal rfl) rfl (HoldsE 2 h5 (bufV (some B4) 1 1) (bufV (some B) 2 2) _ awR hls hrow awR_wf (by decide)) (K.pp [] rfl) rfl rfl ?_
  simp only [List.nil_append]
  rw [aw3]
  (repeat' (first | refine X.rq ?_ | (refine X.rc ?_ ?_ <;> intro hc <;> first | (exfalso; omega) | skip)))
  refine X.draw ([blk B3 23 (cV vN), blk B2 23 (cV (vI 3))]) [] (.st 0 (.on 1 (.pu 2 (.pu 3 (.pu 4 (.pu 5 (.pu 6 (.pu 7 (.pu 8 (.pu 9 (.pu 10 (.pu 11 (.pu 12 (.pu 13 (.pu 14 (.pu 15 (.pu 16 (.pu 17 (.pu 18 (.on 19 (.on 20 (.pu 21 (.pu 22 (.on 23 (.on 24 (.pu 25 (.pu 26 .nil))))))))))))))))))))))))))) ?_
  refine K.d_st rfl (K.p_loadW 1 rfl rfl (Fx.agg rfl) (Fx.sz rfl)) rfl ?_
  refine K.d_on rfl (fun KK hKK => ?_)
  refine K.l_callV (Fx.cal rfl) rfl (Num h5 3) (K.pp [] rfl) rfl rfl ?_
  simp only [List.nil_append]
  refine K.l_nil ?_
  refine X.onE hKK ?_
  refine K.d_pu rfl (fun _ _ => X.beql) rfl ?_
  rw [eqV_dec, decide_eq_true (rfl : vI 3 = vI 3)]
  refine K.d_pu rfl (fun _ _ => X.mv) rfl ?_
  first | refine K.d_skip rfl rfl rfl rfl ?_ | refine K.d_skipU rfl rfl rfl rfl rfl ?_ | refine K.d_puG rfl rfl rfl (fun _ _ => X.mv) rfl ?_
  first | refine K.d_skip rfl rfl rfl rfl ?_ | refine K.d_skipU rfl rfl rfl rfl rfl ?_ | refine K.d_puG rfl rfl rfl (fun _ _ => X.beql) rfl ?_
  rw [decide_eq_true (rfl : (0 : Int) = 0)]
  refine K.d_pu rfl (fun _ _ => X.pk) rfl ?_
  refine K.d_pu rfl (fun _ _ => X.mv) rfl ?_
  first | refine K.d_skip rfl rfl rfl rfl ?_ | refine K.d_skipU rfl rfl rfl rfl rfl ?_ | refine K.d_puG rfl rfl rfl (fun _ _ => X.mv) rfl ?_
  first | refine K.d_skip rfl rfl rfl rfl ?_ | refine K.d_skipU rfl rfl rfl rfl rfl ?_ | refine K.d_puG rfl rfl rfl (fun _ _ => X.beql) rfl ?_
  rw [decide_eq_true (rfl : (32 : Int) = 32)]
  refine K.d_pu rfl (fun _ _ => X.pk) rfl ?_
  refine K.d_pu rfl (fun _ _ => X.mv) rfl ?_
  first | refine K.d_skip rfl rfl rfl rfl ?_ | refine K.d_skipU rfl rfl rfl rfl rfl ?_ | refine K.d_puG rfl rfl rfl (fun _ _ => X.mv) rfl ?_
  refine K.d_pu rfl (fun _ _ => X.pk) rfl ?_
  refine K.d_pu rfl (fun _ _ => X.mv) rfl ?_
  first | refine K.d_skip rfl rfl rfl rfl ?_ | refine K.d_skipU rfl rfl rfl rfl rfl ?_ | refine K.d_puG rfl rfl rfl (fun _ _ => X.mv) rfl ?_
  first | refine K.d_skip rfl rfl rfl rfl ?_ | refine K.d_skipU rfl rfl rfl rfl rfl ?_ | refine K.d_puG rfl rfl rfl (fun _ _ => X.beql) rfl ?_
  rw [decide_eq_true (rfl : (0 : Int) = 0)]
  refine K.d_pu rfl (fun _ _ => X.pk) rfl ?_
  refine K.d_pu rfl (fun _ _ => X.mv) rfl ?_
  refine K.d_on rfl (fun KK hKK => ?_)
  refine K.s_take rfl rfl ?_
  refine K.l_callV (Fx.cal rfl) rfl (ColE h5 1) (K.pp [] rfl) rfl rfl ?_
  simp only [List.nil_append]
  refine K.l_nil ?_
  refine X.onE hKK ?_
  refine K.d_on rfl (fun KK hKK => ?_)
  refine K.s_take rfl rfl ?_
  refine K.l_callV (Fx.cal rfl) rfl (Right 1 h5 _ _ 2 (col_ex h5 0 (by decide))) (K.pp [] rfl) rfl rfl ?_
  simp only [List.nil_append]
  rw [aw4]
  refine K.l_nil ?_
  refine X.onE hKK ?_
  refine K.d_pu rfl (fun _ _ => X.pk) rfl ?_
  refine K.d_pu rfl (fun _ _ => X.mv) rfl ?_
  refine K.d_on rfl (fun KK hKK => ?_)
  refine K.s_take rfl rfl ?_
  refine K.l_callV (Fx.cal rfl) rfl (ColE h5 1) (K.pp [] rfl) rfl rfl ?_
  simp only [List.nil_append]
  refine K.l_nil ?_
  refine X.onE hKK ?_
  refine K.d_on rfl (fun KK hKK => ?_)
  refine K.s_take rfl rfl ?_
  refine K.l_callV (Fx.cal rfl) rfl (Safe 1 h5 _ _ (col_ex h5 0 (by decide))) (K.pp [] rfl) rfl rfl ?_
  simp only [List.nil_append]
  rw [aw5]
  refine K.l_nil ?_
  refine X.onE hKK ?_
  refine K.d_pu rfl (fun _ _ => X.pk) rfl ?_
  refine K.d_pu rfl (fun _ _ => X.sg) rfl ?_
  refine K.d_nil ?_
  (repeat' (first | refine X.rq ?_ | (refine X.rc ?_ ?_ <;> intro hc <;> first | (exfalso; omega) | skip)))
  refine K.AT.sel [0, 0] rfl ?_
  refine K.done (by first | exact Or.inl rfl | exact Or.inr rfl) rfl ((((le1.trans le2).trans le3).trans le4).trans le5) (H' := []) rfl ⟨rfl, rfl⟩
end Go.Proofs.Ytmkhejdamjibgaa.Rw
