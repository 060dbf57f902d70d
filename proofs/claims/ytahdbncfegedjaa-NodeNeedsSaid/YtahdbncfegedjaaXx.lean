/-
  Trees of pages: the cells of all leaves; the code's. Conditions: each theorem's own.
-/
import Derived.Test.YtahdbncfegedjaaXw

namespace Go.Proofs.Ytahdbncfegedjaa.Nd
open Go Go.K Go.Proofs Go.Proofs.Ytahdbncfegedjaa Go.Proofs.Ytahdbncfegedjaa.Pg
set_option linter.unusedVariables false
set_option linter.unusedSimpArgs false
set_option maxRecDepth 10000

/-- A row of cells that is its owner's. -/
def RowO (h : Base) (l : List PCell) (v : Value) (H' : List Asrt) : Prop := ∃ a cap es, v = bufV a l.length cap ∧ RowC h es l ∧ H' = [bufA 52 3 a l.length cap es.flatten]
set_option maxHeartbeats 1000000 in
theorem Own (h : Base) (v : Value) (l : List PCell) (hv : CellsV h v l) (hs : small l) : Tr Try.prog 50 [v] h [] (fun u h' H' => RowO h' l u H') := by
  obtain ⟨es, hv, hel, hr⟩ := hv
  obtain ⟨ao, ca, rfl⟩ := hv.len
  rw [hel] at hv ⊢
  have hl400 := hs.1
  refine K.enter Try.func50 rfl (Nat.le_of_ble_eq_true rfl) (fun F => ?_)
  (repeat' (first | refine X.rq ?_ | (refine X.rc ?_ ?_ <;> intro hc <;> first | (exfalso; omega) | skip)))
  refine K.WC.nilBuf 52 3 ?_
  refine K.c_loop (σ := Nat × Option Nat × Nat × List (List Value) × Base) (fun q => [(6, .slice ao l.length ca), (7, .int .i64 l.length), (3, bufV q.2.1 q.1 q.2.2.1), (8, .int .i64 q.1)]) (fun q => q.2.2.2.2)
    (fun q => bufA 52 3 q.2.1 q.1 q.2.2.1 q.2.2.2.1.flatten :: F)
    (fun q => q.1 ≤ l.length ∧ h.le q.2.2.2.2 ∧ RowC q.2.2.2.2 q.2.2.2.1 (l.take q.1)) (fun q => l.length - q.1) (0, none, 0, [], h) ⟨Nat.zero_le _, K.Base.le.refl _, rfl, (fun e he => by cases he), fun j c x hj => by simp at hj⟩ (by repeat (first | exact K.Sub.nil _ | refine K.Sub.cons rfl ?_)) rfl rfl ?_
  rintro ⟨j, a, cap, fs, h1⟩ ⟨hj, hle, hrow⟩ KL hKL
  dsimp only at hj hle hrow ⊢
  have hv1 := hv.le hle
  have hfl : fs.length = j := by rw [hrow.1, List.length_take]; omega
  by_cases hjl : j < l.length
  · have hc1 : es[j]? = some (es[j]'(by omega)) := List.getElem?_eq_getElem (by omega)
    have hc0 : es[((j : Nat) : Int).toNat]? = some (es[j]'(by omega)) := by rw [Int.toNat_natCast]; exact hc1
    have he1 : l[j]? = some l[j] := List.getElem?_eq_getElem hjl
    generalize es[j]'(by omega) = c at hc0 hc1
    have hmem : l[j] ∈ l := List.getElem_mem hjl
    generalize l[j] = x at he1 hmem
    have hd4 := hs.2 x hmem
    obtain ⟨hkl, hdl, ao3, ca3, rfl, hbv⟩ := (hr j c x hc1 he1).le hle
    (repeat' (first | refine X.rq ?_ | (refine X.rc ?_ ?_ <;> intro hc <;> first | (exfalso; omega) | skip)))
    refine K.s_pureE (K.p_indexL hv1 (Fx.und rfl) (Fx.sz rfl) rfl rfl (by omega) hc0) rfl ?_
    rintro v2 ⟨b, o, rfl, hcel⟩
    refine K.s_pure (K.p_loadM (Fx.agg rfl) rfl (Cels.up hcel) (Fx.sz rfl) rfl) rfl ?_
    refine K.l_alloc (Fx.zr rfl) rfl rfl (fun B5 => ?_)
    refine X.stw ?_
    simp only [List.set_cons_zero, List.set_cons_succ, List.eraseIdx_cons_zero, List.eraseIdx_cons_succ, List.cons_append, List.nil_append]
    (repeat' (first | refine X.rq ?_ | (refine X.rc ?_ ?_ <;> intro hc <;> first | (exfalso; omega) | skip)))
    refine K.l_call (Fx.cal rfl) rfl (Clone h1 _ x.data hbv (by omega)) (K.pp [] rfl) rfl ?_
    rintro u h' H' - ⟨e, a2, cap2, rfl, rfl⟩
    obtain rfl := e.symm
    simp only [List.set_cons_zero, List.set_cons_succ, List.eraseIdx_cons_zero, List.eraseIdx_cons_succ, List.cons_append, List.nil_append]
    refine K.WL.freezeBuf (fun h2 le2 hbv2 => ?_)
    obtain ⟨ao4, ca4, e4⟩ : ∃ ao4 ca4, bufV a2 x.data.length cap2 = .slice ao4 x.data.length ca4 := ⟨_, _, rfl⟩
    rw [e4] at hbv2 ⊢
    (repeat' (first | refine X.rq ?_ | (refine X.rc ?_ ?_ <;> intro hc <;> first | (exfalso; omega) | skip)))
    refine X.sto ?_
    simp only [List.set_cons_zero, List.set_cons_succ, List.eraseIdx_cons_zero, List.eraseIdx_cons_succ, List.cons_append, List.nil_append]
    (repeat' (first | refine X.rq ?_ | (refine X.rc ?_ ?_ <;> intro hc <;> first | (exfalso; omega) | skip)))
    refine K.l_buildSlice (Fx.und rfl) (Fx.sz rfl) rfl (Fx.zr rfl) rfl rfl rfl (cs := [.bool x.used, .int .u32 x.killer, .slice ao4 x.data.length ca4]) rfl rfl (fun B6 => ?_)
    refine K.l_append_at 2 rfl (Fx.und rfl) (Fx.und rfl) rfl (Fx.sz rfl) (Fx.zr rfl) rfl (Fx.byt rfl) rfl rfl (K.src_cells (K.cels_own (pre := []) (cs := [.bool x.used, .int .u32 x.killer, .slice ao4 x.data.length ca4]) (post := []) 0 rfl rfl) rfl (by simp [oneCell])) (by omega) (by omega) rfl (fun a6 cap6 => ?_)
    simp only [List.set_cons_zero, List.set_cons_succ, List.eraseIdx_cons_zero, List.eraseIdx_cons_succ, List.cons_append, List.nil_append]
    (repeat' (first | refine X.rq ?_ | (refine X.rc ?_ ?_ <;> intro hc <;> first | (exfalso; omega) | skip)))
    refine K.AT.sel [0, 0] rfl ?_
    refine K.a_round hKL (j + 1, a6, cap6, fs ++ [[.bool x.used, .int .u32 x.killer, .slice ao4 x.data.length ca4]], h2) ⟨by dsimp only; omega, hle.trans le2, ?_⟩ (by repeat (first | exact K.Sub.nil _ | refine K.Sub.cons rfl ?_)) rfl ?_ (by dsimp only; omega)
    · dsimp only
      rw [List.take_add_one, he1]
      exact (hrow.le le2).snoc ⟨hkl, hdl, ao4, ca4, rfl, hbv2⟩
    · simp
  · obtain rfl : j = l.length := by omega
    rw [List.take_length] at hrow
    (repeat' (first | refine X.rq ?_ | (refine X.rc ?_ ?_ <;> intro hc <;> first | (exfalso; omega) | skip)))
    refine K.doneC (vs := [bufV a l.length cap]) (by first | exact Or.inl rfl | exact Or.inr rfl) (.tmp rfl .nil) hle (D := []) (H' := [bufA 52 3 a l.length cap fs.flatten]) rfl ⟨a, cap, fs, rfl, hrow, rfl⟩

theorem row_flat {h : Base} {es : List (List Value)} {l : List PCell} (hr : RowC h es l) : es.flatten.length = l.length * 3 := by
  rw [← hr.1]
  have : ∀ (r : List (List Value)), (∀ e ∈ r, e.length = 3) → r.flatten.length = r.length * 3 := by
    intro r
    induction r with
    | nil => intro _; rfl
    | cons e r ih =>
      intro h
      rw [List.flatten_cons, List.length_append, h e (List.mem_cons_self ..), ih fun x hx => h x (List.mem_cons_of_mem _ hx), List.length_cons]
      omega
  exact this es hr.2.1
theorem row_ones2 {h : Base} {es : List (List Value)} {l : List PCell} (hr : RowC h es l) : ∀ u ∈ es.flatten, oneCell u = true := fun u hu => by
  obtain ⟨e, he, hu⟩ := List.mem_flatten.1 hu
  have := RowC.ones hr e he
  exact List.all_eq_true.1 this u hu
/-! ### All cells -/
def visA (st : List PCell) (n : Nat) (p : Pag) (x : Plc) : Except Int (List PCell) := .ok (if p.kind = 2 then st ++ p.cells else st)
def SeenG (G : Option GetQ) (seen : List Nat) : Prop := seen.Nodup ∧ ∀ n ∈ seen, ∃ p, pageQ G n = .ok p
theorem SeenG.cons {G : Option GetQ} {seen : List Nat} {n : Nat} {p : Pag} (hs : SeenG G seen) (hn : ¬ n ∈ seen) (hp : pageQ G n = .ok p) : SeenG G (n :: seen) := ⟨List.nodup_cons.2 ⟨hn, hs.1⟩, fun m hm => by
  rcases List.mem_cons.1 hm with rfl | hm
  · exact ⟨p, hp⟩
  · exact hs.2 m hm⟩
def AllS (G : Option GetQ) (BL : Nat) (seen : List Nat) (st : List PCell) (h : Base) (A : Asrt) : Prop := SeenG G seen ∧ st.length ≤ 60 * seen.length ∧ ∃ a cap es, RowC h es st ∧ A = all [blk BL 46 [bufV a st.length cap], bufA 52 3 a st.length cap es.flatten]
/-- Of few pages. -/
def FewG (G : Option GetQ) : Prop := ∀ l : List Nat, SeenG G l → l.length ≤ 1000000
set_option maxHeartbeats 1000000 in
theorem AllV (G : Option GetQ) (hG : FewG G) (BL : Nat) (h : Base) (seen : List Nat) (st : List PCell) (A : Asrt) (n : Nat) (p : Pag) (cs : List Value) (x : Plc) (hn : n < 4294967296) (hp : PagC h cs p) (hpq : pageQ G n = .ok p) (hin : ¬ n ∈ seen) (hx : x.deep ≤ 8) (ha : AllS G BL seen st h A) :
    TrX Try.prog 49 ([] ++ [uV n, .agg cs.toArray, .agg (plcV x).toArray] ++ [.pointer (some ⟨BL, 0, none⟩)]) h [A] (fun v h' H' => ∃ st' A', visA st n p x = .ok st' ∧ AllS G BL (n :: seen) st' h' A' ∧ H' = [A']) (UpE (visA st n p x)) := by
  obtain ⟨hsg, hsl, a, cap, es, hrow, rfl⟩ := ha
  have hsg1 := hsg.cons hin hpq
  have hb0 := hG seen hsg
  have hgd := page_good hpq
  have hsm := good_small hgd
  have h60 := (good_data hgd).2.1
  have hp0 := hp
  obtain ⟨hw, cv, rfl, hcv⟩ := hp
  have hcv0 := hcv
  obtain ⟨er, hsr, hrl, hrr⟩ := hcv
  obtain ⟨ao, ca, rfl⟩ := hsr.len
  rw [hrl] at hsr hcv0 ⊢
  refine K.enterX Try.func49 rfl (Nat.le_of_ble_eq_true rfl) (fun F => K.WC.open ?_)

  (repeat' (first | refine X.rq ?_ | (refine X.rc ?_ ?_ <;> intro hc <;> first | (exfalso; omega) | skip)))
  refine K.l_box rfl rfl rfl (fun B5 => ?_)
  refine K.l_box rfl rfl rfl (fun B6 => ?_)
  simp only [List.set_cons_zero, List.set_cons_succ, List.eraseIdx_cons_zero, List.eraseIdx_cons_succ, List.cons_append, List.nil_append]
  (repeat' (first | refine X.rq ?_ | (refine X.rc ?_ ?_ <;> intro hc <;> first | (exfalso; omega) | skip)))
  · have h2 : p.kind = 2 := by assumption
    have hvis : visA st n p x = .ok (st ++ p.cells) := by unfold visA; rw [if_pos h2]
    refine K.WC.np ?_
    refine X.draw ([blk BL 46 [bufV a st.length cap], blk B5 55 (cP p (.slice ao p.cells.length ca))]) [5] (.pu 1 (.st 0 (.st 2 (.on 3 (.on 4 (.cl 5 .nil)))))) ?_ (hQ := by repeat (first | with_reducible refine K.NoPanic.then ?_ | with_reducible refine K.NoPanic.inBlock ?_ | with_reducible exact K.post_noPanic _ _ | exact K.post_noPanic _ _ | exact K.QN_noPanic | exact K.postS_noPanic | exact K.postX_noPanic | exact K.RPX_noPanic))
    refine K.d_pu rfl (fun _ _ => X.fa) rfl ?_
    refine K.d_st rfl X.ld rfl ?_
    refine K.d_st rfl X.ld rfl ?_
    refine K.d_on rfl (fun KK hKK => ?_)
    refine K.l_call (Fx.cal rfl) rfl (Own h _ p.cells hcv0 hsm) (K.pp [] rfl) rfl ?_
    rintro u h4 H' hle4 ⟨a2, cap2, es2, rfl, hrow2, rfl⟩
    simp only [List.nil_append, List.cons_append]
    refine K.l_nil ?_
    refine X.onE hKK ?_
    refine K.d_on rfl (fun KK hKK => ?_)
    refine K.l_append_at 4 rfl (Fx.und rfl) (Fx.und rfl) rfl (Fx.sz rfl) (Fx.zr rfl) rfl (Fx.byt rfl) rfl rfl (K.src_buf 0 rfl (row_ones2 hrow2) (row_flat hrow2)) (by omega) (by omega) rfl (fun a6 cap6 => ?_)
    refine K.l_nil ?_
    refine X.onE hKK ?_
    refine K.d_cl rfl (fun KK hKK => ?_)
    refine X.sto ?_
    refine K.l_nil ?_
    refine K.d_clE hKK ?_
    refine K.d_nil ?_
    refine K.a_qn ?_
    simp only [List.set_cons_zero, List.set_cons_succ, List.eraseIdx_cons_zero, List.eraseIdx_cons_succ, List.cons_append, List.nil_append]
    refine K.AT.sel [0, 0, 0] rfl (K.AT.closed (Hs := [_, _]) (K.pp [0, 0] rfl) ?_)
    refine K.doneXC (vs := []) (by first | exact Or.inl rfl | exact Or.inr rfl) .nil hle4 (D := []) (H' := [_]) rfl ⟨st ++ p.cells, _, hvis, ⟨hsg1, by rw [List.length_cons, List.length_append]; omega, a6, cap6, es ++ es2, RowC.app (hrow.le hle4) hrow2, ?_⟩, rfl⟩
    rw [List.length_append, List.flatten_append]
  · have h2 : ¬ p.kind = 2 := by assumption
    have hvis : visA st n p x = .ok st := by unfold visA; rw [if_neg h2]
    refine K.AT.sel [0, 0] rfl (K.AT.closed (Hs := [_, _]) (K.pp [0, 0] rfl) ?_)
    refine K.doneXC (vs := []) (by first | exact Or.inl rfl | exact Or.inr rfl) .nil (K.Base.le.refl _) (D := []) (H' := [_]) rfl ⟨st, _, hvis, ⟨hsg1, by rw [List.length_cons]; omega, a, cap, es, hrow, rfl⟩, rfl⟩
/-! ### Down from a root -/
def allQ {S : Type} (G : Option GetQ) (vis : S → Nat → Pag → Plc → Except Int S) (st : S) (root : Nat) : Except Int (List Nat × S) := if root = 0 then .error 1 else walkQ G vis 8 ([], st) (root, ⟨1, [], [], false⟩)
set_option maxHeartbeats 1000000 in
theorem GAll {S : Type} (G : Option GetQ) (AS : List Nat → S → Base → Asrt → Prop) (vis : S → Nat → Pag → Plc → Except Int S) (fv : FuncId) (caps : List Value) (hcal : Callable Try.prog fv) (hAS : ∀ seen st h h' A, h.le h' → AS seen st h A → AS seen st h' A)
    (hvis : ∀ h seen st A n p cs x, n < 4294967296 → PagC h cs p → pageQ G n = .ok p → ¬ n ∈ seen → x.deep ≤ 8 → AS seen st h A → TrX Try.prog fv ([] ++ [uV n, .agg cs.toArray, .agg (plcV x).toArray] ++ caps) h [A] (fun v h' H' => ∃ st' A', vis st n p x = .ok st' ∧ AS (n :: seen) st' h' A' ∧ H' = [A']) (UpE (vis st n p x)))
    (h : Base) (gv : Value) (root : Nat) (st : S) (A : Asrt) (hg : GetV h gv G) (hr : root < 4294967296) (ha : AS [] st h A) :
    TrX Try.prog 43 [gv, uV root, .func (.func fv) #[] caps.toArray] h [A] (fun v h' H' => ∃ q A', allQ G vis st root = .ok q ∧ AS q.1 q.2 h' A' ∧ H' = [A']) (UpE (allQ G vis st root)) := by
  refine K.enterX Try.func43 rfl (Nat.le_of_ble_eq_true rfl) (fun F => ?_)
  by_cases h0 : root = 0
  · have hq : allQ G vis st root = .error 1 := by rw [allQ, if_pos h0]
    (repeat' (first | refine X.rq ?_ | (refine X.rc ?_ ?_ <;> intro hc <;> first | (exfalso; omega) | skip)))
    refine K.l_callX (Fx.cal rfl) rfl (Need h _ 1) (K.pp [] rfl) rfl ?_ ?_
    · rintro v h' H' hle ⟨e, rfl, e1, rfl⟩
      obtain rfl := e.symm
      repeat (first | with_reducible refine K.a_then_panic ?_ | with_reducible refine K.a_block_panic ?_)
      exact K.upXD (D := [_]) (H' := []) (K.Base.le.refl _) rfl ⟨rfl, 1, rfl, hq⟩
    rintro v h' H' - ⟨e, rfl, e1⟩
    have e1 := of_decide_eq_true e1
    omega
  · have hq : allQ G vis st root = walkQ G vis 8 ([], st) (root, ⟨1, [], [], false⟩) := by rw [allQ, if_neg h0]
    (repeat' (first | refine X.rq ?_ | (refine X.rc ?_ ?_ <;> intro hc <;> first | (exfalso; omega) | skip)))
    refine K.l_callX (Fx.cal rfl) rfl (Need h _ 1) (K.pp [] rfl) rfl ?_ ?_
    · rintro v h' H' hle ⟨e, rfl, e1, rfl⟩
      have e1 := of_decide_eq_false e1
      omega
    rintro v h' H' - ⟨e, rfl, e1⟩
    obtain rfl := e.symm
    simp only [List.set_cons_zero, List.set_cons_succ, List.eraseIdx_cons_zero, List.eraseIdx_cons_succ, List.cons_append, List.nil_append]
    (repeat' (first | refine X.rq ?_ | (refine X.rc ?_ ?_ <;> intro hc <;> first | (exfalso; omega) | skip)))
    refine K.l_makeMap (kk := .u32) rfl (fun b1 => ?_)
    (repeat' (first | refine X.rq ?_ | (refine X.rc ?_ ?_ <;> intro hc <;> first | (exfalso; omega) | skip)))
    refine K.l_callX (Fx.cal rfl) rfl (Walk G AS vis fv caps hcal hAS hvis gv b1 8 h root ⟨1, [], [], false⟩ [] 0 [] st A rfl hg hr SeenM.nil ha) (K.pp [0, 0] rfl) rfl ?_ ?_
    · rintro v h' H' hle ⟨rfl, e, rfl, he⟩
      repeat (first | with_reducible refine K.a_then_panic ?_ | with_reducible refine K.a_block_panic ?_)
      exact K.upXD (D := []) (H' := []) hle rfl ⟨rfl, e, rfl, hq.trans he⟩
    rintro v h' H' hle ⟨q, he, -, ha', rfl⟩
    simp only [List.set_cons_zero, List.set_cons_succ, List.eraseIdx_cons_zero, List.eraseIdx_cons_succ, List.cons_append, List.nil_append]
    (repeat' (first | refine X.rq ?_ | (refine X.rc ?_ ?_ <;> intro hc <;> first | (exfalso; omega) | skip)))
    refine K.AT.drop ?_
    exact K.doneXC (vs := []) (by first | exact Or.inl rfl | exact Or.inr rfl) .nil hle (D := []) (H' := [_]) rfl ⟨(q.seen, q.st), q.A, hq.trans he, ha', rfl⟩

/-! ### The cells of all leaves -/
def cellsQ (G : Option GetQ) (root : Nat) : Except Int (List PCell) := match allQ G visA [] root with
  | .error e => .error e
  | .ok q => .ok q.2
set_option maxHeartbeats 1000000 in
theorem AllC (h : Base) (gv : Value) (G : Option GetQ) (hG : FewG G) (root : Nat) (B0 B1 : Nat) (hg : GetV h gv G) (hr : root < 4294967296) :
    TrX Try.prog 48 [.pointer (some ⟨B0, 0, none⟩), .pointer (some ⟨B1, 0, none⟩)] h [blk B0 61 [gv], blk B1 23 [uV root]]
      (fun v h' H' => ∃ l, cellsQ G root = .ok l ∧ RowO h' l v H') (UpE (cellsQ G root)) := by
  refine K.enterX Try.func48 rfl (Nat.le_of_ble_eq_true rfl) (fun F => ?_)
  simp only [List.cons_append, List.nil_append]
  (repeat' (first | refine X.rq ?_ | (refine X.rc ?_ ?_ <;> intro hc <;> first | (exfalso; omega) | skip)))
  refine K.l_alloc (Fx.zr rfl) rfl rfl (fun BL => ?_)
  (repeat' (first | refine X.rq ?_ | (refine X.rc ?_ ?_ <;> intro hc <;> first | (exfalso; omega) | skip)))
  refine K.s_pure (K.p_makeFunc rfl) rfl ?_
  refine K.WL.nilBuf 52 3 ?_
  refine K.WL.perm (K.pp [1] rfl) ?_
  refine K.WL.close [_, _] ?_
  refine K.l_callX (Fx.cal rfl) rfl (GAll G (AllS G BL) visA 49 _ (Fx.cal rfl) (fun seen st h h' A hle ⟨a, b, c, d, e, f, g⟩ => ⟨a, b, c, d, e, f.le hle, g⟩) (fun h seen st A n p cs x a b c d e f => AllV G hG BL h seen st A n p cs x a b c d e f) h gv root [] _ hg hr ⟨⟨List.nodup_nil, fun n hn => by cases hn⟩, Nat.le_refl _, none, 0, [], ⟨rfl, (fun e he => by cases he), fun j c x hj => by simp at hj⟩, rfl⟩) (K.pp [0] rfl) rfl ?_ ?_
  · rintro v h' H' hle ⟨rfl, e, rfl, he⟩
    repeat (first | with_reducible refine K.a_then_panic ?_ | with_reducible refine K.a_block_panic ?_)
    exact K.upXD (D := [_, _]) (H' := []) hle rfl ⟨rfl, e, rfl, by rw [cellsQ, he]⟩
  rintro v h' H' hle ⟨q, A', he, ⟨hsg, hsl, a, cap, es, hrow, rfl⟩, rfl⟩
  simp only [List.set_cons_zero, List.set_cons_succ, List.eraseIdx_cons_zero, List.eraseIdx_cons_succ, List.cons_append, List.nil_append]
  refine K.WL.open ?_
  simp only [List.set_cons_zero, List.set_cons_succ, List.eraseIdx_cons_zero, List.eraseIdx_cons_succ, List.cons_append, List.nil_append]
  (repeat' (first | refine X.rq ?_ | (refine X.rc ?_ ?_ <;> intro hc <;> first | (exfalso; omega) | skip)))
  refine K.AT.sel [0, 1, 1] rfl ?_
  exact K.doneXC (vs := [bufV a q.2.length cap]) (by first | exact Or.inl rfl | exact Or.inr rfl) (.tmp rfl .nil) hle (D := []) (H' := [_]) rfl ⟨q.2, by rw [cellsQ, he], a, cap, es, rfl, hrow, rfl⟩
def CellsR (r : Except Int (List PCell)) (v : Value) (h' : Base) (H' : List Asrt) : Prop := ∃ (u : Value) (l : List PCell) (e : Int), v = .tuple #[u, .int .i64 e] ∧ RowO h' l u H' ∧ ((r = .ok l ∧ e = 0) ∨ (r = .error e ∧ l = []))
set_option maxHeartbeats 1000000 in
theorem All (h : Base) (gv : Value) (G : Option GetQ) (hG : FewG G) (root : Nat) (hg : GetV h gv G) (hr : root < 4294967296) :
    Tr Try.prog 19 [gv, uV root] h [] (fun v h' H' => CellsR (cellsQ G root) v h' H') := by
  have h1 := hg.one
  refine K.enter Try.func19 rfl (Nat.le_of_ble_eq_true rfl) (fun F => ?_)
  (repeat' (first | refine X.rq ?_ | (refine X.rc ?_ ?_ <;> intro hc <;> first | (exfalso; omega) | skip)))
  refine K.l_box rfl h1 rfl (fun B0 => ?_)
  refine K.l_box rfl rfl rfl (fun B1 => ?_)
  simp only [List.set_cons_zero, List.set_cons_succ, List.eraseIdx_cons_zero, List.eraseIdx_cons_succ, List.cons_append, List.nil_append]
  (repeat' (first | refine X.rq ?_ | (refine X.rc ?_ ?_ <;> intro hc <;> first | (exfalso; omega) | skip)))
  refine K.s_pure (K.p_makeFunc rfl) rfl ?_
  have ht := TryC h 48 _ _ _ _ (Fx.cal rfl) (fun l u h' H' ⟨a, cap, es, e, _⟩ => ⟨_, _, _, e⟩) (AllC h gv G hG root B0 B1 hg hr)
  refine K.l_call (F := F) (Fx.cal rfl) rfl ht (K.pp [1, 0] rfl) rfl ?_
  rintro v h' H' hle (⟨l, u, hr, rfl, a, cap, es, rfl, hrow, rfl⟩ | ⟨e, hr, rfl, rfl⟩)
  · simp only [List.set_cons_zero, List.set_cons_succ, List.eraseIdx_cons_zero, List.eraseIdx_cons_succ, List.cons_append, List.nil_append]
    (repeat' (first | refine X.rq ?_ | (refine X.rc ?_ ?_ <;> intro hc <;> first | (exfalso; omega) | skip)))
    exact K.doneC (vs := [bufV a l.length cap, .int .i64 0]) (by first | exact Or.inl rfl | exact Or.inr rfl) (.tmp rfl (.tmp rfl .nil)) hle (D := []) (H' := [_]) rfl ⟨_, l, 0, rfl, ⟨a, cap, es, rfl, hrow, rfl⟩, .inl ⟨hr, rfl⟩⟩
  · simp only [List.set_cons_zero, List.set_cons_succ, List.eraseIdx_cons_zero, List.eraseIdx_cons_succ, List.cons_append, List.nil_append]
    (repeat' (first | refine X.rq ?_ | (refine X.rc ?_ ?_ <;> intro hc <;> first | (exfalso; omega) | skip)))
    refine K.AT.nilBuf 52 3 ?_
    exact K.doneC (vs := [.slice none 0 0, .int .i64 e]) (by first | exact Or.inl rfl | exact Or.inr rfl) (.tmp rfl (.tmp rfl .nil)) hle (D := []) (H' := [_]) rfl ⟨_, [], e, rfl, ⟨none, 0, [], rfl, ⟨rfl, (fun e he => by cases he), fun j c x hj => by simp at hj⟩, rfl⟩, .inr ⟨hr, rfl⟩⟩
end Go.Proofs.Ytahdbncfegedjaa.Nd
