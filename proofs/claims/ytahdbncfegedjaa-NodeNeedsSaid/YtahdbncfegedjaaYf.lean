/-
  Trees of pages: the document's plan of a Split, and how many fresh pages it wants; the law's walk. Conditions: each theorem's own.
-/
import Derived.Test.YtahdbncfegedjaaYd

namespace Go.Proofs.Ytahdbncfegedjaa.Nd
open Go Go.K Go.Proofs Go.Proofs.Ytahdbncfegedjaa Go.Proofs.Ytahdbncfegedjaa.Pg
set_option linter.unusedVariables false
set_option linter.unusedSimpArgs false
set_option maxRecDepth 10000

theorem RTake (h : Base) (Bw : Nat) (iv : Value) (cnt : Nat) (hc : cnt ≤ 1000000) : Tr Try.prog 92 [.pointer (some ⟨Bw, 0, none⟩)] h [blk Bw 89 (wkV iv (.slice none 0 0) cnt)]
    (fun v h' H' => h' = h ∧ v = uV 0 ∧ H' = [blk Bw 89 (wkV iv (.slice none 0 0) (cnt + 1))]) := by
  refine K.enter Try.func92 rfl (Nat.le_of_ble_eq_true rfl) (fun F => ?_)
  simp only [List.cons_append, List.nil_append]
  (repeat' (first | refine X.rq ?_ | (refine X.rc ?_ ?_ <;> intro hc <;> first | (exfalso; omega) | skip)))
  refine X.sto ?_
  simp only [List.set_cons_zero, List.set_cons_succ, List.eraseIdx_cons_zero, List.eraseIdx_cons_succ, List.cons_append, List.nil_append]
  rw [show (cnt : Int) + 1 = ((cnt + 1 : Nat) : Int) from rfl]
  (repeat' (first | refine X.rq ?_ | (refine X.rc ?_ ?_ <;> intro hc <;> first | (exfalso; omega) | skip)))
  refine X.draw ([blk Bw 89 (wkV iv (.slice none 0 0) (cnt + 1))]) [] (.pu 0 (.pu 1 (.pu 2 (.pu 4 (.pu 5 (.pu 6 (.st 3 (.st 7 (.pu 8 (.pu 9 .nil)))))))))) ?_ (hQ := by repeat (first | with_reducible refine K.NoPanic.then ?_ | with_reducible refine K.NoPanic.inBlock ?_ | with_reducible exact K.post_noPanic _ _ | exact K.post_noPanic _ _ | exact K.QN_noPanic | exact K.postS_noPanic | exact K.postX_noPanic | exact K.RPX_noPanic))
  refine K.d_pu rfl (fun _ _ => X.mv) rfl ?_
  refine K.d_pu rfl (fun _ _ => X.nc) rfl ?_
  refine K.d_pu rfl (fun _ _ => X.fa) rfl ?_
  refine K.d_pu rfl (fun _ _ => X.mv) rfl ?_
  refine K.d_pu rfl (fun _ _ => X.nc) rfl ?_
  refine K.d_pu rfl (fun _ _ => X.fa) rfl ?_
  refine K.d_st rfl X.ld rfl ?_
  refine K.d_st rfl X.ld rfl ?_
  refine K.d_pu rfl (fun _ _ => X.len) rfl ?_
  refine K.d_pu rfl (fun _ _ => X.bgtr) rfl ?_
  refine K.d_nil ?_
  (repeat' (first | refine X.rq ?_ | (refine X.rc ?_ ?_ <;> intro hc <;> first | (exfalso; omega) | skip)))
  refine K.done (by first | exact Or.inl rfl | exact Or.inr rfl) rfl (by first | exact K.Base.le.refl _ | assumption) (H' := [_]) rfl ⟨rfl, rfl, rfl⟩
/-! ### Both halves, cell by cell -/
def skQ (p : Pag) (c : PCell) : Nat := if p.kind = 3 then hfQ p c else posQ p c
def lfI (p : Pag) (c : PCell) (i : Nat) : List PCell := (((rowQ p c).take i).take (hfQ p c)).eraseIdx (skQ p c)
def rtI (p : Pag) (c : PCell) (i : Nat) : List PCell := if skQ p c < hfQ p c then ((rowQ p c).take i).drop (hfQ p c) else (((rowQ p c).take i).drop (hfQ p c)).eraseIdx (skQ p c - hfQ p c)
def rnI (p : Pag) (c : PCell) (i : Nat) : Nat := if p.kind = 3 ∧ hfQ p c < i then childOf (midQ p c) else p.next
theorem er_snoc {α : Type} {l : List α} {x : α} {q : Nat} (h : q ≠ l.length) : (l ++ [x]).eraseIdx q = l.eraseIdx q ++ [x] := by
  rcases Nat.lt_or_ge q l.length with hl | hl
  · rw [List.eraseIdx_append_of_lt_length hl]
  · rw [List.eraseIdx_append_of_length_le hl, List.eraseIdx_of_length_le (l := [x]) (by simp; omega), List.eraseIdx_of_length_le hl]
theorem er_last {α : Type} {l : List α} {x : α} {q : Nat} (h : q = l.length) : (l ++ [x]).eraseIdx q = l.eraseIdx q := by
  subst h
  rw [List.eraseIdx_append_of_length_le (Nat.le_refl _), Nat.sub_self, List.eraseIdx_of_length_le (l := l) (Nat.le_refl _)]
  simp
theorem tk_lt {α : Type} {row : List α} {x : α} {i k : Nat} (hx : row[i]? = some x) (h : i < k) : (row.take (i + 1)).take k = (row.take i).take k ++ [x] := by
  rw [List.take_take, List.take_take, Nat.min_eq_right (by omega), Nat.min_eq_right (by omega), List.take_add_one, hx]; rfl
theorem tk_ge {α : Type} {row : List α} {i k : Nat} (h : k ≤ i) : (row.take (i + 1)).take k = (row.take i).take k := by
  rw [List.take_take, List.take_take, Nat.min_eq_left (by omega), Nat.min_eq_left (by omega)]
theorem dr_lt {α : Type} {row : List α} {i k : Nat} (h : i < k) : (row.take (i + 1)).drop k = (row.take i).drop k := by
  rw [List.drop_of_length_le (by rw [List.length_take]; omega), List.drop_of_length_le (by rw [List.length_take]; omega)]
theorem dr_ge {α : Type} {row : List α} {x : α} {i k : Nat} (hx : row[i]? = some x) (h : k ≤ i) : (row.take (i + 1)).drop k = (row.take i).drop k ++ [x] := by
  have := (List.getElem?_eq_some_iff.1 hx).1
  rw [List.take_add_one, hx, List.drop_append_of_le_length (by rw [List.length_take]; omega)]; rfl
theorem hf_row (p : Pag) (c : PCell) : hfQ p c < (rowQ p c).length := by rw [row_len]; have := (hf_lt (p := p) (c := c)).1; omega
section
variable {p : Pag} {c : PCell} {i : Nat} {x : PCell}
theorem lf_len (hi : i < (rowQ p c).length) : (((rowQ p c).take i).take (hfQ p c)).length = min (hfQ p c) i := by rw [List.length_take, List.length_take]; omega
theorem rt_len (hi : i < (rowQ p c).length) : (((rowQ p c).take i).drop (hfQ p c)).length = i - hfQ p c := by rw [List.length_drop, List.length_take]; omega
theorem lf_skip (hi : i < (rowQ p c).length) (hx : (rowQ p c)[i]? = some x) (hs : i = skQ p c) : lfI p c (i + 1) = lfI p c i ∧ rtI p c (i + 1) = rtI p c i := by
  unfold lfI rtI
  rcases Nat.lt_or_ge i (hfQ p c) with h | h
  · rw [tk_lt hx h, er_last (by rw [lf_len hi]; omega), dr_lt h]
    exact ⟨rfl, rfl⟩
  · rw [tk_ge h, dr_ge hx h, er_last (by rw [rt_len hi]; omega), if_neg (by omega), if_neg (by omega)]
    exact ⟨rfl, rfl⟩
theorem lf_left (hi : i < (rowQ p c).length) (hx : (rowQ p c)[i]? = some x) (hs : i ≠ skQ p c) (h : i < hfQ p c) : lfI p c (i + 1) = lfI p c i ++ [x] ∧ rtI p c (i + 1) = rtI p c i := by
  unfold lfI rtI
  rw [tk_lt hx h, er_snoc (by rw [lf_len hi]; omega), dr_lt h]
  exact ⟨rfl, rfl⟩
theorem lf_right (hi : i < (rowQ p c).length) (hx : (rowQ p c)[i]? = some x) (hs : i ≠ skQ p c) (h : ¬ i < hfQ p c) : lfI p c (i + 1) = lfI p c i ∧ rtI p c (i + 1) = rtI p c i ++ [x] := by
  unfold lfI rtI
  rw [tk_ge (by omega), dr_ge hx (by omega)]
  refine ⟨rfl, ?_⟩
  split
  · rfl
  · rw [er_snoc (by rw [rt_len hi]; omega)]
theorem lf_zero : lfI p c 0 = [] ∧ rtI p c 0 = [] := by unfold lfI rtI; simp
theorem rn_zero (p : Pag) (c : PCell) : rnI p c 0 = p.next := by unfold rnI; rw [if_neg (by omega)]
theorem lf_all (hk : p.kind = 2 ∨ p.kind = 3) : lfI p c (rowQ p c).length = lcQ p c ∧ rtI p c (rowQ p c).length = rcQ p c := by
  have hh := hf_row p c
  unfold lfI rtI lcQ rcQ skQ
  rw [List.take_length]
  rcases hk with hk | hk
  · rw [if_neg (by omega), if_pos hk]
    by_cases hp : posQ p c < hfQ p c
    · rw [if_pos ⟨hk, hp⟩, if_pos hp]; exact ⟨rfl, rfl⟩
    · rw [if_neg (fun h => hp h.2), if_neg hp, List.eraseIdx_of_length_le (by rw [List.length_take]; omega)]
      exact ⟨rfl, rfl⟩
  · rw [if_pos hk, if_neg (by omega), if_neg (Nat.lt_irrefl _), if_neg (by omega), List.eraseIdx_of_length_le (by rw [List.length_take]; omega), Nat.sub_self]
    refine ⟨rfl, ?_⟩
    rw [List.eraseIdx_zero, List.tail_drop]
end

theorem RowC.single {h : Base} {e : List Value} {x : PCell} (hc : CellC h e x) : RowC h [e] [x] := ⟨rfl, fun z hz => by rw [List.mem_singleton.1 hz]; exact CellC.three hc, fun j c y hj hy => by
  cases j with
  | zero => cases hj; cases hy; exact hc
  | succ j => simp at hj⟩
structure RdS where
  i : Nat
  aL : Option Nat
  cL : Nat
  eL : List (List Value)
  aR : Option Nat
  cR : Nat
  eR : List (List Value)
set_option maxHeartbeats 8000000 in
theorem RDivide (h : Base) (Bw n : Nat) (p : Pag) (v : Value) (cc : List Value) (c : PCell) (root : Bool) (a : Option Nat) (cap : Nat) (rows : List (List Value)) (imgs : List PImg) (cnt : Nat)
    (hp : PagC h (cP p v) p) (hc : CellC h cc c) (hd : DivOk p c) (hn : n < 4294967296) (hr : RowsI h rows imgs) (hrl : rows.length ≤ 1000) (hcn : cnt ≤ 1000) (hord : Ord p.kind p.cells c) :
    Tr Try.prog 70 [.pointer (some ⟨Bw, 0, none⟩), uV n, .agg (cP p v).toArray, .agg cc.toArray, .bool root] h [blk Bw 89 (wkV (bufV a rows.length cap) (.slice none 0 0) cnt), bufA 58 5 a rows.length cap rows.flatten]
      (fun u h' H' => ∃ a' cap' rows' cs', u = .agg cs'.toArray ∧ CellC h' cs' (upQ (entQ p c) 0) ∧ RowsI h' rows' (imgs ++ divI n p c root []) ∧
        H' = [blk Bw 89 (wkV (bufV a' rows'.length cap') (.slice none 0 0) (cnt + if root then 2 else 1)), bufA 58 5 a' rows'.length cap' rows'.flatten]) := by
  have hp0 := hp
  have hc0 := hc
  obtain ⟨hw, v', e, hcv⟩ := hp
  obtain rfl : v = v' := by simpa [cP] using e
  clear e
  have hcv0 := hcv
  obtain ⟨es, hs, hel, hcs⟩ := hcv
  obtain ⟨ao, ca, rfl⟩ := hs.len
  rw [hel] at hs hp0 hcv0 ⊢
  obtain ⟨hk2, hd2, ao4, ca4, rfl, hb2⟩ := hc
  have hl60 := hd.len
  have hrow := row_len p c
  have hhf := (hf_lt (p := p) (c := c)).1
  refine K.enter Try.func70 rfl (Nat.le_of_ble_eq_true rfl) (fun F => ?_)
  simp only [List.cons_append, List.nil_append]
  (repeat' (first | refine X.rq ?_ | (refine X.rc ?_ ?_ <;> intro hc <;> first | (exfalso; omega) | skip)))
  refine K.l_box rfl rfl rfl (fun B7 => ?_)
  refine K.l_box rfl rfl rfl (fun B8 => ?_)
  refine K.l_alloc (Fx.zr rfl) rfl rfl (fun B10 => ?_)
  (repeat' (first | refine X.rq ?_ | (refine X.rc ?_ ?_ <;> intro hc <;> first | (exfalso; omega) | skip)))
  refine K.l_call (Fx.cal rfl) rfl (RAmong h p.kind _ p.cells _ c hcv0 hc0 hd.pos (by omega) hd.big hd.cbig hord) (K.pp [] rfl) rfl ?_
  rintro u h1 H' hle1 ⟨rfl, rv, rfl, hrv⟩
  have hrv2 := CellsV.row hrv
  obtain ⟨er, hsr, hrr⟩ := hrv2
  obtain ⟨ar, car, rfl⟩ := hsr.len
  have hrl2 : er.length = p.cells.length + 1 := by rw [hrr.1]; exact hrow
  rw [hrl2] at hsr hrv ⊢
  simp only [List.set_cons_zero, List.set_cons_succ, List.eraseIdx_cons_zero, List.eraseIdx_cons_succ, List.cons_append, List.nil_append]
  (repeat' (first | refine X.rq ?_ | (refine X.rc ?_ ?_ <;> intro hc <;> first | (exfalso; omega) | skip)))
  refine K.l_callV (Fx.cal rfl) rfl (RHalf h1 p.kind _ (rowQ p c) hrv (row_small hd) (by have := hd.pos; omega)) (K.pp [] rfl) rfl rfl ?_
  simp only [List.set_cons_zero, List.set_cons_succ, List.eraseIdx_cons_zero, List.eraseIdx_cons_succ, List.cons_append, List.nil_append]
  have ehf : halfQ p.kind (rowQ p c) = hfQ p c := rfl
  rw [ehf]
  have epos : atQ p.kind p.cells c = posQ p c := rfl
  rw [epos]
  (repeat' (first | refine X.rq ?_ | (refine X.rc ?_ ?_ <;> intro hc <;> first | (exfalso; omega) | skip)))
  refine K.l_alloc (Fx.zr rfl) rfl rfl (fun B14 => ?_)
  refine X.stw ?_
  simp only [List.set_cons_zero, List.set_cons_succ, List.eraseIdx_cons_zero, List.eraseIdx_cons_succ, List.cons_append, List.nil_append]
  (repeat' (first | refine X.rq ?_ | (refine X.rc ?_ ?_ <;> intro hc <;> first | (exfalso; omega) | skip)))
  refine K.l_alloc (Fx.zr rfl) rfl rfl (fun B15 => ?_)
  refine X.stw ?_
  simp only [List.set_cons_zero, List.set_cons_succ, List.eraseIdx_cons_zero, List.eraseIdx_cons_succ, List.cons_append, List.nil_append]
  (repeat' (first | refine X.rq ?_ | (refine X.rc ?_ ?_ <;> intro hc <;> first | (exfalso; omega) | skip)))
  have hmid := mid_at (p := p) (c := c)
  obtain ⟨ecm, hec⟩ : ∃ ecm, er[hfQ p c]? = some ecm := ⟨_, List.getElem?_eq_getElem (by omega)⟩
  have hcm := hrr.2.2 _ ecm _ hec hmid
  have hpos := pos_le p c
  have hbigm : p.kind = 3 → 4 ≤ (midQ p c).data.length := fun h3 => row_big hd h3 _ mid_mem
  have hor := ROrderC h1 p.kind ecm (midQ p c) hcm hbigm
  have h3m := CellC.three hcm
  obtain ⟨bb, oo, rfl, hcx⟩ := hsr.at hec
  refine X.draw ([blk B7 55 (cP p (.slice ao p.cells.length ca))]) [] (.pu 0 (.pu 2 (.pu 3 (.pu 4 (.st 1 (.st 5 (.on 6 (.pu 7 .nil)))))))) ?_ (hQ := by repeat (first | with_reducible refine K.NoPanic.then ?_ | with_reducible refine K.NoPanic.inBlock ?_ | with_reducible exact K.post_noPanic _ _ | exact K.post_noPanic _ _ | exact K.QN_noPanic | exact K.postS_noPanic | exact K.postX_noPanic | exact K.RPX_noPanic))
  refine K.d_pu rfl (fun _ _ => X.fa) rfl ?_
  refine K.d_pu rfl (fun _ _ => X.mv) rfl ?_
  refine K.d_pu rfl (fun _ _ => X.mv) rfl ?_
  refine K.d_pu rfl (fun _ _ => X.ia) rfl ?_
  refine K.d_st rfl X.ld rfl ?_
  refine K.d_st rfl (K.p_loadM (Fx.agg rfl) rfl (Cels.up hcx) (Fx.sz rfl) h3m) rfl ?_
  refine K.d_on rfl (fun KK hKK => ?_)
  refine K.l_callV (Fx.cal rfl) rfl hor (K.pp [] rfl) rfl rfl ?_
  simp only [List.set_cons_zero, List.set_cons_succ, List.eraseIdx_cons_zero, List.eraseIdx_cons_succ, List.cons_append, List.nil_append]
  refine K.l_nil ?_
  refine X.onE hKK ?_
  refine K.d_pu rfl (fun _ _ => X.sg) rfl ?_
  refine K.d_nil ?_
  rw [show keyQ p.kind (midQ p c) = entQ p c from rfl]
  (repeat' (first | refine X.rq ?_ | (refine X.rc ?_ ?_ <;> intro hc <;> first | (exfalso; omega) | skip)))
  refine K.WC.nilBuf 52 3 ?_
  refine K.WC.nilBuf 52 3 ?_
  refine K.WC.sel [5] rfl ?_
  refine K.WC.perm (K.pp [3, 0, 1, 0] rfl) ?_
  simp only [List.cons_append, List.nil_append]
  refine K.c_loop (σ := RdS) (fun q => [(0, .pointer (some ⟨Bw, 0, none⟩)), (1, uV n), (4, .bool root), (7, .pointer (some ⟨B7, 0, none⟩)), (10, .pointer (some ⟨B10, 0, none⟩)), (11, .slice (some ⟨bb, oo, none⟩) (p.cells.length + 1) car), (12, .int .i64 (posQ p c)), (13, .int .i64 (hfQ p c)), (14, .pointer (some ⟨B14, 0, none⟩)), (15, .pointer (some ⟨B15, 0, none⟩)), (16, txt (entQ p c)), (17, .int .i64 q.i)]) (fun _ => h1)
    (fun q => blk B14 55 [.int .i64 p.kind, .int .u64 p.lsn, .int .u32 p.next, bufV q.aL (lfI p c q.i).length q.cL] :: bufA 52 3 q.aL (lfI p c q.i).length q.cL q.eL.flatten :: blk B15 55 [.int .i64 p.kind, .int .u64 (0 : Nat), .int .u32 (rnI p c q.i), bufV q.aR (rtI p c q.i).length q.cR] :: bufA 52 3 q.aR (rtI p c q.i).length q.cR q.eR.flatten :: blk B10 52 [.bool false, .int .u32 0, .slice none 0 0] :: blk B7 55 (cP p (.slice ao p.cells.length ca)) :: blk Bw 89 (wkV (bufV a rows.length cap) (.slice none 0 0) cnt) :: bufA 58 5 a rows.length cap rows.flatten :: F)
    (fun q => q.i ≤ (rowQ p c).length ∧ RowC h1 q.eL (lfI p c q.i) ∧ RowC h1 q.eR (rtI p c q.i)) (fun q => (rowQ p c).length - q.i) ⟨0, none, 0, [], none, 0, []⟩ ⟨Nat.zero_le _, by rw [lf_zero.1]; exact ⟨rfl, (fun e he => by cases he), fun j c x hj => by simp at hj⟩, by rw [lf_zero.2]; exact ⟨rfl, (fun e he => by cases he), fun j c x hj => by simp at hj⟩⟩ (by repeat (first | exact K.Sub.nil _ | refine K.Sub.cons rfl ?_)) rfl (by dsimp only; rw [lf_zero.1, lf_zero.2, rn_zero]; rfl) ?_
  rintro ⟨i, aL, cL, eL, aR, cR, eR⟩ ⟨hi, hL, hR⟩ KL hKL
  simp only at hi hL hR ⊢
  have hhr := hf_row p c
  have hLl : (lfI p c i).length ≤ p.cells.length + 1 := by unfold lfI; rw [List.length_eraseIdx]; split <;> simp <;> omega
  have hRl : (rtI p c i).length ≤ p.cells.length + 1 := by unfold rtI; split <;> (try rw [List.length_eraseIdx]) <;> (try split) <;> simp <;> omega
  by_cases hil : i < (rowQ p c).length
  · obtain ⟨x, hxi⟩ : ∃ x, (rowQ p c)[i]? = some x := ⟨_, List.getElem?_eq_getElem hil⟩
    obtain ⟨ex, hei⟩ : ∃ ex, er[i]? = some ex := ⟨_, List.getElem?_eq_getElem (by omega)⟩
    have hcx2 := hrr.2.2 _ ex _ hei hxi
    have hcx3 := hcx2
    obtain ⟨_, _, aox, cax, rfl, _⟩ := hcx3
    obtain ⟨b5, o5, e5, hcy⟩ := hsr.at hei
    cases e5
    rcases hd.kind with hk | hk
    · have hsk : skQ p c = posQ p c := by unfold skQ; rw [if_neg (by omega)]
      have hrn0 : ∀ j, rnI p c j = p.next := fun j => by unfold rnI; rw [if_neg (by omega)]
      by_cases hia : i = posQ p c
      · have hls := lf_skip hil hxi (by rw [hsk]; exact hia)
        (repeat' (first | refine X.rq ?_ | (refine X.rc ?_ ?_ <;> intro hc <;> first | (exfalso; omega) | skip)))
        all_goals try (exfalso; omega)
        refine K.a_round hKL ⟨i + 1, aL, cL, eL, aR, cR, eR⟩ ⟨by dsimp only; omega, by dsimp only; rw [hls.1]; exact hL, by dsimp only; rw [hls.2]; exact hR⟩ (by repeat (first | exact K.Sub.nil _ | refine K.Sub.cons rfl ?_)) rfl ?_ (by dsimp only; omega)
        dsimp only
        rw [hls.1, hls.2, hrn0, hrn0]
      by_cases hlt : i < hfQ p c
      · have hs : i ≠ skQ p c := by rw [hsk]; exact hia
        have hls := lf_left hil hxi hs hlt
        (repeat' (first | refine X.rq ?_ | (refine X.rc ?_ ?_ <;> intro hc <;> first | (exfalso; omega) | skip)))
        all_goals try (exfalso; omega)
        refine X.draw ([blk B14 55 [.int .i64 p.kind, .int .u64 p.lsn, .int .u32 p.next, bufV aL (lfI p c i).length cL]]) [9] (.pu 0 (.pu 2 (.pu 3 (.pu 4 (.st 1 (.st 5 (.on 6 (.on 7 (.pu 8 (.cl 9 .nil)))))))))) ?_ (hQ := by repeat (first | with_reducible refine K.NoPanic.then ?_ | with_reducible refine K.NoPanic.inBlock ?_ | with_reducible exact K.post_noPanic _ _ | exact K.post_noPanic _ _ | exact K.QN_noPanic | exact K.postS_noPanic | exact K.postX_noPanic | exact K.RPX_noPanic))
        refine K.d_pu rfl (fun _ _ => X.fa) rfl ?_
        refine K.d_pu rfl (fun _ _ => X.mv) rfl ?_
        refine K.d_pu rfl (fun _ _ => X.mv) rfl ?_
        refine K.d_pu rfl (fun _ _ => X.ia) rfl ?_
        refine K.d_st rfl X.ld rfl ?_
        refine K.d_st rfl (K.p_loadM (Fx.agg rfl) rfl (Cels.up hcy) (Fx.sz rfl) rfl) rfl ?_
        refine K.d_on rfl (fun KK hKK => ?_)
        refine K.l_buildSlice (Fx.und rfl) (Fx.sz rfl) rfl (Fx.zr rfl) rfl rfl rfl (cs := [.bool x.used, .int .u32 x.killer, .slice aox x.data.length cax]) rfl rfl (fun B20 => ?_)
        refine K.l_nil ?_
        refine X.onE hKK ?_
        refine K.d_on rfl (fun KK hKK => ?_)
        refine K.l_append_at 2 rfl (Fx.und rfl) (Fx.und rfl) rfl (Fx.sz rfl) (Fx.zr rfl) rfl (Fx.byt rfl) rfl rfl (K.src_cells (K.cels_own (pre := []) (cs := [.bool x.used, .int .u32 x.killer, .slice aox x.data.length cax]) (post := []) 0 rfl rfl) rfl (by simp [oneCell])) (by omega) (by omega) rfl (fun a6 k6 => ?_)
        refine K.l_nil ?_
        refine X.onE hKK ?_
        refine K.d_pu rfl (fun _ _ => X.fa) rfl ?_
        refine K.d_cl rfl (fun KK hKK => ?_)
        refine X.sto ?_
        refine K.l_nil ?_
        refine K.d_clE hKK ?_
        refine K.d_nil ?_
        (repeat' (first | refine X.rq ?_ | (refine X.rc ?_ ?_ <;> intro hc <;> first | (exfalso; omega) | skip)))
        refine K.AT.sel [0] rfl ?_
        have er1 : rnI p c (i + 1) = rnI p c i := by rw [hrn0, hrn0]
        refine K.a_round hKL ⟨i + 1, a6, k6, eL ++ [[.bool x.used, .int .u32 x.killer, .slice aox x.data.length cax]], aR, cR, eR⟩ ⟨by dsimp only; omega, by dsimp only; rw [hls.1]; exact hL.snoc hcx2, by dsimp only; rw [hls.2]; exact hR⟩ (by repeat (first | exact K.Sub.nil _ | refine K.Sub.cons rfl ?_)) rfl ?_ (by dsimp only; omega)
        dsimp only
        rw [hls.1, hls.2, er1, List.length_append, List.flatten_append]
        rfl
      · have hs : i ≠ skQ p c := by rw [hsk]; exact hia
        have hls := lf_right hil hxi hs hlt
        (repeat' (first | refine X.rq ?_ | (refine X.rc ?_ ?_ <;> intro hc <;> first | (exfalso; omega) | skip)))
        all_goals try (exfalso; omega)
        refine X.draw ([blk B15 55 [.int .i64 p.kind, .int .u64 (0 : Nat), .int .u32 (rnI p c i), bufV aR (rtI p c i).length cR]]) [9] (.pu 0 (.pu 2 (.pu 3 (.pu 4 (.st 1 (.st 5 (.on 6 (.on 7 (.pu 8 (.cl 9 .nil)))))))))) ?_ (hQ := by repeat (first | with_reducible refine K.NoPanic.then ?_ | with_reducible refine K.NoPanic.inBlock ?_ | with_reducible exact K.post_noPanic _ _ | exact K.post_noPanic _ _ | exact K.QN_noPanic | exact K.postS_noPanic | exact K.postX_noPanic | exact K.RPX_noPanic))
        refine K.d_pu rfl (fun _ _ => X.fa) rfl ?_
        refine K.d_pu rfl (fun _ _ => X.mv) rfl ?_
        refine K.d_pu rfl (fun _ _ => X.mv) rfl ?_
        refine K.d_pu rfl (fun _ _ => X.ia) rfl ?_
        refine K.d_st rfl X.ld rfl ?_
        refine K.d_st rfl (K.p_loadM (Fx.agg rfl) rfl (Cels.up hcy) (Fx.sz rfl) rfl) rfl ?_
        refine K.d_on rfl (fun KK hKK => ?_)
        refine K.l_buildSlice (Fx.und rfl) (Fx.sz rfl) rfl (Fx.zr rfl) rfl rfl rfl (cs := [.bool x.used, .int .u32 x.killer, .slice aox x.data.length cax]) rfl rfl (fun B20 => ?_)
        refine K.l_nil ?_
        refine X.onE hKK ?_
        refine K.d_on rfl (fun KK hKK => ?_)
        refine K.l_append_at 4 rfl (Fx.und rfl) (Fx.und rfl) rfl (Fx.sz rfl) (Fx.zr rfl) rfl (Fx.byt rfl) rfl rfl (K.src_cells (K.cels_own (pre := []) (cs := [.bool x.used, .int .u32 x.killer, .slice aox x.data.length cax]) (post := []) 0 rfl rfl) rfl (by simp [oneCell])) (by omega) (by omega) rfl (fun a6 k6 => ?_)
        refine K.l_nil ?_
        refine X.onE hKK ?_
        refine K.d_pu rfl (fun _ _ => X.fa) rfl ?_
        refine K.d_cl rfl (fun KK hKK => ?_)
        refine X.sto ?_
        refine K.l_nil ?_
        refine K.d_clE hKK ?_
        refine K.d_nil ?_
        (repeat' (first | refine X.rq ?_ | (refine X.rc ?_ ?_ <;> intro hc <;> first | (exfalso; omega) | skip)))
        refine K.AT.sel [0] rfl ?_
        have er1 : rnI p c (i + 1) = rnI p c i := by rw [hrn0, hrn0]
        refine K.a_round hKL ⟨i + 1, aL, cL, eL, a6, k6, eR ++ [[.bool x.used, .int .u32 x.killer, .slice aox x.data.length cax]]⟩ ⟨by dsimp only; omega, by dsimp only; rw [hls.1]; exact hL, by dsimp only; rw [hls.2]; exact hR.snoc hcx2⟩ (by repeat (first | exact K.Sub.nil _ | refine K.Sub.cons rfl ?_)) rfl ?_ (by dsimp only; omega)
        dsimp only
        rw [hls.1, hls.2, er1, List.length_append, List.flatten_append]
        rfl
    · have hsk : skQ p c = hfQ p c := by unfold skQ; rw [if_pos hk]
      by_cases hia : i = hfQ p c
      · have hls := lf_skip hil hxi (by rw [hsk]; exact hia)
        have hxm : x = midQ p c := by
          rw [hia, hmid] at hxi; cases hxi; rfl
        have hch := RChild h1 _ x hcx2 (by rw [hxm]; exact hbigm hk)
        (repeat' (first | refine X.rq ?_ | (refine X.rc ?_ ?_ <;> intro hc <;> first | (exfalso; omega) | skip)))
        all_goals try (exfalso; omega)
        refine K.s_pure (K.p_loadM (Fx.agg rfl) rfl (Cels.up hcy) (Fx.sz rfl) rfl) rfl ?_
        refine K.l_callV (Fx.cal rfl) rfl hch (K.pp [] rfl) rfl rfl ?_
        simp only [List.set_cons_zero, List.set_cons_succ, List.eraseIdx_cons_zero, List.eraseIdx_cons_succ, List.cons_append, List.nil_append]
        (repeat' (first | refine X.rq ?_ | (refine X.rc ?_ ?_ <;> intro hc <;> first | (exfalso; omega) | skip)))
        refine X.sto ?_
        simp only [List.set_cons_zero, List.set_cons_succ, List.eraseIdx_cons_zero, List.eraseIdx_cons_succ, List.cons_append, List.nil_append]
        (repeat' (first | refine X.rq ?_ | (refine X.rc ?_ ?_ <;> intro hc <;> first | (exfalso; omega) | skip)))
        have er1 : rnI p c (i + 1) = childOf x := by unfold rnI; rw [if_pos ⟨hk, by omega⟩, hxm]
        refine K.a_round hKL ⟨i + 1, aL, cL, eL, aR, cR, eR⟩ ⟨by dsimp only; omega, by dsimp only; rw [hls.1]; exact hL, by dsimp only; rw [hls.2]; exact hR⟩ (by repeat (first | exact K.Sub.nil _ | refine K.Sub.cons rfl ?_)) rfl ?_ (by dsimp only; omega)
        dsimp only
        rw [hls.1, hls.2, er1]
      have hrn1 : rnI p c (i + 1) = rnI p c i := by
        unfold rnI
        by_cases hg : hfQ p c < i
        · rw [if_pos ⟨hk, by omega⟩, if_pos ⟨hk, hg⟩]
        · rw [if_neg (by omega), if_neg (by omega)]
      by_cases hlt : i < hfQ p c
      · have hs : i ≠ skQ p c := by rw [hsk]; exact hia
        have hls := lf_left hil hxi hs hlt
        (repeat' (first | refine X.rq ?_ | (refine X.rc ?_ ?_ <;> intro hc <;> first | (exfalso; omega) | skip)))
        all_goals try (exfalso; omega)
        refine X.draw ([blk B14 55 [.int .i64 p.kind, .int .u64 p.lsn, .int .u32 p.next, bufV aL (lfI p c i).length cL]]) [9] (.pu 0 (.pu 2 (.pu 3 (.pu 4 (.st 1 (.st 5 (.on 6 (.on 7 (.pu 8 (.cl 9 .nil)))))))))) ?_ (hQ := by repeat (first | with_reducible refine K.NoPanic.then ?_ | with_reducible refine K.NoPanic.inBlock ?_ | with_reducible exact K.post_noPanic _ _ | exact K.post_noPanic _ _ | exact K.QN_noPanic | exact K.postS_noPanic | exact K.postX_noPanic | exact K.RPX_noPanic))
        refine K.d_pu rfl (fun _ _ => X.fa) rfl ?_
        refine K.d_pu rfl (fun _ _ => X.mv) rfl ?_
        refine K.d_pu rfl (fun _ _ => X.mv) rfl ?_
        refine K.d_pu rfl (fun _ _ => X.ia) rfl ?_
        refine K.d_st rfl X.ld rfl ?_
        refine K.d_st rfl (K.p_loadM (Fx.agg rfl) rfl (Cels.up hcy) (Fx.sz rfl) rfl) rfl ?_
        refine K.d_on rfl (fun KK hKK => ?_)
        refine K.l_buildSlice (Fx.und rfl) (Fx.sz rfl) rfl (Fx.zr rfl) rfl rfl rfl (cs := [.bool x.used, .int .u32 x.killer, .slice aox x.data.length cax]) rfl rfl (fun B20 => ?_)
        refine K.l_nil ?_
        refine X.onE hKK ?_
        refine K.d_on rfl (fun KK hKK => ?_)
        refine K.l_append_at 2 rfl (Fx.und rfl) (Fx.und rfl) rfl (Fx.sz rfl) (Fx.zr rfl) rfl (Fx.byt rfl) rfl rfl (K.src_cells (K.cels_own (pre := []) (cs := [.bool x.used, .int .u32 x.killer, .slice aox x.data.length cax]) (post := []) 0 rfl rfl) rfl (by simp [oneCell])) (by omega) (by omega) rfl (fun a6 k6 => ?_)
        refine K.l_nil ?_
        refine X.onE hKK ?_
        refine K.d_pu rfl (fun _ _ => X.fa) rfl ?_
        refine K.d_cl rfl (fun KK hKK => ?_)
        refine X.sto ?_
        refine K.l_nil ?_
        refine K.d_clE hKK ?_
        refine K.d_nil ?_
        (repeat' (first | refine X.rq ?_ | (refine X.rc ?_ ?_ <;> intro hc <;> first | (exfalso; omega) | skip)))
        refine K.AT.sel [0] rfl ?_
        have er1 : rnI p c (i + 1) = rnI p c i := hrn1
        refine K.a_round hKL ⟨i + 1, a6, k6, eL ++ [[.bool x.used, .int .u32 x.killer, .slice aox x.data.length cax]], aR, cR, eR⟩ ⟨by dsimp only; omega, by dsimp only; rw [hls.1]; exact hL.snoc hcx2, by dsimp only; rw [hls.2]; exact hR⟩ (by repeat (first | exact K.Sub.nil _ | refine K.Sub.cons rfl ?_)) rfl ?_ (by dsimp only; omega)
        dsimp only
        rw [hls.1, hls.2, er1, List.length_append, List.flatten_append]
        rfl
      · have hs : i ≠ skQ p c := by rw [hsk]; exact hia
        have hls := lf_right hil hxi hs hlt
        (repeat' (first | refine X.rq ?_ | (refine X.rc ?_ ?_ <;> intro hc <;> first | (exfalso; omega) | skip)))
        all_goals try (exfalso; omega)
        refine X.draw ([blk B15 55 [.int .i64 p.kind, .int .u64 (0 : Nat), .int .u32 (rnI p c i), bufV aR (rtI p c i).length cR]]) [9] (.pu 0 (.pu 2 (.pu 3 (.pu 4 (.st 1 (.st 5 (.on 6 (.on 7 (.pu 8 (.cl 9 .nil)))))))))) ?_ (hQ := by repeat (first | with_reducible refine K.NoPanic.then ?_ | with_reducible refine K.NoPanic.inBlock ?_ | with_reducible exact K.post_noPanic _ _ | exact K.post_noPanic _ _ | exact K.QN_noPanic | exact K.postS_noPanic | exact K.postX_noPanic | exact K.RPX_noPanic))
        refine K.d_pu rfl (fun _ _ => X.fa) rfl ?_
        refine K.d_pu rfl (fun _ _ => X.mv) rfl ?_
        refine K.d_pu rfl (fun _ _ => X.mv) rfl ?_
        refine K.d_pu rfl (fun _ _ => X.ia) rfl ?_
        refine K.d_st rfl X.ld rfl ?_
        refine K.d_st rfl (K.p_loadM (Fx.agg rfl) rfl (Cels.up hcy) (Fx.sz rfl) rfl) rfl ?_
        refine K.d_on rfl (fun KK hKK => ?_)
        refine K.l_buildSlice (Fx.und rfl) (Fx.sz rfl) rfl (Fx.zr rfl) rfl rfl rfl (cs := [.bool x.used, .int .u32 x.killer, .slice aox x.data.length cax]) rfl rfl (fun B20 => ?_)
        refine K.l_nil ?_
        refine X.onE hKK ?_
        refine K.d_on rfl (fun KK hKK => ?_)
        refine K.l_append_at 4 rfl (Fx.und rfl) (Fx.und rfl) rfl (Fx.sz rfl) (Fx.zr rfl) rfl (Fx.byt rfl) rfl rfl (K.src_cells (K.cels_own (pre := []) (cs := [.bool x.used, .int .u32 x.killer, .slice aox x.data.length cax]) (post := []) 0 rfl rfl) rfl (by simp [oneCell])) (by omega) (by omega) rfl (fun a6 k6 => ?_)
        refine K.l_nil ?_
        refine X.onE hKK ?_
        refine K.d_pu rfl (fun _ _ => X.fa) rfl ?_
        refine K.d_cl rfl (fun KK hKK => ?_)
        refine X.sto ?_
        refine K.l_nil ?_
        refine K.d_clE hKK ?_
        refine K.d_nil ?_
        (repeat' (first | refine X.rq ?_ | (refine X.rc ?_ ?_ <;> intro hc <;> first | (exfalso; omega) | skip)))
        refine K.AT.sel [0] rfl ?_
        have er1 : rnI p c (i + 1) = rnI p c i := hrn1
        refine K.a_round hKL ⟨i + 1, aL, cL, eL, a6, k6, eR ++ [[.bool x.used, .int .u32 x.killer, .slice aox x.data.length cax]]⟩ ⟨by dsimp only; omega, by dsimp only; rw [hls.1]; exact hL, by dsimp only; rw [hls.2]; exact hR.snoc hcx2⟩ (by repeat (first | exact K.Sub.nil _ | refine K.Sub.cons rfl ?_)) rfl ?_ (by dsimp only; omega)
        dsimp only
        rw [hls.1, hls.2, er1, List.length_append, List.flatten_append]
        rfl
  · obtain rfl : i = (rowQ p c).length := by omega
    rw [(lf_all hd.kind).1] at hL
    rw [(lf_all hd.kind).2] at hR
    rw [(lf_all hd.kind).1, (lf_all hd.kind).2]
    have ern : rnI p c (rowQ p c).length = rnQ p c := by
      unfold rnI rnQ
      rcases hd.kind with hk | hk
      · rw [if_neg (by omega), if_pos hk]
      · rw [if_pos ⟨hk, hhr⟩, if_neg (by omega)]
    rw [ern]
    have hlr : (lcQ p c).length ≤ (rowQ p c).length ∧ (rcQ p c).length ≤ (rowQ p c).length := by
      constructor
      · unfold lcQ; split <;> simp [List.length_eraseIdx] <;> (try split) <;> omega
      · unfold rcQ; split <;> (try split) <;> simp [List.length_eraseIdx] <;> (try split) <;> omega
    have hlcl : (lcQ p c).length ≤ 9223372036854775807 := by omega
    have hrcl : (rcQ p c).length ≤ 9223372036854775807 := by omega
    have hrn4 : rnQ p c < 4294967296 := by
      unfold rnQ
      split
      · exact hw.next
      · rename_i hk
        exact childOf_lt (row_big hd (hd.kind.resolve_left hk) _ mid_mem)
    have hent : (entQ p c).length ≤ 1010 := by
      have h1 : (midQ p c).data.length ≤ 1010 := by
        rcases row_mem (mid_mem (p := p) (c := c)) with h | h
        · rw [h]; exact hd.cdata
        · have := hd.data _ h; omega
      unfold entQ keyQ
      split
      · simp; omega
      · exact h1
    clear hcs hcv0 hc0 hsr hrv hec hcm hmid hor hcx hrr hp0 hs hb2
    cases root with
    | false =>
      by_cases hk : p.kind = 2
      · have elq : leftQ p c false [] = ⟨p.kind, p.lsn, 0, lcQ p c⟩ := by unfold leftQ frQ fs1; simp [hk]
        have ediv : divI n p c false [] = [⟨n, ⟨p.kind, p.lsn, 0, lcQ p c⟩⟩, ⟨0, ⟨p.kind, 0, rnQ p c, rcQ p c⟩⟩] := by unfold divI; rw [elq]; rfl
        (repeat' (first | refine X.rq ?_ | (refine X.rc ?_ ?_ <;> intro hc <;> first | (exfalso; omega) | skip)))
        refine K.WL.perm (K.pp [1] rfl) ?_
        refine K.WL.freezeRowN (es := eL) hL.1.symm hL.2.1 (fun h2 le2 hs2 => ?_)
        refine K.WL.perm (K.pp [2] rfl) ?_
        refine K.WL.freezeRowN (es := eR) hR.1.symm hR.2.1 (fun h3 le3 hs3 => ?_)
        have hlv : CellsV h3 _ (lcQ p c) := CellsV.of (hs2.le le3) (hL.le (le2.trans le3))
        have hrv : CellsV h3 _ (rcQ p c) := CellsV.of hs3 (hR.le (le2.trans le3))
        obtain ⟨al, cl, el⟩ : ∃ al cl, bufV aL (lcQ p c).length cL = .slice al (lcQ p c).length cl := ⟨_, _, rfl⟩
        obtain ⟨ar2, cr, er2⟩ : ∃ al cl, bufV aR (rcQ p c).length cR = .slice al (rcQ p c).length cl := ⟨_, _, rfl⟩
        rw [el] at hlv
        rw [er2] at hrv
        rw [el, er2]
        clear hs2 hs3 hL hR el er2 hKL
        have hr2 := hr.le (hle1.trans (le2.trans le3))
        have hpL : PagC h3 (cP ⟨p.kind, p.lsn, 0, lcQ p c⟩ (.slice al (lcQ p c).length cl)) ⟨p.kind, p.lsn, 0, lcQ p c⟩ := ⟨⟨hw.kind, hw.lsn, (show (0 : Nat) < 4294967296 by decide), hlcl⟩, _, rfl, hlv⟩
        have hpR : PagC h3 (cP ⟨p.kind, 0, rnQ p c, rcQ p c⟩ (.slice ar2 (rcQ p c).length cr)) ⟨p.kind, 0, rnQ p c, rcQ p c⟩ := ⟨⟨hw.kind, (show (0 : Nat) < 18446744073709551616 by decide), hrn4, hrcl⟩, _, rfl, hrv⟩
        simp only [List.set_cons_zero, List.set_cons_succ, List.eraseIdx_cons_zero, List.eraseIdx_cons_succ, List.cons_append, List.nil_append]
        (repeat' (first | refine X.rq ?_ | (refine X.rc ?_ ?_ <;> intro hc <;> first | (exfalso; omega) | skip)))
        refine K.l_call (Fx.cal rfl) rfl (RTake h3 Bw (bufV a rows.length cap) cnt (by omega)) (K.pp [4] rfl) rfl ?_
        rintro u h4 H' - ⟨e4, rfl, rfl⟩
        obtain rfl := e4.symm
        simp only [List.set_cons_zero, List.set_cons_succ, List.eraseIdx_cons_zero, List.eraseIdx_cons_succ, List.cons_append, List.nil_append]
        (repeat' (first | refine X.rq ?_ | (refine X.rc ?_ ?_ <;> intro hc <;> first | (exfalso; omega) | skip)))
        refine X.sto ?_
        simp only [List.set_cons_zero, List.set_cons_succ, List.eraseIdx_cons_zero, List.eraseIdx_cons_succ, List.cons_append, List.nil_append]
        (repeat' (first | refine X.rq ?_ | (refine X.rc ?_ ?_ <;> intro hc <;> first | (exfalso; omega) | skip)))
        refine K.l_call (Fx.cal rfl) rfl (RUpC h3 (entQ p c) 0 (by omega) (by decide)) (K.pp [] rfl) rfl ?_
        rintro u h5 H' le5 ⟨rfl, cs5, rfl, hup⟩
        obtain ⟨_, _, ao7, ca7, rfl, _⟩ := id hup
        have hpL := hpL.le le5
        have hpR := hpR.le le5
        have hr2 := hr2.le le5
        simp only [List.set_cons_zero, List.set_cons_succ, List.eraseIdx_cons_zero, List.eraseIdx_cons_succ, List.cons_append, List.nil_append]
        refine K.l_alloc (Fx.zr rfl) rfl rfl (fun B20 => ?_)
        refine X.stw ?_
        simp only [List.set_cons_zero, List.set_cons_succ, List.eraseIdx_cons_zero, List.eraseIdx_cons_succ, List.cons_append, List.nil_append]
        (repeat' (first | refine X.rq ?_ | (refine X.rc ?_ ?_ <;> intro hc <;> first | (exfalso; omega) | skip)))
        refine X.draw ([blk Bw 89 (wkV (bufV a rows.length cap) (.slice none 0 0) (cnt + 1)),blk B14 55 (cP ⟨p.kind, p.lsn, 0, lcQ p c⟩ (.slice al (lcQ p c).length cl)),blk B15 55 (cP ⟨p.kind, 0, rnQ p c, rcQ p c⟩ (.slice ar2 (rcQ p c).length cr))]) [15] (.pu 0 (.pu 1 (.pu 2 (.pu 3 (.pu 5 (.pu 8 (.st 4 (.st 6 (.pu 7 (.st 9 (.pu 10 (.on 11 (.on 12 (.pu 13 (.pu 14 (.cl 15 .nil)))))))))))))))) ?_ (hQ := by repeat (first | with_reducible refine K.NoPanic.then ?_ | with_reducible refine K.NoPanic.inBlock ?_ | with_reducible exact K.post_noPanic _ _ | exact K.post_noPanic _ _ | exact K.QN_noPanic | exact K.postS_noPanic | exact K.postX_noPanic | exact K.RPX_noPanic))
        refine K.d_pu rfl (fun _ _ => X.mv) rfl ?_
        refine K.d_pu rfl (fun _ _ => X.mv) rfl ?_
        refine K.d_pu rfl (fun _ _ => X.nc) rfl ?_
        refine K.d_pu rfl (fun _ _ => X.fa) rfl ?_
        refine K.d_pu rfl (fun _ _ => X.mv) rfl ?_
        refine K.d_pu rfl (fun _ _ => X.mv) rfl ?_
        refine K.d_st rfl X.ld rfl ?_
        refine K.d_st rfl X.ld rfl ?_
        refine K.d_pu rfl (fun _ _ => X.bd) rfl ?_
        refine K.d_st rfl X.ld rfl ?_
        refine K.d_pu rfl (fun _ _ => X.bd) rfl ?_
        refine K.d_on rfl (fun KK hKK => ?_)
        refine K.l_buildSlice (Fx.und rfl) (Fx.sz rfl) rfl (Fx.zr rfl) rfl rfl rfl (cs := (uV n :: cP ⟨p.kind, p.lsn, 0, lcQ p c⟩ (.slice al (lcQ p c).length cl)) ++ (uV 0 :: cP ⟨p.kind, 0, rnQ p c, rcQ p c⟩ (.slice ar2 (rcQ p c).length cr))) rfl rfl (fun B31 => ?_)
        refine K.l_nil ?_
        refine X.onE hKK ?_
        refine K.d_on rfl (fun KK hKK => ?_)
        refine K.l_append_at 7 rfl (Fx.und rfl) (Fx.und rfl) rfl (Fx.sz rfl) (Fx.zr rfl) rfl (Fx.byt rfl) rfl rfl (K.src_cells (K.cels_own (pre := []) (cs := (uV n :: cP ⟨p.kind, p.lsn, 0, lcQ p c⟩ (.slice al (lcQ p c).length cl)) ++ (uV 0 :: cP ⟨p.kind, 0, rnQ p c, rcQ p c⟩ (.slice ar2 (rcQ p c).length cr))) (post := []) 0 rfl rfl) rfl (by simp [oneCell, cP, bufV])) (by omega) (by omega) rfl (fun a7 k7 => ?_)
        refine K.l_nil ?_
        refine X.onE hKK ?_
        refine K.d_pu rfl (fun _ _ => X.nc) rfl ?_
        refine K.d_pu rfl (fun _ _ => X.fa) rfl ?_
        refine K.d_cl rfl (fun KK hKK => ?_)
        refine X.sto ?_
        refine K.l_nil ?_
        refine K.d_clE hKK ?_
        refine K.d_nil ?_
        (repeat' (first | refine X.rq ?_ | (refine X.rc ?_ ?_ <;> intro hc <;> first | (exfalso; omega) | skip)))
        refine X.stw ?_
        simp only [List.set_cons_zero, List.set_cons_succ, List.eraseIdx_cons_zero, List.eraseIdx_cons_succ, List.cons_append, List.nil_append]
        (repeat' (first | refine X.rq ?_ | (refine X.rc ?_ ?_ <;> intro hc <;> first | (exfalso; omega) | skip)))
        have hri := RowsI.snoc (RowsI.snoc hr2 hn hpL) (show (0 : Nat) < 4294967296 by decide) hpR
        refine K.AT.perm (K.pp [5, 0, 0, 1, 1, 1] rfl) ?_
        simp only [List.set_cons_zero, List.set_cons_succ, List.eraseIdx_cons_zero, List.eraseIdx_cons_succ, List.cons_append, List.nil_append]
        refine K.doneC (vs := [.agg [.bool (upQ (entQ p c) 0).used, .int .u32 (upQ (entQ p c) 0).killer, .slice ao7 (upQ (entQ p c) 0).data.length ca7].toArray]) (by first | exact Or.inl rfl | exact Or.inr rfl) (.cell rfl (Fx.agg rfl) (Fx.sz rfl) (K.cels_own (pre := []) (post := []) 0 rfl rfl) .nil) (hle1.trans (le2.trans (le3.trans le5))) (D := [_, _, _, _, _, _]) (H' := [_, _]) rfl ⟨a7, k7, ((rows ++ [uV n :: cP ⟨p.kind, p.lsn, 0, lcQ p c⟩ (.slice al (lcQ p c).length cl)]) ++ [uV 0 :: cP ⟨p.kind, 0, rnQ p c, rcQ p c⟩ (.slice ar2 (rcQ p c).length cr)]), _, rfl, hup, ?_, ?_⟩
        · rw [ediv]
          simpa using hri
        · have el : ((rows ++ [uV n :: cP ⟨p.kind, p.lsn, 0, lcQ p c⟩ (.slice al (lcQ p c).length cl)]) ++ [uV 0 :: cP ⟨p.kind, 0, rnQ p c, rcQ p c⟩ (.slice ar2 (rcQ p c).length cr)]).length = rows.length + 2 := by simp
          have ef : ((rows ++ [uV n :: cP ⟨p.kind, p.lsn, 0, lcQ p c⟩ (.slice al (lcQ p c).length cl)]) ++ [uV 0 :: cP ⟨p.kind, 0, rnQ p c, rcQ p c⟩ (.slice ar2 (rcQ p c).length cr)]).flatten = rows.flatten ++ ((uV n :: cP ⟨p.kind, p.lsn, 0, lcQ p c⟩ (.slice al (lcQ p c).length cl)) ++ (uV 0 :: cP ⟨p.kind, 0, rnQ p c, rcQ p c⟩ (.slice ar2 (rcQ p c).length cr))) := by simp
          rw [el, ef]
          rfl
      · have elq : leftQ p c false [] = ⟨p.kind, p.lsn, p.next, lcQ p c⟩ := by unfold leftQ frQ fs1; simp [hk]
        have ediv : divI n p c false [] = [⟨n, ⟨p.kind, p.lsn, p.next, lcQ p c⟩⟩, ⟨0, ⟨p.kind, 0, rnQ p c, rcQ p c⟩⟩] := by unfold divI; rw [elq]; rfl
        (repeat' (first | refine X.rq ?_ | (refine X.rc ?_ ?_ <;> intro hc <;> first | (exfalso; omega) | skip)))
        refine K.WL.perm (K.pp [1] rfl) ?_
        refine K.WL.freezeRowN (es := eL) hL.1.symm hL.2.1 (fun h2 le2 hs2 => ?_)
        refine K.WL.perm (K.pp [2] rfl) ?_
        refine K.WL.freezeRowN (es := eR) hR.1.symm hR.2.1 (fun h3 le3 hs3 => ?_)
        have hlv : CellsV h3 _ (lcQ p c) := CellsV.of (hs2.le le3) (hL.le (le2.trans le3))
        have hrv : CellsV h3 _ (rcQ p c) := CellsV.of hs3 (hR.le (le2.trans le3))
        obtain ⟨al, cl, el⟩ : ∃ al cl, bufV aL (lcQ p c).length cL = .slice al (lcQ p c).length cl := ⟨_, _, rfl⟩
        obtain ⟨ar2, cr, er2⟩ : ∃ al cl, bufV aR (rcQ p c).length cR = .slice al (rcQ p c).length cl := ⟨_, _, rfl⟩
        rw [el] at hlv
        rw [er2] at hrv
        rw [el, er2]
        clear hs2 hs3 hL hR el er2 hKL
        have hr2 := hr.le (hle1.trans (le2.trans le3))
        have hpL : PagC h3 (cP ⟨p.kind, p.lsn, p.next, lcQ p c⟩ (.slice al (lcQ p c).length cl)) ⟨p.kind, p.lsn, p.next, lcQ p c⟩ := ⟨⟨hw.kind, hw.lsn, hw.next, hlcl⟩, _, rfl, hlv⟩
        have hpR : PagC h3 (cP ⟨p.kind, 0, rnQ p c, rcQ p c⟩ (.slice ar2 (rcQ p c).length cr)) ⟨p.kind, 0, rnQ p c, rcQ p c⟩ := ⟨⟨hw.kind, (show (0 : Nat) < 18446744073709551616 by decide), hrn4, hrcl⟩, _, rfl, hrv⟩
        simp only [List.set_cons_zero, List.set_cons_succ, List.eraseIdx_cons_zero, List.eraseIdx_cons_succ, List.cons_append, List.nil_append]
        (repeat' (first | refine X.rq ?_ | (refine X.rc ?_ ?_ <;> intro hc <;> first | (exfalso; omega) | skip)))
        refine K.l_call (Fx.cal rfl) rfl (RTake h3 Bw (bufV a rows.length cap) cnt (by omega)) (K.pp [4] rfl) rfl ?_
        rintro u h4 H' - ⟨e4, rfl, rfl⟩
        obtain rfl := e4.symm
        simp only [List.set_cons_zero, List.set_cons_succ, List.eraseIdx_cons_zero, List.eraseIdx_cons_succ, List.cons_append, List.nil_append]
        (repeat' (first | refine X.rq ?_ | (refine X.rc ?_ ?_ <;> intro hc <;> first | (exfalso; omega) | skip)))
        refine K.l_call (Fx.cal rfl) rfl (RUpC h3 (entQ p c) 0 (by omega) (by decide)) (K.pp [] rfl) rfl ?_
        rintro u h5 H' le5 ⟨rfl, cs5, rfl, hup⟩
        obtain ⟨_, _, ao7, ca7, rfl, _⟩ := id hup
        have hpL := hpL.le le5
        have hpR := hpR.le le5
        have hr2 := hr2.le le5
        simp only [List.set_cons_zero, List.set_cons_succ, List.eraseIdx_cons_zero, List.eraseIdx_cons_succ, List.cons_append, List.nil_append]
        refine K.l_alloc (Fx.zr rfl) rfl rfl (fun B20 => ?_)
        refine X.stw ?_
        simp only [List.set_cons_zero, List.set_cons_succ, List.eraseIdx_cons_zero, List.eraseIdx_cons_succ, List.cons_append, List.nil_append]
        (repeat' (first | refine X.rq ?_ | (refine X.rc ?_ ?_ <;> intro hc <;> first | (exfalso; omega) | skip)))
        refine X.draw ([blk Bw 89 (wkV (bufV a rows.length cap) (.slice none 0 0) (cnt + 1)),blk B14 55 (cP ⟨p.kind, p.lsn, p.next, lcQ p c⟩ (.slice al (lcQ p c).length cl)),blk B15 55 (cP ⟨p.kind, 0, rnQ p c, rcQ p c⟩ (.slice ar2 (rcQ p c).length cr))]) [15] (.pu 0 (.pu 1 (.pu 2 (.pu 3 (.pu 5 (.pu 8 (.st 4 (.st 6 (.pu 7 (.st 9 (.pu 10 (.on 11 (.on 12 (.pu 13 (.pu 14 (.cl 15 .nil)))))))))))))))) ?_ (hQ := by repeat (first | with_reducible refine K.NoPanic.then ?_ | with_reducible refine K.NoPanic.inBlock ?_ | with_reducible exact K.post_noPanic _ _ | exact K.post_noPanic _ _ | exact K.QN_noPanic | exact K.postS_noPanic | exact K.postX_noPanic | exact K.RPX_noPanic))
        refine K.d_pu rfl (fun _ _ => X.mv) rfl ?_
        refine K.d_pu rfl (fun _ _ => X.mv) rfl ?_
        refine K.d_pu rfl (fun _ _ => X.nc) rfl ?_
        refine K.d_pu rfl (fun _ _ => X.fa) rfl ?_
        refine K.d_pu rfl (fun _ _ => X.mv) rfl ?_
        refine K.d_pu rfl (fun _ _ => X.mv) rfl ?_
        refine K.d_st rfl X.ld rfl ?_
        refine K.d_st rfl X.ld rfl ?_
        refine K.d_pu rfl (fun _ _ => X.bd) rfl ?_
        refine K.d_st rfl X.ld rfl ?_
        refine K.d_pu rfl (fun _ _ => X.bd) rfl ?_
        refine K.d_on rfl (fun KK hKK => ?_)
        refine K.l_buildSlice (Fx.und rfl) (Fx.sz rfl) rfl (Fx.zr rfl) rfl rfl rfl (cs := (uV n :: cP ⟨p.kind, p.lsn, p.next, lcQ p c⟩ (.slice al (lcQ p c).length cl)) ++ (uV 0 :: cP ⟨p.kind, 0, rnQ p c, rcQ p c⟩ (.slice ar2 (rcQ p c).length cr))) rfl rfl (fun B31 => ?_)
        refine K.l_nil ?_
        refine X.onE hKK ?_
        refine K.d_on rfl (fun KK hKK => ?_)
        refine K.l_append_at 7 rfl (Fx.und rfl) (Fx.und rfl) rfl (Fx.sz rfl) (Fx.zr rfl) rfl (Fx.byt rfl) rfl rfl (K.src_cells (K.cels_own (pre := []) (cs := (uV n :: cP ⟨p.kind, p.lsn, p.next, lcQ p c⟩ (.slice al (lcQ p c).length cl)) ++ (uV 0 :: cP ⟨p.kind, 0, rnQ p c, rcQ p c⟩ (.slice ar2 (rcQ p c).length cr))) (post := []) 0 rfl rfl) rfl (by simp [oneCell, cP, bufV])) (by omega) (by omega) rfl (fun a7 k7 => ?_)
        refine K.l_nil ?_
        refine X.onE hKK ?_
        refine K.d_pu rfl (fun _ _ => X.nc) rfl ?_
        refine K.d_pu rfl (fun _ _ => X.fa) rfl ?_
        refine K.d_cl rfl (fun KK hKK => ?_)
        refine X.sto ?_
        refine K.l_nil ?_
        refine K.d_clE hKK ?_
        refine K.d_nil ?_
        (repeat' (first | refine X.rq ?_ | (refine X.rc ?_ ?_ <;> intro hc <;> first | (exfalso; omega) | skip)))
        refine X.stw ?_
        simp only [List.set_cons_zero, List.set_cons_succ, List.eraseIdx_cons_zero, List.eraseIdx_cons_succ, List.cons_append, List.nil_append]
        (repeat' (first | refine X.rq ?_ | (refine X.rc ?_ ?_ <;> intro hc <;> first | (exfalso; omega) | skip)))
        have hri := RowsI.snoc (RowsI.snoc hr2 hn hpL) (show (0 : Nat) < 4294967296 by decide) hpR
        refine K.AT.perm (K.pp [5, 0, 0, 1, 1, 1] rfl) ?_
        simp only [List.set_cons_zero, List.set_cons_succ, List.eraseIdx_cons_zero, List.eraseIdx_cons_succ, List.cons_append, List.nil_append]
        refine K.doneC (vs := [.agg [.bool (upQ (entQ p c) 0).used, .int .u32 (upQ (entQ p c) 0).killer, .slice ao7 (upQ (entQ p c) 0).data.length ca7].toArray]) (by first | exact Or.inl rfl | exact Or.inr rfl) (.cell rfl (Fx.agg rfl) (Fx.sz rfl) (K.cels_own (pre := []) (post := []) 0 rfl rfl) .nil) (hle1.trans (le2.trans (le3.trans le5))) (D := [_, _, _, _, _, _]) (H' := [_, _]) rfl ⟨a7, k7, ((rows ++ [uV n :: cP ⟨p.kind, p.lsn, p.next, lcQ p c⟩ (.slice al (lcQ p c).length cl)]) ++ [uV 0 :: cP ⟨p.kind, 0, rnQ p c, rcQ p c⟩ (.slice ar2 (rcQ p c).length cr)]), _, rfl, hup, ?_, ?_⟩
        · rw [ediv]
          simpa using hri
        · have el : ((rows ++ [uV n :: cP ⟨p.kind, p.lsn, p.next, lcQ p c⟩ (.slice al (lcQ p c).length cl)]) ++ [uV 0 :: cP ⟨p.kind, 0, rnQ p c, rcQ p c⟩ (.slice ar2 (rcQ p c).length cr)]).length = rows.length + 2 := by simp
          have ef : ((rows ++ [uV n :: cP ⟨p.kind, p.lsn, p.next, lcQ p c⟩ (.slice al (lcQ p c).length cl)]) ++ [uV 0 :: cP ⟨p.kind, 0, rnQ p c, rcQ p c⟩ (.slice ar2 (rcQ p c).length cr)]).flatten = rows.flatten ++ ((uV n :: cP ⟨p.kind, p.lsn, p.next, lcQ p c⟩ (.slice al (lcQ p c).length cl)) ++ (uV 0 :: cP ⟨p.kind, 0, rnQ p c, rcQ p c⟩ (.slice ar2 (rcQ p c).length cr))) := by simp
          rw [el, ef]
          rfl
    | true =>
      by_cases hk : p.kind = 2
      · have elq : leftQ p c true [] = ⟨p.kind, 0, 0, lcQ p c⟩ := by unfold leftQ frQ fs1; simp [hk]
        have ediv : divI n p c true [] = [⟨n, ⟨3, p.lsn, 0, [upQ (entQ p c) 0]⟩⟩, ⟨0, ⟨p.kind, 0, 0, lcQ p c⟩⟩, ⟨0, ⟨p.kind, 0, rnQ p c, rcQ p c⟩⟩] := by unfold divI; rw [elq]; rfl
        (repeat' (first | refine X.rq ?_ | (refine X.rc ?_ ?_ <;> intro hc <;> first | (exfalso; omega) | skip)))
        refine K.WL.perm (K.pp [1] rfl) ?_
        refine K.WL.freezeRowN (es := eL) hL.1.symm hL.2.1 (fun h2 le2 hs2 => ?_)
        refine K.WL.perm (K.pp [2] rfl) ?_
        refine K.WL.freezeRowN (es := eR) hR.1.symm hR.2.1 (fun h3 le3 hs3 => ?_)
        have hlv : CellsV h3 _ (lcQ p c) := CellsV.of (hs2.le le3) (hL.le (le2.trans le3))
        have hrv : CellsV h3 _ (rcQ p c) := CellsV.of hs3 (hR.le (le2.trans le3))
        obtain ⟨al, cl, el⟩ : ∃ al cl, bufV aL (lcQ p c).length cL = .slice al (lcQ p c).length cl := ⟨_, _, rfl⟩
        obtain ⟨ar2, cr, er2⟩ : ∃ al cl, bufV aR (rcQ p c).length cR = .slice al (rcQ p c).length cl := ⟨_, _, rfl⟩
        rw [el] at hlv
        rw [er2] at hrv
        rw [el, er2]
        clear hs2 hs3 hL hR el er2 hKL
        have hr2 := hr.le (hle1.trans (le2.trans le3))
        have hpL : PagC h3 (cP ⟨p.kind, 0, 0, lcQ p c⟩ (.slice al (lcQ p c).length cl)) ⟨p.kind, 0, 0, lcQ p c⟩ := ⟨⟨hw.kind, (show (0 : Nat) < 18446744073709551616 by decide), (show (0 : Nat) < 4294967296 by decide), hlcl⟩, _, rfl, hlv⟩
        have hpR : PagC h3 (cP ⟨p.kind, 0, rnQ p c, rcQ p c⟩ (.slice ar2 (rcQ p c).length cr)) ⟨p.kind, 0, rnQ p c, rcQ p c⟩ := ⟨⟨hw.kind, (show (0 : Nat) < 18446744073709551616 by decide), hrn4, hrcl⟩, _, rfl, hrv⟩
        simp only [List.set_cons_zero, List.set_cons_succ, List.eraseIdx_cons_zero, List.eraseIdx_cons_succ, List.cons_append, List.nil_append]
        (repeat' (first | refine X.rq ?_ | (refine X.rc ?_ ?_ <;> intro hc <;> first | (exfalso; omega) | skip)))
        refine K.l_call (Fx.cal rfl) rfl (RTake h3 Bw (bufV a rows.length cap) cnt (by omega)) (K.pp [4] rfl) rfl ?_
        rintro u h4 H' - ⟨e4, rfl, rfl⟩
        obtain rfl := e4.symm
        simp only [List.set_cons_zero, List.set_cons_succ, List.eraseIdx_cons_zero, List.eraseIdx_cons_succ, List.cons_append, List.nil_append]
        (repeat' (first | refine X.rq ?_ | (refine X.rc ?_ ?_ <;> intro hc <;> first | (exfalso; omega) | skip)))
        refine X.sto ?_
        simp only [List.set_cons_zero, List.set_cons_succ, List.eraseIdx_cons_zero, List.eraseIdx_cons_succ, List.cons_append, List.nil_append]
        (repeat' (first | refine X.rq ?_ | (refine X.rc ?_ ?_ <;> intro hc <;> first | (exfalso; omega) | skip)))
        refine K.l_call (Fx.cal rfl) rfl (RTake h3 Bw (bufV a rows.length cap) (cnt + 1) (by omega)) (K.pp [0] rfl) rfl ?_
        rintro u h4 H' - ⟨e4, rfl, rfl⟩
        obtain rfl := e4.symm
        simp only [List.set_cons_zero, List.set_cons_succ, List.eraseIdx_cons_zero, List.eraseIdx_cons_succ, List.cons_append, List.nil_append]
        (repeat' (first | refine X.rq ?_ | (refine X.rc ?_ ?_ <;> intro hc <;> first | (exfalso; omega) | skip)))
        refine X.sto ?_
        simp only [List.set_cons_zero, List.set_cons_succ, List.eraseIdx_cons_zero, List.eraseIdx_cons_succ, List.cons_append, List.nil_append]
        (repeat' (first | refine X.rq ?_ | (refine X.rc ?_ ?_ <;> intro hc <;> first | (exfalso; omega) | skip)))
        refine K.l_call (Fx.cal rfl) rfl (RUpC h3 (entQ p c) 0 (by omega) (by decide)) (K.pp [] rfl) rfl ?_
        rintro u h5 H' le5 ⟨rfl, cs5, rfl, hup⟩
        obtain ⟨_, _, ao7, ca7, rfl, _⟩ := id hup
        have hpL := hpL.le le5
        have hpR := hpR.le le5
        have hr2 := hr2.le le5
        simp only [List.set_cons_zero, List.set_cons_succ, List.eraseIdx_cons_zero, List.eraseIdx_cons_succ, List.cons_append, List.nil_append]
        refine K.l_alloc (Fx.zr rfl) rfl rfl (fun B20 => ?_)
        refine X.stw ?_
        simp only [List.set_cons_zero, List.set_cons_succ, List.eraseIdx_cons_zero, List.eraseIdx_cons_succ, List.cons_append, List.nil_append]
        (repeat' (first | refine X.rq ?_ | (refine X.rc ?_ ?_ <;> intro hc <;> first | (exfalso; omega) | skip)))
        refine X.draw ([blk Bw 89 (wkV (bufV a rows.length cap) (.slice none 0 0) (cnt + 1 + 1)),blk B7 55 (cP p (.slice ao p.cells.length ca)),blk B20 52 [.bool (upQ (entQ p c) 0).used, .int .u32 (upQ (entQ p c) 0).killer, .slice ao7 (upQ (entQ p c) 0).data.length ca7]]) [17] (.pu 0 (.pu 1 (.pu 2 (.pu 3 (.pu 5 (.pu 6 (.pu 8 (.st 4 (.st 7 (.st 9 (.on 10 (.pu 11 (.pu 12 (.on 13 (.on 14 (.pu 15 (.pu 16 (.cl 17 .nil)))))))))))))))))) ?_ (hQ := by repeat (first | with_reducible refine K.NoPanic.then ?_ | with_reducible refine K.NoPanic.inBlock ?_ | with_reducible exact K.post_noPanic _ _ | exact K.post_noPanic _ _ | exact K.QN_noPanic | exact K.postS_noPanic | exact K.postX_noPanic | exact K.RPX_noPanic))
        refine K.d_pu rfl (fun _ _ => X.mv) rfl ?_
        refine K.d_pu rfl (fun _ _ => X.mv) rfl ?_
        refine K.d_pu rfl (fun _ _ => X.nc) rfl ?_
        refine K.d_pu rfl (fun _ _ => X.fa) rfl ?_
        refine K.d_pu rfl (fun _ _ => X.mv) rfl ?_
        refine K.d_pu rfl (fun _ _ => X.fa) rfl ?_
        refine K.d_pu rfl (fun _ _ => X.mv) rfl ?_
        refine K.d_st rfl X.ld rfl ?_
        refine K.d_st rfl X.ld rfl ?_
        refine K.d_st rfl X.ld rfl ?_
        refine K.d_on rfl (fun KK hKK => ?_)
        refine K.l_buildSlice (Fx.und rfl) (Fx.sz rfl) rfl (Fx.zr rfl) rfl rfl rfl (cs := [.bool (upQ (entQ p c) 0).used, .int .u32 (upQ (entQ p c) 0).killer, .slice ao7 (upQ (entQ p c) 0).data.length ca7]) rfl rfl (fun BS => ?_)
        refine K.WL.bufOf (m := 1) (s := 3) rfl (by unfold maxLen; omega) ?_
        refine K.WL.freezeRow (es := [[.bool (upQ (entQ p c) 0).used, .int .u32 (upQ (entQ p c) 0).killer, .slice ao7 (upQ (entQ p c) 0).data.length ca7]]) (fun e he => by rw [List.mem_singleton.1 he]; rfl) (fun h6 le6 hs6 _ => ?_)
        refine K.l_nil ?_
        refine X.onE hKK ?_
        refine K.d_pu rfl (fun _ _ => X.bd) rfl ?_
        refine K.d_pu rfl (fun _ _ => X.bd) rfl ?_
        refine K.d_on rfl (fun KK hKK => ?_)
        refine K.l_buildSlice (Fx.und rfl) (Fx.sz rfl) rfl (Fx.zr rfl) rfl rfl rfl (cs := uV n :: cP ⟨3, p.lsn, 0, [upQ (entQ p c) 0]⟩ (bufV (some BS) 1 1)) rfl rfl (fun B30 => ?_)
        refine K.l_nil ?_
        refine X.onE hKK ?_
        refine K.d_on rfl (fun KK hKK => ?_)
        refine K.l_append_at 7 rfl (Fx.und rfl) (Fx.und rfl) rfl (Fx.sz rfl) (Fx.zr rfl) rfl (Fx.byt rfl) rfl rfl (K.src_cells (K.cels_own (pre := []) (cs := uV n :: cP ⟨3, p.lsn, 0, [upQ (entQ p c) 0]⟩ (bufV (some BS) 1 1)) (post := []) 0 rfl rfl) rfl (by simp [oneCell, cP, bufV])) (by omega) (by omega) rfl (fun a6 k6 => ?_)
        refine K.l_nil ?_
        refine X.onE hKK ?_
        refine K.d_pu rfl (fun _ _ => X.nc) rfl ?_
        refine K.d_pu rfl (fun _ _ => X.fa) rfl ?_
        refine K.d_cl rfl (fun KK hKK => ?_)
        refine X.sto ?_
        refine K.l_nil ?_
        refine K.d_clE hKK ?_
        refine K.d_nil ?_
        have hpT : PagC h6 (cP ⟨3, p.lsn, 0, [upQ (entQ p c) 0]⟩ (bufV (some BS) 1 1)) ⟨3, p.lsn, 0, [upQ (entQ p c) 0]⟩ := ⟨⟨⟨show (-9223372036854775808 : Int) ≤ 3 by decide, show (3 : Int) ≤ 9223372036854775807 by decide⟩, hw.lsn, (show (0 : Nat) < 4294967296 by decide), show (1 : Nat) ≤ 9223372036854775807 by decide⟩, _, rfl, CellsV.of (l := [upQ (entQ p c) 0]) hs6 (by exact RowC.single (hup.le le6))⟩
        have hpL := hpL.le le6
        have hpR := hpR.le le6
        have hr2 := RowsI.snoc (hr2.le le6) hn hpT
        have hup := hup.le le6
        simp only [List.set_cons_zero, List.set_cons_succ, List.eraseIdx_cons_zero, List.eraseIdx_cons_succ, List.cons_append, List.nil_append]
        (repeat' (first | refine X.rq ?_ | (refine X.rc ?_ ?_ <;> intro hc <;> first | (exfalso; omega) | skip)))
        refine X.draw ([blk Bw 89 (wkV (bufV a6 (rows.length + 1) k6) (.slice none 0 0) (cnt + 1 + 1)),blk B14 55 (cP ⟨p.kind, 0, 0, lcQ p c⟩ (.slice al (lcQ p c).length cl)),blk B15 55 (cP ⟨p.kind, 0, rnQ p c, rcQ p c⟩ (.slice ar2 (rcQ p c).length cr))]) [15] (.pu 0 (.pu 1 (.pu 2 (.pu 3 (.pu 5 (.pu 8 (.st 4 (.st 6 (.pu 7 (.st 9 (.pu 10 (.on 11 (.on 12 (.pu 13 (.pu 14 (.cl 15 .nil)))))))))))))))) ?_ (hQ := by repeat (first | with_reducible refine K.NoPanic.then ?_ | with_reducible refine K.NoPanic.inBlock ?_ | with_reducible exact K.post_noPanic _ _ | exact K.post_noPanic _ _ | exact K.QN_noPanic | exact K.postS_noPanic | exact K.postX_noPanic | exact K.RPX_noPanic))
        refine K.d_pu rfl (fun _ _ => X.mv) rfl ?_
        refine K.d_pu rfl (fun _ _ => X.mv) rfl ?_
        refine K.d_pu rfl (fun _ _ => X.nc) rfl ?_
        refine K.d_pu rfl (fun _ _ => X.fa) rfl ?_
        refine K.d_pu rfl (fun _ _ => X.mv) rfl ?_
        refine K.d_pu rfl (fun _ _ => X.mv) rfl ?_
        refine K.d_st rfl X.ld rfl ?_
        refine K.d_st rfl X.ld rfl ?_
        refine K.d_pu rfl (fun _ _ => X.bd) rfl ?_
        refine K.d_st rfl X.ld rfl ?_
        refine K.d_pu rfl (fun _ _ => X.bd) rfl ?_
        refine K.d_on rfl (fun KK hKK => ?_)
        refine K.l_buildSlice (Fx.und rfl) (Fx.sz rfl) rfl (Fx.zr rfl) rfl rfl rfl (cs := (uV 0 :: cP ⟨p.kind, 0, 0, lcQ p c⟩ (.slice al (lcQ p c).length cl)) ++ (uV 0 :: cP ⟨p.kind, 0, rnQ p c, rcQ p c⟩ (.slice ar2 (rcQ p c).length cr))) rfl rfl (fun B31 => ?_)
        refine K.l_nil ?_
        refine X.onE hKK ?_
        refine K.d_on rfl (fun KK hKK => ?_)
        refine K.l_append_at 8 rfl (Fx.und rfl) (Fx.und rfl) rfl (Fx.sz rfl) (Fx.zr rfl) rfl (Fx.byt rfl) rfl rfl (K.src_cells (K.cels_own (pre := []) (cs := (uV 0 :: cP ⟨p.kind, 0, 0, lcQ p c⟩ (.slice al (lcQ p c).length cl)) ++ (uV 0 :: cP ⟨p.kind, 0, rnQ p c, rcQ p c⟩ (.slice ar2 (rcQ p c).length cr))) (post := []) 0 rfl rfl) rfl (by simp [oneCell, cP, bufV])) (by omega) (by omega) rfl (fun a7 k7 => ?_)
        refine K.l_nil ?_
        refine X.onE hKK ?_
        refine K.d_pu rfl (fun _ _ => X.nc) rfl ?_
        refine K.d_pu rfl (fun _ _ => X.fa) rfl ?_
        refine K.d_cl rfl (fun KK hKK => ?_)
        refine X.sto ?_
        refine K.l_nil ?_
        refine K.d_clE hKK ?_
        refine K.d_nil ?_
        (repeat' (first | refine X.rq ?_ | (refine X.rc ?_ ?_ <;> intro hc <;> first | (exfalso; omega) | skip)))
        refine X.stw ?_
        simp only [List.set_cons_zero, List.set_cons_succ, List.eraseIdx_cons_zero, List.eraseIdx_cons_succ, List.cons_append, List.nil_append]
        (repeat' (first | refine X.rq ?_ | (refine X.rc ?_ ?_ <;> intro hc <;> first | (exfalso; omega) | skip)))
        have hri := RowsI.snoc (RowsI.snoc hr2 (show (0 : Nat) < 4294967296 by decide) hpL) (show (0 : Nat) < 4294967296 by decide) hpR
        refine K.AT.perm (K.pp [6, 0, 0, 0, 1, 1, 1] rfl) ?_
        simp only [List.set_cons_zero, List.set_cons_succ, List.eraseIdx_cons_zero, List.eraseIdx_cons_succ, List.cons_append, List.nil_append]
        refine K.doneC (vs := [.agg [.bool (upQ (entQ p c) 0).used, .int .u32 (upQ (entQ p c) 0).killer, .slice ao7 (upQ (entQ p c) 0).data.length ca7].toArray]) (by first | exact Or.inl rfl | exact Or.inr rfl) (.cell rfl (Fx.agg rfl) (Fx.sz rfl) (K.cels_own (pre := []) (post := []) 0 rfl rfl) .nil) (hle1.trans (le2.trans (le3.trans (le5.trans le6)))) (D := [_, _, _, _, _, _, _]) (H' := [_, _]) rfl ⟨a7, k7, (((rows ++ [uV n :: cP ⟨3, p.lsn, 0, [upQ (entQ p c) 0]⟩ (bufV (some BS) 1 1)]) ++ [uV 0 :: cP ⟨p.kind, 0, 0, lcQ p c⟩ (.slice al (lcQ p c).length cl)]) ++ [uV 0 :: cP ⟨p.kind, 0, rnQ p c, rcQ p c⟩ (.slice ar2 (rcQ p c).length cr)]), _, rfl, hup, ?_, ?_⟩
        · rw [ediv]
          simpa using hri
        · have el : (((rows ++ [uV n :: cP ⟨3, p.lsn, 0, [upQ (entQ p c) 0]⟩ (bufV (some BS) 1 1)]) ++ [uV 0 :: cP ⟨p.kind, 0, 0, lcQ p c⟩ (.slice al (lcQ p c).length cl)]) ++ [uV 0 :: cP ⟨p.kind, 0, rnQ p c, rcQ p c⟩ (.slice ar2 (rcQ p c).length cr)]).length = (rows.length + 1) + 2 := by simp
          have ef : (((rows ++ [uV n :: cP ⟨3, p.lsn, 0, [upQ (entQ p c) 0]⟩ (bufV (some BS) 1 1)]) ++ [uV 0 :: cP ⟨p.kind, 0, 0, lcQ p c⟩ (.slice al (lcQ p c).length cl)]) ++ [uV 0 :: cP ⟨p.kind, 0, rnQ p c, rcQ p c⟩ (.slice ar2 (rcQ p c).length cr)]).flatten = (rows.flatten ++ (uV n :: cP ⟨3, p.lsn, 0, [upQ (entQ p c) 0]⟩ (bufV (some BS) 1 1))) ++ ((uV 0 :: cP ⟨p.kind, 0, 0, lcQ p c⟩ (.slice al (lcQ p c).length cl)) ++ (uV 0 :: cP ⟨p.kind, 0, rnQ p c, rcQ p c⟩ (.slice ar2 (rcQ p c).length cr))) := by simp
          rw [el, ef]
          rfl
      · have elq : leftQ p c true [] = ⟨p.kind, 0, p.next, lcQ p c⟩ := by unfold leftQ frQ fs1; simp [hk]
        have ediv : divI n p c true [] = [⟨n, ⟨3, p.lsn, 0, [upQ (entQ p c) 0]⟩⟩, ⟨0, ⟨p.kind, 0, p.next, lcQ p c⟩⟩, ⟨0, ⟨p.kind, 0, rnQ p c, rcQ p c⟩⟩] := by unfold divI; rw [elq]; rfl
        (repeat' (first | refine X.rq ?_ | (refine X.rc ?_ ?_ <;> intro hc <;> first | (exfalso; omega) | skip)))
        refine K.WL.perm (K.pp [1] rfl) ?_
        refine K.WL.freezeRowN (es := eL) hL.1.symm hL.2.1 (fun h2 le2 hs2 => ?_)
        refine K.WL.perm (K.pp [2] rfl) ?_
        refine K.WL.freezeRowN (es := eR) hR.1.symm hR.2.1 (fun h3 le3 hs3 => ?_)
        have hlv : CellsV h3 _ (lcQ p c) := CellsV.of (hs2.le le3) (hL.le (le2.trans le3))
        have hrv : CellsV h3 _ (rcQ p c) := CellsV.of hs3 (hR.le (le2.trans le3))
        obtain ⟨al, cl, el⟩ : ∃ al cl, bufV aL (lcQ p c).length cL = .slice al (lcQ p c).length cl := ⟨_, _, rfl⟩
        obtain ⟨ar2, cr, er2⟩ : ∃ al cl, bufV aR (rcQ p c).length cR = .slice al (rcQ p c).length cl := ⟨_, _, rfl⟩
        rw [el] at hlv
        rw [er2] at hrv
        rw [el, er2]
        clear hs2 hs3 hL hR el er2 hKL
        have hr2 := hr.le (hle1.trans (le2.trans le3))
        have hpL : PagC h3 (cP ⟨p.kind, 0, p.next, lcQ p c⟩ (.slice al (lcQ p c).length cl)) ⟨p.kind, 0, p.next, lcQ p c⟩ := ⟨⟨hw.kind, (show (0 : Nat) < 18446744073709551616 by decide), hw.next, hlcl⟩, _, rfl, hlv⟩
        have hpR : PagC h3 (cP ⟨p.kind, 0, rnQ p c, rcQ p c⟩ (.slice ar2 (rcQ p c).length cr)) ⟨p.kind, 0, rnQ p c, rcQ p c⟩ := ⟨⟨hw.kind, (show (0 : Nat) < 18446744073709551616 by decide), hrn4, hrcl⟩, _, rfl, hrv⟩
        simp only [List.set_cons_zero, List.set_cons_succ, List.eraseIdx_cons_zero, List.eraseIdx_cons_succ, List.cons_append, List.nil_append]
        (repeat' (first | refine X.rq ?_ | (refine X.rc ?_ ?_ <;> intro hc <;> first | (exfalso; omega) | skip)))
        refine K.l_call (Fx.cal rfl) rfl (RTake h3 Bw (bufV a rows.length cap) cnt (by omega)) (K.pp [4] rfl) rfl ?_
        rintro u h4 H' - ⟨e4, rfl, rfl⟩
        obtain rfl := e4.symm
        simp only [List.set_cons_zero, List.set_cons_succ, List.eraseIdx_cons_zero, List.eraseIdx_cons_succ, List.cons_append, List.nil_append]
        (repeat' (first | refine X.rq ?_ | (refine X.rc ?_ ?_ <;> intro hc <;> first | (exfalso; omega) | skip)))
        refine X.sto ?_
        simp only [List.set_cons_zero, List.set_cons_succ, List.eraseIdx_cons_zero, List.eraseIdx_cons_succ, List.cons_append, List.nil_append]
        (repeat' (first | refine X.rq ?_ | (refine X.rc ?_ ?_ <;> intro hc <;> first | (exfalso; omega) | skip)))
        refine K.l_call (Fx.cal rfl) rfl (RTake h3 Bw (bufV a rows.length cap) (cnt + 1) (by omega)) (K.pp [0] rfl) rfl ?_
        rintro u h4 H' - ⟨e4, rfl, rfl⟩
        obtain rfl := e4.symm
        simp only [List.set_cons_zero, List.set_cons_succ, List.eraseIdx_cons_zero, List.eraseIdx_cons_succ, List.cons_append, List.nil_append]
        (repeat' (first | refine X.rq ?_ | (refine X.rc ?_ ?_ <;> intro hc <;> first | (exfalso; omega) | skip)))
        refine K.l_call (Fx.cal rfl) rfl (RUpC h3 (entQ p c) 0 (by omega) (by decide)) (K.pp [] rfl) rfl ?_
        rintro u h5 H' le5 ⟨rfl, cs5, rfl, hup⟩
        obtain ⟨_, _, ao7, ca7, rfl, _⟩ := id hup
        have hpL := hpL.le le5
        have hpR := hpR.le le5
        have hr2 := hr2.le le5
        simp only [List.set_cons_zero, List.set_cons_succ, List.eraseIdx_cons_zero, List.eraseIdx_cons_succ, List.cons_append, List.nil_append]
        refine K.l_alloc (Fx.zr rfl) rfl rfl (fun B20 => ?_)
        refine X.stw ?_
        simp only [List.set_cons_zero, List.set_cons_succ, List.eraseIdx_cons_zero, List.eraseIdx_cons_succ, List.cons_append, List.nil_append]
        (repeat' (first | refine X.rq ?_ | (refine X.rc ?_ ?_ <;> intro hc <;> first | (exfalso; omega) | skip)))
        refine X.draw ([blk Bw 89 (wkV (bufV a rows.length cap) (.slice none 0 0) (cnt + 1 + 1)),blk B7 55 (cP p (.slice ao p.cells.length ca)),blk B20 52 [.bool (upQ (entQ p c) 0).used, .int .u32 (upQ (entQ p c) 0).killer, .slice ao7 (upQ (entQ p c) 0).data.length ca7]]) [17] (.pu 0 (.pu 1 (.pu 2 (.pu 3 (.pu 5 (.pu 6 (.pu 8 (.st 4 (.st 7 (.st 9 (.on 10 (.pu 11 (.pu 12 (.on 13 (.on 14 (.pu 15 (.pu 16 (.cl 17 .nil)))))))))))))))))) ?_ (hQ := by repeat (first | with_reducible refine K.NoPanic.then ?_ | with_reducible refine K.NoPanic.inBlock ?_ | with_reducible exact K.post_noPanic _ _ | exact K.post_noPanic _ _ | exact K.QN_noPanic | exact K.postS_noPanic | exact K.postX_noPanic | exact K.RPX_noPanic))
        refine K.d_pu rfl (fun _ _ => X.mv) rfl ?_
        refine K.d_pu rfl (fun _ _ => X.mv) rfl ?_
        refine K.d_pu rfl (fun _ _ => X.nc) rfl ?_
        refine K.d_pu rfl (fun _ _ => X.fa) rfl ?_
        refine K.d_pu rfl (fun _ _ => X.mv) rfl ?_
        refine K.d_pu rfl (fun _ _ => X.fa) rfl ?_
        refine K.d_pu rfl (fun _ _ => X.mv) rfl ?_
        refine K.d_st rfl X.ld rfl ?_
        refine K.d_st rfl X.ld rfl ?_
        refine K.d_st rfl X.ld rfl ?_
        refine K.d_on rfl (fun KK hKK => ?_)
        refine K.l_buildSlice (Fx.und rfl) (Fx.sz rfl) rfl (Fx.zr rfl) rfl rfl rfl (cs := [.bool (upQ (entQ p c) 0).used, .int .u32 (upQ (entQ p c) 0).killer, .slice ao7 (upQ (entQ p c) 0).data.length ca7]) rfl rfl (fun BS => ?_)
        refine K.WL.bufOf (m := 1) (s := 3) rfl (by unfold maxLen; omega) ?_
        refine K.WL.freezeRow (es := [[.bool (upQ (entQ p c) 0).used, .int .u32 (upQ (entQ p c) 0).killer, .slice ao7 (upQ (entQ p c) 0).data.length ca7]]) (fun e he => by rw [List.mem_singleton.1 he]; rfl) (fun h6 le6 hs6 _ => ?_)
        refine K.l_nil ?_
        refine X.onE hKK ?_
        refine K.d_pu rfl (fun _ _ => X.bd) rfl ?_
        refine K.d_pu rfl (fun _ _ => X.bd) rfl ?_
        refine K.d_on rfl (fun KK hKK => ?_)
        refine K.l_buildSlice (Fx.und rfl) (Fx.sz rfl) rfl (Fx.zr rfl) rfl rfl rfl (cs := uV n :: cP ⟨3, p.lsn, 0, [upQ (entQ p c) 0]⟩ (bufV (some BS) 1 1)) rfl rfl (fun B30 => ?_)
        refine K.l_nil ?_
        refine X.onE hKK ?_
        refine K.d_on rfl (fun KK hKK => ?_)
        refine K.l_append_at 7 rfl (Fx.und rfl) (Fx.und rfl) rfl (Fx.sz rfl) (Fx.zr rfl) rfl (Fx.byt rfl) rfl rfl (K.src_cells (K.cels_own (pre := []) (cs := uV n :: cP ⟨3, p.lsn, 0, [upQ (entQ p c) 0]⟩ (bufV (some BS) 1 1)) (post := []) 0 rfl rfl) rfl (by simp [oneCell, cP, bufV])) (by omega) (by omega) rfl (fun a6 k6 => ?_)
        refine K.l_nil ?_
        refine X.onE hKK ?_
        refine K.d_pu rfl (fun _ _ => X.nc) rfl ?_
        refine K.d_pu rfl (fun _ _ => X.fa) rfl ?_
        refine K.d_cl rfl (fun KK hKK => ?_)
        refine X.sto ?_
        refine K.l_nil ?_
        refine K.d_clE hKK ?_
        refine K.d_nil ?_
        have hpT : PagC h6 (cP ⟨3, p.lsn, 0, [upQ (entQ p c) 0]⟩ (bufV (some BS) 1 1)) ⟨3, p.lsn, 0, [upQ (entQ p c) 0]⟩ := ⟨⟨⟨show (-9223372036854775808 : Int) ≤ 3 by decide, show (3 : Int) ≤ 9223372036854775807 by decide⟩, hw.lsn, (show (0 : Nat) < 4294967296 by decide), show (1 : Nat) ≤ 9223372036854775807 by decide⟩, _, rfl, CellsV.of (l := [upQ (entQ p c) 0]) hs6 (by exact RowC.single (hup.le le6))⟩
        have hpL := hpL.le le6
        have hpR := hpR.le le6
        have hr2 := RowsI.snoc (hr2.le le6) hn hpT
        have hup := hup.le le6
        simp only [List.set_cons_zero, List.set_cons_succ, List.eraseIdx_cons_zero, List.eraseIdx_cons_succ, List.cons_append, List.nil_append]
        (repeat' (first | refine X.rq ?_ | (refine X.rc ?_ ?_ <;> intro hc <;> first | (exfalso; omega) | skip)))
        refine X.draw ([blk Bw 89 (wkV (bufV a6 (rows.length + 1) k6) (.slice none 0 0) (cnt + 1 + 1)),blk B14 55 (cP ⟨p.kind, 0, p.next, lcQ p c⟩ (.slice al (lcQ p c).length cl)),blk B15 55 (cP ⟨p.kind, 0, rnQ p c, rcQ p c⟩ (.slice ar2 (rcQ p c).length cr))]) [15] (.pu 0 (.pu 1 (.pu 2 (.pu 3 (.pu 5 (.pu 8 (.st 4 (.st 6 (.pu 7 (.st 9 (.pu 10 (.on 11 (.on 12 (.pu 13 (.pu 14 (.cl 15 .nil)))))))))))))))) ?_ (hQ := by repeat (first | with_reducible refine K.NoPanic.then ?_ | with_reducible refine K.NoPanic.inBlock ?_ | with_reducible exact K.post_noPanic _ _ | exact K.post_noPanic _ _ | exact K.QN_noPanic | exact K.postS_noPanic | exact K.postX_noPanic | exact K.RPX_noPanic))
        refine K.d_pu rfl (fun _ _ => X.mv) rfl ?_
        refine K.d_pu rfl (fun _ _ => X.mv) rfl ?_
        refine K.d_pu rfl (fun _ _ => X.nc) rfl ?_
        refine K.d_pu rfl (fun _ _ => X.fa) rfl ?_
        refine K.d_pu rfl (fun _ _ => X.mv) rfl ?_
        refine K.d_pu rfl (fun _ _ => X.mv) rfl ?_
        refine K.d_st rfl X.ld rfl ?_
        refine K.d_st rfl X.ld rfl ?_
        refine K.d_pu rfl (fun _ _ => X.bd) rfl ?_
        refine K.d_st rfl X.ld rfl ?_
        refine K.d_pu rfl (fun _ _ => X.bd) rfl ?_
        refine K.d_on rfl (fun KK hKK => ?_)
        refine K.l_buildSlice (Fx.und rfl) (Fx.sz rfl) rfl (Fx.zr rfl) rfl rfl rfl (cs := (uV 0 :: cP ⟨p.kind, 0, p.next, lcQ p c⟩ (.slice al (lcQ p c).length cl)) ++ (uV 0 :: cP ⟨p.kind, 0, rnQ p c, rcQ p c⟩ (.slice ar2 (rcQ p c).length cr))) rfl rfl (fun B31 => ?_)
        refine K.l_nil ?_
        refine X.onE hKK ?_
        refine K.d_on rfl (fun KK hKK => ?_)
        refine K.l_append_at 8 rfl (Fx.und rfl) (Fx.und rfl) rfl (Fx.sz rfl) (Fx.zr rfl) rfl (Fx.byt rfl) rfl rfl (K.src_cells (K.cels_own (pre := []) (cs := (uV 0 :: cP ⟨p.kind, 0, p.next, lcQ p c⟩ (.slice al (lcQ p c).length cl)) ++ (uV 0 :: cP ⟨p.kind, 0, rnQ p c, rcQ p c⟩ (.slice ar2 (rcQ p c).length cr))) (post := []) 0 rfl rfl) rfl (by simp [oneCell, cP, bufV])) (by omega) (by omega) rfl (fun a7 k7 => ?_)
        refine K.l_nil ?_
        refine X.onE hKK ?_
        refine K.d_pu rfl (fun _ _ => X.nc) rfl ?_
        refine K.d_pu rfl (fun _ _ => X.fa) rfl ?_
        refine K.d_cl rfl (fun KK hKK => ?_)
        refine X.sto ?_
        refine K.l_nil ?_
        refine K.d_clE hKK ?_
        refine K.d_nil ?_
        (repeat' (first | refine X.rq ?_ | (refine X.rc ?_ ?_ <;> intro hc <;> first | (exfalso; omega) | skip)))
        refine X.stw ?_
        simp only [List.set_cons_zero, List.set_cons_succ, List.eraseIdx_cons_zero, List.eraseIdx_cons_succ, List.cons_append, List.nil_append]
        (repeat' (first | refine X.rq ?_ | (refine X.rc ?_ ?_ <;> intro hc <;> first | (exfalso; omega) | skip)))
        have hri := RowsI.snoc (RowsI.snoc hr2 (show (0 : Nat) < 4294967296 by decide) hpL) (show (0 : Nat) < 4294967296 by decide) hpR
        refine K.AT.perm (K.pp [6, 0, 0, 0, 1, 1, 1] rfl) ?_
        simp only [List.set_cons_zero, List.set_cons_succ, List.eraseIdx_cons_zero, List.eraseIdx_cons_succ, List.cons_append, List.nil_append]
        refine K.doneC (vs := [.agg [.bool (upQ (entQ p c) 0).used, .int .u32 (upQ (entQ p c) 0).killer, .slice ao7 (upQ (entQ p c) 0).data.length ca7].toArray]) (by first | exact Or.inl rfl | exact Or.inr rfl) (.cell rfl (Fx.agg rfl) (Fx.sz rfl) (K.cels_own (pre := []) (post := []) 0 rfl rfl) .nil) (hle1.trans (le2.trans (le3.trans (le5.trans le6)))) (D := [_, _, _, _, _, _, _]) (H' := [_, _]) rfl ⟨a7, k7, (((rows ++ [uV n :: cP ⟨3, p.lsn, 0, [upQ (entQ p c) 0]⟩ (bufV (some BS) 1 1)]) ++ [uV 0 :: cP ⟨p.kind, 0, p.next, lcQ p c⟩ (.slice al (lcQ p c).length cl)]) ++ [uV 0 :: cP ⟨p.kind, 0, rnQ p c, rcQ p c⟩ (.slice ar2 (rcQ p c).length cr)]), _, rfl, hup, ?_, ?_⟩
        · rw [ediv]
          simpa using hri
        · have el : (((rows ++ [uV n :: cP ⟨3, p.lsn, 0, [upQ (entQ p c) 0]⟩ (bufV (some BS) 1 1)]) ++ [uV 0 :: cP ⟨p.kind, 0, p.next, lcQ p c⟩ (.slice al (lcQ p c).length cl)]) ++ [uV 0 :: cP ⟨p.kind, 0, rnQ p c, rcQ p c⟩ (.slice ar2 (rcQ p c).length cr)]).length = (rows.length + 1) + 2 := by simp
          have ef : (((rows ++ [uV n :: cP ⟨3, p.lsn, 0, [upQ (entQ p c) 0]⟩ (bufV (some BS) 1 1)]) ++ [uV 0 :: cP ⟨p.kind, 0, p.next, lcQ p c⟩ (.slice al (lcQ p c).length cl)]) ++ [uV 0 :: cP ⟨p.kind, 0, rnQ p c, rcQ p c⟩ (.slice ar2 (rcQ p c).length cr)]).flatten = (rows.flatten ++ (uV n :: cP ⟨3, p.lsn, 0, [upQ (entQ p c) 0]⟩ (bufV (some BS) 1 1))) ++ ((uV 0 :: cP ⟨p.kind, 0, p.next, lcQ p c⟩ (.slice al (lcQ p c).length cl)) ++ (uV 0 :: cP ⟨p.kind, 0, rnQ p c, rcQ p c⟩ (.slice ar2 (rcQ p c).length cr))) := by simp
          rw [el, ef]
          rfl

def rneedQ (G : Option GetQ) (path : List Nat) (s : List UInt8) : Except Int PlS := match startQ G path s with
  | .error e => .error e
  | .ok _ => planQ G path s []
def RPlanU (r : Except Int PlS) (v : Value) (H' : List Asrt) : Prop := (∃ st Bw iv, r = .ok st ∧ v = .tuple #[.pointer (some ⟨Bw, 0, none⟩), .int .i64 0] ∧ H' = [blk Bw 89 (wkV iv (.slice none 0 0) st.cnt)]) ∨ (∃ e, r = .error e ∧ e ≠ 0 ∧ v = .tuple #[.pointer none, .int .i64 e] ∧ H' = [])
theorem get_ok {h : Base} {r : Except Int Pag} {v : Value} {p : Pag} (hg : GetR h r v) (hr : r = .ok p) : ∃ cs, v = .tuple #[.agg cs.toArray, .int .i64 0] ∧ PagC h cs p := by
  obtain ⟨p', cs, e, rfl, hp, _, ⟨rfl, h1⟩ | ⟨h1, h2⟩⟩ := hg
  · rw [hr] at h1; cases h1; exact ⟨cs, rfl, hp⟩
  · rw [hr] at h2; cases h2
theorem cells_up {p : Pag} (h : goodP p = true) : p.cells.Pairwise fun a b => lt8 (keyQ p.kind a) (keyQ p.kind b) = true := by
  obtain ⟨a, b, c⟩ := good_iff.1 h
  have hm := (mayQ_iff p).1 a
  refine pair_of (R := fun a b : PCell => lt8 (keyQ p.kind a) (keyQ p.kind b) = true) (fun a b c h1 h2 => lt8_trans h1 h2) fun i x y hx hy => ?_
  have := ((hm.2.2.1 (i + 1) y hy).2.2 b).2.2 (by omega)
  rw [ltPrev, show i + 1 - 1 = i by omega, hx] at this
  have h2 := of_decide_eq_true this
  show Op.bytesLess _ _ = true
  rw [K.less_iff]
  exact decide_eq_true h2
theorem back_drop {l : List Nat} {i : Nat} (h : i < l.length) : ∃ n, l[i]? = some n ∧ (backQ l).drop (l.length - (i + 1)) = (i, n) :: (backQ l).drop (l.length - i) := by
  have hj : l.length - (i + 1) < l.length := by omega
  have h1 := back_at hj
  have h2 : l.length - (i + 1) < (backQ l).length := by rw [back_len]; exact hj
  refine ⟨l.getD i 0, by rw [List.getD_eq_getElem?_getD, List.getElem?_eq_getElem h]; rfl, ?_⟩
  rw [List.drop_eq_getElem_cons h2, (List.getElem?_eq_some_iff.1 h1).2, show l.length - 1 - (l.length - (i + 1)) = i by omega, show l.length - (i + 1) + 1 = l.length - i by omega]
structure RlS where
  k : Nat
  hb : Base
  M : PlM
structure RpT where
  hb : Base
  M : PlM
/-- The memory of the document's plan under way. -/
def rplA (B4 B17 Bw : Nat) (ct : List Value) (M : PlM) : List Asrt :=
  [blk Bw 89 (wkV (bufV M.a M.rows.length M.cap) (.slice none 0 0) M.st.cnt), bufA 58 5 M.a M.rows.length M.cap M.rows.flatten, blk B17 52 M.cc, blk B4 26 ct]
set_option maxHeartbeats 8000000 in
theorem RPlan (h : Base) (cs : List Value) (t : PTree) (v : Value) (path : List Nat) (s : List UInt8) (hx : TreeC h cs t) (hv : U32s h v path) (hl : path.length ≤ 1000000) :
    Tr Try.prog 41 [.agg cs.toArray, v, txt s, .slice none 0 0] h [] (fun u h' H' => RPlanU (rneedQ (some (treeG t)) path s) u H') := by
  have hx0 := hx
  obtain ⟨hb, he, hpl, pv, rfl, es, hes, hel, hr⟩ := hx
  obtain ⟨at0, ct0, rfl⟩ := hes.len
  rw [hel] at hx0 ⊢
  obtain ⟨ao, ca, rfl⟩ := hv.len
  have hok := okG_tree t
  have hsz := txt_size s
  have bad : (path = [] ∨ path.headD 0 = 0 ∨ isEntryQ s = false) → rneedQ (some (treeG t)) path s = .error 1 := fun h => by rw [rneedQ, startQ, if_pos h]
  refine K.enter Try.func41 rfl (Nat.le_of_ble_eq_true rfl) (fun F => ?_)
  simp only [List.nil_append]
  cases path with
  | nil =>
    (repeat' (first | refine X.rq ?_ | (refine X.rc ?_ ?_ <;> intro hc <;> first | (exfalso; omega) | skip)))
    refine K.l_box rfl rfl rfl (fun B4 => ?_)
    (repeat' (first | refine X.rq ?_ | (refine X.rc ?_ ?_ <;> intro hc <;> first | (exfalso; omega) | skip)))
    exact K.doneC (vs := [.pointer none, .int .i64 1]) (by first | exact Or.inl rfl | exact Or.inr rfl) (.tmp rfl (.tmp rfl .nil)) (K.Base.le.refl _) (D := [_]) (H' := []) rfl (.inr ⟨1, bad (.inl rfl), by decide, rfl, rfl⟩)
  | cons x r =>
    have hx1 : ((x :: r).map fun n => [uV n])[(0 : Int).toNat]? = some [uV x] := rfl
    have hxl := hv.2 x (List.mem_cons_self ..)
    rw [List.length_cons] at hl hv ⊢
    by_cases hx0' : x = 0
    · (repeat' (first | refine X.rq ?_ | (refine X.rc ?_ ?_ <;> intro hc <;> first | (exfalso; omega) | skip)))
      refine K.l_box rfl rfl rfl (fun B4 => ?_)
      (repeat' (first | refine X.rq ?_ | (refine X.rc ?_ ?_ <;> intro hc <;> first | (exfalso; omega) | skip)))
      try refine K.s_take rfl rfl ?_
      refine K.s_pureE (K.p_indexL hv.1 (Fx.und rfl) (Fx.sz rfl) rfl rfl (by omega) hx1) rfl ?_
      rintro v2 ⟨b, o, rfl, hcel⟩
      try refine K.s_take rfl rfl ?_
      refine K.s_pure (K.p_load (Fx.agg rfl) rfl (Cels.up hcel).1) rfl ?_
      (repeat' (first | refine X.rq ?_ | (refine X.rc ?_ ?_ <;> intro hc <;> first | (exfalso; omega) | skip)))
      exact K.doneC (vs := [.pointer none, .int .i64 1]) (by first | exact Or.inl rfl | exact Or.inr rfl) (.tmp rfl (.tmp rfl .nil)) (K.Base.le.refl _) (D := [_]) (H' := []) rfl (.inr ⟨1, bad (.inr (.inl hx0')), by decide, rfl, rfl⟩)
    cases hs : isEntryQ s with
    | false =>
      (repeat' (first | refine X.rq ?_ | (refine X.rc ?_ ?_ <;> intro hc <;> first | (exfalso; omega) | skip)))
      refine K.l_box rfl rfl rfl (fun B4 => ?_)
      (repeat' (first | refine X.rq ?_ | (refine X.rc ?_ ?_ <;> intro hc <;> first | (exfalso; omega) | skip)))
      try refine K.s_take rfl rfl ?_
      refine K.s_pureE (K.p_indexL hv.1 (Fx.und rfl) (Fx.sz rfl) rfl rfl (by omega) hx1) rfl ?_
      rintro v2 ⟨b, o, rfl, hcel⟩
      try refine K.s_take rfl rfl ?_
      refine K.s_pure (K.p_load (Fx.agg rfl) rfl (Cels.up hcel).1) rfl ?_
      (repeat' (first | refine X.rq ?_ | (refine X.rc ?_ ?_ <;> intro hc <;> first | (exfalso; omega) | skip)))
      try refine K.s_take rfl rfl ?_
      refine K.l_callV (Fx.cal rfl) rfl (RIsEntry h s) (K.pp [] rfl) rfl rfl ?_
      rw [hs]
      simp only [List.set_cons_zero, List.set_cons_succ, List.eraseIdx_cons_zero, List.eraseIdx_cons_succ, List.cons_append, List.nil_append]
      (repeat' (first | refine X.rq ?_ | (refine X.rc ?_ ?_ <;> intro hc <;> first | (exfalso; omega) | skip)))
      exact K.doneC (vs := [.pointer none, .int .i64 1]) (by first | exact Or.inl rfl | exact Or.inr rfl) (.tmp rfl (.tmp rfl .nil)) (K.Base.le.refl _) (D := [_]) (H' := []) rfl (.inr ⟨1, bad (.inr (.inr hs)), by decide, rfl, rfl⟩)
    | true =>
      (repeat' (first | refine X.rq ?_ | (refine X.rc ?_ ?_ <;> intro hc <;> first | (exfalso; omega) | skip)))
      refine K.l_box rfl rfl rfl (fun B4 => ?_)
      (repeat' (first | refine X.rq ?_ | (refine X.rc ?_ ?_ <;> intro hc <;> first | (exfalso; omega) | skip)))
      try refine K.s_take rfl rfl ?_
      refine K.s_pureE (K.p_indexL hv.1 (Fx.und rfl) (Fx.sz rfl) rfl rfl (by omega) hx1) rfl ?_
      rintro v2 ⟨b, o, rfl, hcel⟩
      try refine K.s_take rfl rfl ?_
      refine K.s_pure (K.p_load (Fx.agg rfl) rfl (Cels.up hcel).1) rfl ?_
      (repeat' (first | refine X.rq ?_ | (refine X.rc ?_ ?_ <;> intro hc <;> first | (exfalso; omega) | skip)))
      try refine K.s_take rfl rfl ?_
      refine K.l_callV (Fx.cal rfl) rfl (RIsEntry h s) (K.pp [] rfl) rfl rfl ?_
      rw [hs]
      simp only [List.set_cons_zero, List.set_cons_succ, List.eraseIdx_cons_zero, List.eraseIdx_cons_succ, List.cons_append, List.nil_append]
      (repeat' (first | refine X.rq ?_ | (refine X.rc ?_ ?_ <;> intro hc <;> first | (exfalso; omega) | skip)))
      have hst : startQ (some (treeG t)) (x :: r) s = match wayQ (some (treeG t)) s 7 x with
        | .error e => .error e
        | .ok l => if l = x :: r then .ok () else .error 1 := by
        rw [startQ, if_neg (by simp [hx0', hs])]
        rfl
      refine X.draw ([blk B4 26 (cT t (.slice at0 t.pages.length ct0))]) [] (.pu 1 (.pu 4 (.st 0 (.st 2 (.st 3 (.on 5 (.pu 6 (.pu 7 (.pu 8 (.pu 9 (.pu 10 .nil))))))))))) ?_ (hQ := by repeat (first | with_reducible refine K.NoPanic.then ?_ | with_reducible refine K.NoPanic.inBlock ?_ | with_reducible exact K.post_noPanic _ _ | exact K.post_noPanic _ _ | exact K.QN_noPanic | exact K.postS_noPanic | exact K.postX_noPanic | exact K.RPX_noPanic))
      refine K.d_pu rfl (fun _ _ => X.mv) rfl ?_
      refine K.d_pu rfl (fun _ _ => X.mv) rfl ?_
      refine K.d_st rfl X.ld rfl ?_
      refine K.d_stE rfl (K.p_indexL hv.1 (Fx.und rfl) (Fx.sz rfl) rfl rfl (by omega) hx1) rfl ?_
      rintro v3 ⟨b3, o3, rfl, hcel3⟩
      refine K.d_st rfl (K.p_load (Fx.agg rfl) rfl (Cels.up hcel3).1) rfl ?_
      refine K.d_on rfl (fun KK hKK => ?_)
      refine K.l_call (Fx.cal rfl) rfl (RWay h _ t x s hx0 hxl) (K.pp [] rfl) rfl ?_
      rintro u h1 H' le1 ⟨rfl, sv, l, e, rfl, hu, hres⟩
      obtain ⟨al, cl, rfl⟩ := hu.len
      simp only [List.nil_append]
      refine K.l_nil ?_
      refine X.onE hKK ?_
      refine K.d_pu rfl (fun _ _ => X.mv) rfl ?_
      refine K.d_pu rfl (fun _ _ => X.ex) rfl ?_
      refine K.d_pu rfl (fun _ _ => X.ex) rfl ?_
      refine K.d_pu rfl (fun _ _ => X.sg) rfl ?_
      refine K.d_pu rfl (fun _ _ => X.sg) rfl ?_
      refine K.d_nil ?_
      rcases hres with ⟨rfl, hway⟩ | ⟨hway, rfl⟩
      rotate_left
      · have hne := way_ne0 hok hway
        (repeat' (first | refine X.rq ?_ | (refine X.rc ?_ ?_ <;> intro hc <;> first | (exfalso; omega) | skip)))
        all_goals try (exfalso; omega)
        exact K.doneC (vs := [.pointer none, .int .i64 e]) (by first | exact Or.inl rfl | exact Or.inr rfl) (.tmp rfl (.tmp rfl .nil)) le1 (D := [_]) (H' := []) rfl (.inr ⟨e, by rw [rneedQ, hst, hway], hne, rfl, rfl⟩)
      rw [hway] at hst
      dsimp only at hst
      have bad2 : l ≠ x :: r → rneedQ (some (treeG t)) (x :: r) s = .error 1 := fun h => by rw [rneedQ, hst, if_neg h]
      by_cases hll : l.length = r.length + 1
      rotate_left
      · (repeat' (first | refine X.rq ?_ | (refine X.rc ?_ ?_ <;> intro hc <;> first | (exfalso; omega) | skip)))
        all_goals try (exfalso; omega)
        exact K.doneC (vs := [.pointer none, .int .i64 1]) (by first | exact Or.inl rfl | exact Or.inr rfl) (.tmp rfl (.tmp rfl .nil)) le1 (D := [_]) (H' := []) rfl (.inr ⟨1, bad2 (fun h => hll (by rw [h, List.length_cons])), by decide, rfl, rfl⟩)
      rw [hll] at hu ⊢
      obtain ⟨nl, hnl⟩ : ∃ nl, nl = r.length + 1 := ⟨_, rfl⟩
      have hv1 := hv.le le1
      rw [← hnl] at hu hv1 hll ⊢
      (repeat' (first | refine X.rq ?_ | (refine X.rc ?_ ?_ <;> intro hc <;> first | (exfalso; omega) | skip)))
      all_goals try (exfalso; omega)
      refine K.c_loop (σ := Nat) (fun i => [(1, .slice ao nl ca), (2, txt s), (3, .slice none 0 0), (4, .pointer (some ⟨B4, 0, none⟩)), (10, .slice al nl cl), (12, .int .i64 i)]) (fun _ => h1) (fun _ => blk B4 26 (cT t (.slice at0 t.pages.length ct0)) :: F)
        (fun i => i ≤ nl ∧ ∀ (j : Nat) y z, j < i → l[j]? = some y → (x :: r)[j]? = some z → y = z) (fun i => nl - i) 0 ⟨Nat.zero_le _, fun j y z hj => absurd hj (Nat.not_lt_zero _)⟩ (by repeat (first | exact K.Sub.nil _ | refine K.Sub.cons rfl ?_)) rfl rfl ?_
      rintro i ⟨hi, hyes⟩ KL hKL
      by_cases hil : i < nl
      · obtain ⟨y, hyi⟩ : ∃ y, l[i]? = some y := ⟨_, List.getElem?_eq_getElem (by omega)⟩
        obtain ⟨z, hzi⟩ : ∃ z, (x :: r)[i]? = some z := ⟨_, List.getElem?_eq_getElem (by rw [List.length_cons]; omega)⟩
        have hc1 : (l.map fun n => [uV n])[i]? = some [uV y] := by rw [List.getElem?_map, hyi]; rfl
        have hc2 : ((x :: r).map fun n => [uV n])[i]? = some [uV z] := by rw [List.getElem?_map, hzi]; rfl
        obtain ⟨b1, o1, rfl, hcx⟩ := hu.1.at hc1
        obtain ⟨b2, o2, rfl, hcy⟩ := hv1.1.at hc2
        (repeat' (first | refine X.rq ?_ | (refine X.rc ?_ ?_ <;> intro hc <;> first | (exfalso; omega) | skip)))
        refine X.draw ([]) [] (.pu 0 (.pu 1 (.pu 2 (.pu 4 (.pu 5 (.pu 6 (.st 3 (.st 7 (.pu 8 .nil))))))))) ?_ (hQ := by repeat (first | with_reducible refine K.NoPanic.then ?_ | with_reducible refine K.NoPanic.inBlock ?_ | with_reducible exact K.post_noPanic _ _ | exact K.post_noPanic _ _ | exact K.QN_noPanic | exact K.postS_noPanic | exact K.postX_noPanic | exact K.RPX_noPanic))
        refine K.d_pu rfl (fun _ _ => X.mv) rfl ?_
        refine K.d_pu rfl (fun _ _ => X.mv) rfl ?_
        refine K.d_pu rfl (fun _ _ => X.ia) rfl ?_
        refine K.d_pu rfl (fun _ _ => X.mv) rfl ?_
        refine K.d_pu rfl (fun _ _ => X.mv) rfl ?_
        refine K.d_pu rfl (fun _ _ => X.ia) rfl ?_
        refine K.d_st rfl (K.p_load (v := .int .u32 y) (Fx.agg rfl) rfl (Cels.up hcx).1) rfl ?_
        refine K.d_st rfl (K.p_load (v := .int .u32 z) (Fx.agg rfl) rfl (Cels.up hcy).1) rfl ?_
        refine K.d_pu rfl (fun _ _ => X.bneq) rfl ?_
        refine K.d_nil ?_
        by_cases hyz : y = z
        · subst hyz
          (repeat' (first | refine X.rq ?_ | (refine X.rc ?_ ?_ <;> intro hc <;> first | (exfalso; omega) | skip)))
          all_goals try (exfalso; omega)
          refine K.a_round hKL (i + 1) ⟨by omega, fun j y' z' hj h1' h2' => ?_⟩ (by repeat (first | exact K.Sub.nil _ | refine K.Sub.cons rfl ?_)) rfl rfl (by omega)
          by_cases hij : j < i
          · exact hyes j y' z' hij h1' h2'
          · obtain rfl : j = i := by omega
            rw [hyi] at h1'; rw [hzi] at h2'; cases h1'; cases h2'; rfl
        · (repeat' (first | refine X.rq ?_ | (refine X.rc ?_ ?_ <;> intro hc <;> first | (exfalso; omega) | skip)))
          all_goals try (exfalso; omega)
          exact K.doneC (vs := [.pointer none, .int .i64 1]) (by first | exact Or.inl rfl | exact Or.inr rfl) (.tmp rfl (.tmp rfl .nil)) le1 (D := [_]) (H' := []) rfl (.inr ⟨1, bad2 (fun h => hyz (by rw [h, hzi] at hyi; cases hyi; rfl)), by decide, rfl, rfl⟩)
      obtain rfl : i = nl := by omega
      have hlp : l = x :: r := by
        refine List.ext_getElem? fun j => ?_
        by_cases hj : j < i
        · obtain ⟨y, hyj⟩ : ∃ y, l[j]? = some y := ⟨_, List.getElem?_eq_getElem (by omega)⟩
          obtain ⟨z, hzj⟩ : ∃ z, (x :: r)[j]? = some z := ⟨_, List.getElem?_eq_getElem (by rw [List.length_cons]; omega)⟩
          rw [hyj, hzj, hyes j y z hj hyj hzj]
        · rw [List.getElem?_eq_none (by omega), List.getElem?_eq_none (by rw [List.length_cons]; omega)]
      rw [if_pos hlp] at hst
      obtain ⟨-, -, hpo⟩ := start_ok hst
      have hrn : rneedQ (some (treeG t)) (x :: r) s = planQ (some (treeG t)) (x :: r) s [] := by rw [rneedQ, hst]
      have hplen : (x :: r).length = i := by rw [List.length_cons]; omega
      rw [hlp] at hu
      clear hyes hKL hv1 hlp hll hway bad2 hst hxl hx1 hv bad
      generalize (x :: r) = path at *
      subst hplen
      have hne : path ≠ [] := List.length_pos_iff.1 hpo.1
      have hp8 := hpo.2.1
      have hlast : path[path.length - 1]? = some (path.getLastD 0) := by
        rw [← List.getLast?_eq_getElem?, List.getLastD_eq_getLast?]
        cases hx : path.getLast? with
        | none => rw [List.getLast?_eq_none_iff] at hx; exact absurd hx hne
        | some x => rfl
      obtain ⟨p0, hq0, hk0⟩ := hpo.2.2 _ _ hlast
      have hn0 := last_lt hu.2
      have hx1 := hx0.le le1
      (repeat' (first | refine X.rq ?_ | (refine X.rc ?_ ?_ <;> intro hc <;> first | (exfalso; omega) | skip)))
      refine X.drawJ ([blk B4 26 (cT t (.slice at0 t.pages.length ct0))]) [] (.pu 1 (.pu 2 (.pu 3 (.pu 4 (.st 0 (.st 5 (.st 6 (.alt 7 (.pu 8 (.pu 9 (.pu 10 (.on 11 (.on 12 (.pu 13 .nil)))))) (.on 11 (.on 7 (.pu 8 (.pu 9 (.pu 10 (.on 12 (.pu 13 .nil))))))))))))))) (fun r : Nat × { r : Option Addr × Nat // PagC h1 (cP p0 (.slice r.1 p0.cells.length r.2)) p0 } => [(1, .slice ao path.length ca), (2, txt s), (3, .slice none 0 0), (4, .pointer (some ⟨B4, 0, none⟩)), (10, .slice al path.length cl), (13, .pointer (some ⟨r.1, 0, none⟩))]) (fun _ => h1) (fun r => blk r.1 55 (cP p0 (.slice r.2.1.1 p0.cells.length r.2.1.2)) :: blk B4 26 (cT t (.slice at0 t.pages.length ct0)) :: F) ?_ ?_
      · refine K.d_pu rfl (fun _ _ => X.mv) rfl ?_
        refine K.d_pu rfl (fun _ _ => X.mv) rfl ?_
        refine K.d_pu rfl (fun _ _ => X.len) rfl ?_
        refine K.d_pu rfl (fun _ _ => X.bsub) rfl ?_
        refine K.d_st rfl X.ld rfl ?_
        refine K.d_stE rfl (K.p_indexL hu.1 (Fx.und rfl) (Fx.sz rfl) rfl rfl (by omega) (last_at hne)) rfl ?_
        rintro v2 ⟨b, o, rfl, hcel⟩
        refine K.d_st rfl (K.p_load (Fx.agg rfl) rfl (Cels.up hcel).1) rfl ?_
        refine K.d_alt ?_ ?_
        · refine K.d_on rfl (fun KK hKK => ?_)
          refine K.l_call (Fx.cal rfl) rfl (RPage h1 _ t _ hx1 hn0) (K.pp [] rfl) rfl ?_
          rintro u h3 H' - ⟨e3, rfl, hgr⟩
          obtain rfl := e3.symm
          obtain ⟨cs, rfl, hpc⟩ := get_ok hgr hq0
          have hpc0 := hpc
          obtain ⟨hw, cv, rfl, ef, hsl9, hel9, hcs9⟩ := hpc
          obtain ⟨ao9, ca9, rfl⟩ := hsl9.len
          rw [hel9] at hpc0 ⊢
          simp only [List.nil_append]
          refine K.l_nil ?_
          refine X.onE hKK ?_
          refine K.d_pu rfl (fun _ _ => X.mv) rfl ?_
          refine K.d_pu rfl (fun _ _ => X.ex) rfl ?_
          refine K.d_pu rfl (fun _ _ => X.ex) rfl ?_
          refine K.d_on rfl (fun KK hKK => ?_)
          refine K.l_alloc (Fx.zr rfl) rfl rfl (fun B13 => ?_)
          refine K.l_nil ?_
          refine X.onE hKK ?_
          refine K.d_on rfl (fun KK hKK => ?_)
          refine X.stw ?_
          simp only [List.set_cons_zero, List.set_cons_succ, List.eraseIdx_cons_zero, List.eraseIdx_cons_succ, List.cons_append, List.nil_append]
          refine K.l_nil ?_
          refine X.onE hKK ?_
          refine K.d_pu rfl (fun _ _ => X.sg) rfl ?_
          refine K.d_nil ?_
          exact K.joined (B13, ⟨(ao9, ca9), hpc0⟩) (by repeat (first | exact K.Sub.nil _ | refine K.Sub.cons rfl ?_)) rfl rfl
        refine K.d_on rfl (fun KK hKK => ?_)
        refine K.l_alloc (Fx.zr rfl) rfl rfl (fun B13 => ?_)
        refine K.l_nil ?_
        refine X.onE hKK ?_
        refine K.d_on rfl (fun KK hKK => ?_)
        refine K.l_call (Fx.cal rfl) rfl (RPage h1 _ t _ hx1 hn0) (K.pp [] rfl) rfl ?_
        rintro u h3 H' - ⟨e3, rfl, hgr⟩
        obtain rfl := e3.symm
        obtain ⟨cs, rfl, hpc⟩ := get_ok hgr hq0
        have hpc0 := hpc
        obtain ⟨hw, cv, rfl, ef, hsl9, hel9, hcs9⟩ := hpc
        obtain ⟨ao9, ca9, rfl⟩ := hsl9.len
        rw [hel9] at hpc0 ⊢
        simp only [List.nil_append]
        refine K.l_nil ?_
        refine X.onE hKK ?_
        refine K.d_pu rfl (fun _ _ => X.mv) rfl ?_
        refine K.d_pu rfl (fun _ _ => X.ex) rfl ?_
        refine K.d_pu rfl (fun _ _ => X.ex) rfl ?_
        refine K.d_on rfl (fun KK hKK => ?_)
        refine X.stw ?_
        simp only [List.set_cons_zero, List.set_cons_succ, List.eraseIdx_cons_zero, List.eraseIdx_cons_succ, List.cons_append, List.nil_append]
        refine K.l_nil ?_
        refine X.onE hKK ?_
        refine K.d_pu rfl (fun _ _ => X.sg) rfl ?_
        refine K.d_nil ?_
        exact K.joined (B13, ⟨(ao9, ca9), hpc0⟩) (by repeat (first | exact K.Sub.nil _ | refine K.Sub.cons rfl ?_)) rfl rfl
      refine fun r => ?_
      obtain ⟨B13, ⟨⟨ao9, ca9⟩, hpc⟩⟩ := r
      dsimp only at hpc ⊢
      have hw0 := hpc.1
      have hl0 : p0.cells.length ≤ 9223372036854775807 := hw0.len
      have hsl := (of_decide_eq_true hs).2
      obtain ⟨ef, hsl9, hel9, hcs9⟩ : CellsV h1 (.slice ao9 p0.cells.length ca9) p0.cells := by
        obtain ⟨_, cv, e, hc⟩ := hpc
        obtain rfl : Value.slice ao9 p0.cells.length ca9 = cv := by simpa [cP] using e
        exact hc
      (repeat' (first | refine X.rq ?_ | (refine X.rc ?_ ?_ <;> intro hc <;> first | (exfalso; omega) | skip)))
      refine K.c_loop (σ := Nat) (fun j => [(1, .slice ao path.length ca), (2, txt s), (3, .slice none 0 0), (4, .pointer (some ⟨B4, 0, none⟩)), (10, .slice al path.length cl), (13, .pointer (some ⟨B13, 0, none⟩)), (15, .int .i64 j)]) (fun _ => h1) (fun _ => blk B13 55 (cP p0 (.slice ao9 p0.cells.length ca9)) :: blk B4 26 (cT t (.slice at0 t.pages.length ct0)) :: F)
        (fun j => j ≤ p0.cells.length ∧ ∀ (i : Nat) c, i < j → p0.cells[i]? = some c → c.data ≠ s) (fun j => p0.cells.length - j) 0 ⟨Nat.zero_le _, fun i c hi => absurd hi (Nat.not_lt_zero _)⟩ (by repeat (first | exact K.Sub.nil _ | refine K.Sub.cons rfl ?_)) rfl rfl ?_
      rintro j ⟨hj, hyes⟩ KL hKL
      by_cases hjl : j < p0.cells.length
      · obtain ⟨c, hcj⟩ : ∃ c, p0.cells[j]? = some c := ⟨_, List.getElem?_eq_getElem hjl⟩
        obtain ⟨ec, hej⟩ : ∃ ec, ef[j]? = some ec := ⟨_, List.getElem?_eq_getElem (by omega)⟩
        obtain ⟨_, _, aoc, cac, rfl, hbc⟩ := hcs9 j ec c hej hcj
        obtain ⟨bb, oo, rfl, hcx⟩ := hsl9.at hej
        (repeat' (first | refine X.rq ?_ | (refine X.rc ?_ ?_ <;> intro hc <;> first | (exfalso; omega) | skip)))
        refine K.s_pure (K.p_load (Fx.agg rfl) rfl (Cels.get (Cels.up hcx) 2 (.slice aoc c.data.length cac) rfl)) rfl ?_
        (repeat' (first | refine X.rq ?_ | (refine X.rc ?_ ?_ <;> intro hc <;> first | (exfalso; omega) | skip)))
        refine K.s_pure (K.p_textB hbc (Fx.und rfl) (Fx.und rfl) (Fx.und rfl) rfl) rfl ?_
        by_cases hcs : c.data = s
        · have hq7 : planQ (some (treeG t)) path s [] = .error 7 := by
            unfold planQ
            rw [hq0]
            dsimp only
            rw [if_pos (List.any_eq_true.2 ⟨c, List.mem_of_getElem? hcj, decide_eq_true hcs⟩)]
          rw [← hrn] at hq7
          subst hcs
          (repeat' (first | refine X.rq ?_ | (refine X.rc ?_ ?_ <;> intro hc <;> first | (exfalso; omega) | skip)))
          all_goals try (exfalso; simp_all; done)
          exact K.doneC (vs := [.pointer none, .int .i64 7]) (by first | exact Or.inl rfl | exact Or.inr rfl) (.tmp rfl (.tmp rfl .nil)) le1 (D := [_, _]) (H' := []) rfl (.inr ⟨7, hq7, by decide, rfl, rfl⟩)
        · have hne2 : ¬ ((⟨c.data.toArray⟩ : ByteArray) = ⟨s.toArray⟩) := fun e => hcs ((txt_inj _ _).1 e)
          (repeat' (first | refine X.rq ?_ | (refine X.rc ?_ ?_ <;> intro hc <;> first | (exfalso; omega) | skip)))
          all_goals try (exfalso; simp_all; done)
          refine K.a_round hKL (j + 1) ⟨by omega, fun i y hi hy => ?_⟩ (by repeat (first | exact K.Sub.nil _ | refine K.Sub.cons rfl ?_)) rfl rfl (by omega)
          by_cases hij : i < j
          · exact hyes i y hij hy
          · obtain rfl : i = j := by omega
            rw [hcj] at hy; cases hy; exact hcs
      obtain rfl : j = p0.cells.length := by omega
      have hany : (p0.cells.any fun c => decide (c.data = s)) = false := by
        rw [List.any_eq_false]
        intro c hc
        obtain ⟨i, hi⟩ := List.mem_iff_getElem?.1 hc
        simp [hyes i c (List.getElem?_eq_some_iff.1 hi).1 hi]
      have hplq : rneedQ (some (treeG t)) path s = match planL (some (treeG t)) path.length (backQ path) (newS s []) with
        | .error e => .error e
        | .ok st => if st.imgs.all (fun x => mayQ x.to) then .ok st else .error 5 := by
        rw [hrn]
        unfold planQ
        rw [hq0]
        dsimp only
        rw [hany]
        rfl
      clear hyes hKL hrn hsl9 hel9 hcs9 hany
      (repeat' (first | refine X.rq ?_ | (refine X.rc ?_ ?_ <;> intro hc <;> first | (exfalso; omega) | skip)))
      refine K.l_box rfl rfl rfl (fun Bw => ?_)
      (repeat' (first | refine X.rq ?_ | (refine X.rc ?_ ?_ <;> intro hc <;> first | (exfalso; omega) | skip)))
      refine K.l_toBytes (Fx.und rfl) (Fx.und rfl) (Fx.und rfl) rfl (by unfold maxLen; omega) rfl (fun B cap => ?_)
      rw [hsz]
      refine K.WL.freezeBuf (l := s) (fun h2 le2 hbv2 => ?_)
      obtain ⟨aos, cas, e4⟩ : ∃ ao4 ca4, bufV (some B) s.length cap = .slice ao4 s.length ca4 := ⟨_, _, rfl⟩
      rw [e4] at hbv2 ⊢
      (repeat' (first | refine X.rq ?_ | (refine X.rc ?_ ?_ <;> intro hc <;> first | (exfalso; omega) | skip)))
      refine K.l_alloc (Fx.zr rfl) rfl rfl (fun B17 => ?_)
      refine X.stw ?_
      simp only [List.set_cons_zero, List.set_cons_succ, List.eraseIdx_cons_zero, List.eraseIdx_cons_succ, List.cons_append, List.nil_append]
      refine K.l_nil (K.a_then ?_)
      refine K.WC.sel [2] rfl ?_
      refine K.c_cut (σ := RpT) (fun _ => [(16, .pointer (some ⟨Bw, 0, none⟩))]) (fun q => q.hb) (fun q => rplA B4 B17 Bw (cT t (.slice at0 t.pages.length ct0)) q.M ++ F)
        (fun q => h2.le q.hb ∧ RowsI q.hb q.M.rows q.M.st.imgs ∧ q.M.st.imgs.length ≤ 25 ∧ planL (some (treeG t)) path.length (backQ path) (newS s []) = .ok q.M.st) ?_ (fun KJ hJ => ?_)
      · rintro ⟨hb, ⟨st, a, cap, rows, fv5, cc⟩⟩ ⟨hle, hM2, himg25, hpl⟩
        simp only at hle hM2 himg25 hpl ⊢
        rw [hpl] at hplq
        dsimp only at hplq
        have hrl := hM2.1
        have hz := hM2.2.1
        unfold rplA
        simp only [List.cons_append, List.nil_append]
        have hle1 := le1.trans (le2.trans hle)
        (repeat' (first | refine X.rq ?_ | (refine X.rc ?_ ?_ <;> intro hc <;> first | (exfalso; omega) | skip)))
        refine K.c_loop (σ := Nat) (fun j => [(16, .pointer (some ⟨Bw, 0, none⟩)), (21, .int .i64 j)]) (fun _ => hb) (fun _ => blk Bw 89 (wkV (bufV a rows.length cap) (.slice none 0 0) st.cnt) :: bufA 58 5 a rows.length cap rows.flatten :: blk B17 52 cc :: blk B4 26 (cT t (.slice at0 t.pages.length ct0)) :: F)
          (fun j => j ≤ rows.length ∧ ∀ (i : Nat) x, i < j → st.imgs[i]? = some x → mayQ x.to = true) (fun j => rows.length - j) 0 ⟨Nat.zero_le _, fun i x h => absurd h (Nat.not_lt_zero _)⟩ (by repeat (first | exact K.Sub.nil _ | refine K.Sub.cons rfl ?_)) rfl rfl ?_
        rintro j ⟨hj, hyes⟩ KL hKL
        by_cases hjl : j < rows.length
        · refine K.WC.someBuf 1 rfl (by omega) (fun b hb' => ?_)
          subst hb'
          obtain ⟨c, hci⟩ : ∃ c, rows[j]? = some c := ⟨_, List.getElem?_eq_getElem hjl⟩
          obtain ⟨x, hxi⟩ : ∃ x, st.imgs[j]? = some x := ⟨_, List.getElem?_eq_getElem (by omega)⟩
          obtain ⟨hpg, cs, rfl, hpc⟩ := hM2.2.2 j c x hci hxi
          have hpc0 := hpc
          obtain ⟨hw, cv, rfl, ef, hsl9, hel9, hcs9⟩ := hpc
          obtain ⟨aoq, caq, rfl⟩ := hsl9.len
          rw [hel9] at hsl9 hpc0 hci
          have hmay := RMay hb _ x.to hpc0
          cases hmx : mayQ x.to with
          | false =>
            rw [hmx] at hmay
            have hq5 : rneedQ (some (treeG t)) path s = .error 5 := by
              rw [hplq, if_neg]
              intro hall
              rw [List.all_eq_true.1 hall x (List.mem_of_getElem? hxi)] at hmx
              cases hmx
            (repeat' (first | refine X.rq ?_ | (refine X.rc ?_ ?_ <;> intro hc <;> first | (exfalso; omega) | skip)))
            rw [show 0 + (j : Int).toNat * 5 + 1 = j * 5 + 1 by omega]
            refine K.s_pure (K.p_loadM (vs := cP x.to (.slice aoq x.to.cells.length caq)) (Fx.agg rfl) rfl (K.cels_rowZ 1 rfl hz hci).2 (Fx.sz rfl) rfl) rfl ?_
            (repeat' (first | refine X.rq ?_ | (refine X.rc ?_ ?_ <;> intro hc <;> first | (exfalso; omega) | skip)))
            refine K.l_callV (Fx.cal rfl) rfl hmay (K.pp [] rfl) rfl rfl ?_
            simp only [List.set_cons_zero, List.set_cons_succ, List.eraseIdx_cons_zero, List.eraseIdx_cons_succ, List.cons_append, List.nil_append]
            (repeat' (first | refine X.rq ?_ | (refine X.rc ?_ ?_ <;> intro hc <;> first | (exfalso; omega) | skip)))
            exact K.doneC (vs := [.pointer none, .int .i64 5]) (by first | exact Or.inl rfl | exact Or.inr rfl) (.tmp rfl (.tmp rfl .nil)) hle1 (D := [_, _, _, _]) (H' := []) rfl (.inr ⟨5, hq5, by decide, rfl, rfl⟩)
          | true =>
            rw [hmx] at hmay
            (repeat' (first | refine X.rq ?_ | (refine X.rc ?_ ?_ <;> intro hc <;> first | (exfalso; omega) | skip)))
            rw [show 0 + (j : Int).toNat * 5 + 1 = j * 5 + 1 by omega]
            refine K.s_pure (K.p_loadM (vs := cP x.to (.slice aoq x.to.cells.length caq)) (Fx.agg rfl) rfl (K.cels_rowZ 1 rfl hz hci).2 (Fx.sz rfl) rfl) rfl ?_
            (repeat' (first | refine X.rq ?_ | (refine X.rc ?_ ?_ <;> intro hc <;> first | (exfalso; omega) | skip)))
            refine K.l_callV (Fx.cal rfl) rfl hmay (K.pp [] rfl) rfl rfl ?_
            simp only [List.set_cons_zero, List.set_cons_succ, List.eraseIdx_cons_zero, List.eraseIdx_cons_succ, List.cons_append, List.nil_append]
            (repeat' (first | refine X.rq ?_ | (refine X.rc ?_ ?_ <;> intro hc <;> first | (exfalso; omega) | skip)))
            refine K.a_round hKL (j + 1) ⟨by omega, fun i y hi hy => ?_⟩ (by repeat (first | exact K.Sub.nil _ | refine K.Sub.cons rfl ?_)) rfl rfl (by omega)
            by_cases hij : i < j
            · exact hyes i y hij hy
            · obtain rfl : i = j := by omega
              rw [hxi] at hy; cases hy; exact hmx
        · obtain rfl : j = rows.length := by omega
          have hall : st.imgs.all (fun x => mayQ x.to) = true := by
            rw [List.all_eq_true]
            intro x hx
            obtain ⟨i, hi⟩ := List.mem_iff_getElem?.1 hx
            have := (List.getElem?_eq_some_iff.1 hi).1
            exact hyes i x (by omega) hi
          rw [if_pos hall] at hplq
          (repeat' (first | refine X.rq ?_ | (refine X.rc ?_ ?_ <;> intro hc <;> first | (exfalso; omega) | skip)))
          refine K.AT.perm (K.pp [1, 1, 1] rfl) ?_
          exact K.doneC (vs := [.pointer (some ⟨Bw, 0, none⟩), .int .i64 0]) (by first | exact Or.inl rfl | exact Or.inr rfl) (.tmp rfl (.tmp rfl .nil)) hle1 (D := [_, _, _]) (H' := [_]) rfl (.inl ⟨st, Bw, _, hplq, rfl, rfl⟩)
      · refine K.WC.nilBuf 58 5 ?_
        refine K.WC.perm (K.pp [2, 0, 0] rfl) ?_
        simp only [List.set_cons_zero, List.set_cons_succ, List.eraseIdx_cons_zero, List.eraseIdx_cons_succ, List.cons_append, List.nil_append]
        (repeat' (first | refine X.rq ?_ | (refine X.rc ?_ ?_ <;> intro hc <;> first | (exfalso; omega) | skip)))
        refine K.c_loop (σ := RlS) (fun q => [(10, .slice al path.length cl), (16, .pointer (some ⟨Bw, 0, none⟩)), (17, .pointer (some ⟨B17, 0, none⟩)), (4, .pointer (some ⟨B4, 0, none⟩)), (18, .int .i64 ((q.k : Int) - 1))]) (fun q => q.hb) (fun q => rplA B4 B17 Bw (cT t (.slice at0 t.pages.length ct0)) q.M ++ F)
          (fun q => q.k ≤ path.length ∧ h2.le q.hb ∧ CellC q.hb q.M.cc q.M.st.c ∧ RowsI q.hb q.M.rows q.M.st.imgs ∧ InvS path 0 (path.length - q.k) q.M.st ∧ planL (some (treeG t)) path.length (backQ path) (newS s []) = planL (some (treeG t)) path.length ((backQ path).drop (path.length - q.k)) q.M.st) (fun q => q.k) ⟨path.length, h2, ⟨newS s [], none, 0, [], .slice none 0 0, [.bool true, .int .u32 0, .slice aos s.length cas]⟩⟩
          ⟨Nat.le_refl _, K.Base.le.refl _, ⟨Nat.zero_lt_succ _, by show s.length ≤ _; have := (of_decide_eq_true hs).2; omega, aos, cas, rfl, hbv2⟩, ⟨rfl, (fun _ h => by cases h), fun j c x h => by simp at h⟩, by dsimp only; rw [Nat.sub_self]; exact inv_new hs (Nat.le_refl _), by dsimp only; rw [Nat.sub_self]; rfl⟩ (by repeat (first | exact K.Sub.nil _ | refine K.Sub.cons rfl ?_)) rfl rfl ?_
        rintro ⟨k, hb, ⟨st, a, cap, rows, fv5, cc⟩⟩ ⟨hkl, hle, hM1, hM2, hinv, hpl⟩ KL hKL
        simp only at hkl hle hM1 hM2 hinv hpl ⊢
        unfold rplA
        simp only [List.cons_append, List.nil_append]
        cases k with
        | zero =>
          rw [Nat.sub_zero, List.drop_of_length_le (by rw [back_len]; exact Nat.le_refl _)] at hpl
          have himg := hinv.imgs
          (repeat' (first | refine X.rq ?_ | (refine X.rc ?_ ?_ <;> intro hc <;> first | (exfalso; omega) | skip)))
          all_goals try (exfalso; omega)
          refine K.a_cut hJ ⟨hb, ⟨st, a, cap, rows, fv5, cc⟩⟩ ⟨hle, hM2, by dsimp only; omega, hpl⟩ (by repeat (first | exact K.Sub.nil _ | refine K.Sub.cons rfl ?_)) rfl rfl
        | succ i =>
          rw [show ((i + 1 : Nat) : Int) - 1 = (i : Int) by omega]
          obtain ⟨n, hin, hdr⟩ := back_drop (show i < path.length by omega)
          obtain ⟨p, hq, hk⟩ := hpo.2.2 _ _ hin
          have hk0 : p.kind = 2 ↔ path.length - (i + 1) = 0 := hk.trans (by omega)
          rw [hdr] at hpl
          have hu2 := hu.le (le2.trans hle)
          have hn := hu2.2 n (List.mem_of_getElem? hin)
          have hni : (path.map fun n => [uV n])[(i : Int).toNat]? = some [uV n] := by rw [Int.toNat_natCast, List.getElem?_map, hin]; rfl
          have hgd := page_good hq
          have hdat := good_data hgd
          have hc200 := hinv.c200
          have himg := hinv.imgs
          have hrl := hM2.1
          have hxb := hx1.le (le2.trans hle)
          have hcc := hM1
          obtain ⟨hk5, hd5, ao5, ca5, rfl, hb5⟩ := hM1
          have hord := ord_of st.c (cells_up hgd)
          (repeat' (first | refine X.rq ?_ | (refine X.rc ?_ ?_ <;> intro hc <;> first | (exfalso; omega) | skip)))
          all_goals try (exfalso; omega)
          refine X.drawJ ([blk B4 26 (cT t (.slice at0 t.pages.length ct0))]) [] (.pu 1 (.pu 2 (.st 0 (.st 3 (.st 4 (.alt 5 (.pu 6 (.pu 7 (.pu 8 (.on 9 (.on 10 (.pu 11 .nil)))))) (.on 9 (.on 5 (.pu 6 (.pu 7 (.pu 8 (.on 10 (.pu 11 .nil))))))))))))) (fun r : Nat × { r : Option Addr × Nat // PagC hb (cP p (.slice r.1 p.cells.length r.2)) p } => [(10, .slice al path.length cl), (16, .pointer (some ⟨Bw, 0, none⟩)), (17, .pointer (some ⟨B17, 0, none⟩)), (4, .pointer (some ⟨B4, 0, none⟩)), (18, .int .i64 i), (19, .pointer (some ⟨r.1, 0, none⟩))]) (fun _ => hb) (fun r => blk r.1 55 (cP p (.slice r.2.1.1 p.cells.length r.2.1.2)) :: blk Bw 89 (wkV (bufV a rows.length cap) (.slice none 0 0) st.cnt) :: bufA 58 5 a rows.length cap rows.flatten :: blk B17 52 [.bool st.c.used, .int .u32 st.c.killer, .slice ao5 st.c.data.length ca5] :: blk B4 26 (cT t (.slice at0 t.pages.length ct0)) :: F) ?_ ?_
          · refine K.d_pu rfl (fun _ _ => X.mv) rfl ?_
            refine K.d_pu rfl (fun _ _ => X.mv) rfl ?_
            refine K.d_st rfl X.ld rfl ?_
            refine K.d_stE rfl (K.p_indexL hu2.1 (Fx.und rfl) (Fx.sz rfl) rfl rfl (by omega) hni) rfl ?_
            rintro v2 ⟨b, o, rfl, hcel⟩
            refine K.d_st rfl (K.p_load (Fx.agg rfl) rfl (Cels.up hcel).1) rfl ?_
            refine K.d_alt ?_ ?_
            · refine K.d_on rfl (fun KK hKK => ?_)
              refine K.l_call (Fx.cal rfl) rfl (RPage hb _ t _ hxb hn) (K.pp [] rfl) rfl ?_
              rintro u h3 H' - ⟨e3, rfl, hgr⟩
              obtain rfl := e3.symm
              obtain ⟨cs, rfl, hpc⟩ := get_ok hgr hq
              have hpc0 := hpc
              obtain ⟨hw, cv, rfl, ef, hsl9, hel9, hcs9⟩ := hpc
              obtain ⟨ao9, ca9, rfl⟩ := hsl9.len
              rw [hel9] at hpc0 ⊢
              simp only [List.nil_append]
              refine K.l_nil ?_
              refine X.onE hKK ?_
              refine K.d_pu rfl (fun _ _ => X.mv) rfl ?_
              refine K.d_pu rfl (fun _ _ => X.ex) rfl ?_
              refine K.d_pu rfl (fun _ _ => X.ex) rfl ?_
              refine K.d_on rfl (fun KK hKK => ?_)
              refine K.l_alloc (Fx.zr rfl) rfl rfl (fun B19 => ?_)
              refine K.l_nil ?_
              refine X.onE hKK ?_
              refine K.d_on rfl (fun KK hKK => ?_)
              refine X.stw ?_
              simp only [List.set_cons_zero, List.set_cons_succ, List.eraseIdx_cons_zero, List.eraseIdx_cons_succ, List.cons_append, List.nil_append]
              refine K.l_nil ?_
              refine X.onE hKK ?_
              refine K.d_pu rfl (fun _ _ => X.sg) rfl ?_
              refine K.d_nil ?_
              exact K.joined (B19, ⟨(ao9, ca9), hpc0⟩) (by repeat (first | exact K.Sub.nil _ | refine K.Sub.cons rfl ?_)) rfl rfl
            refine K.d_on rfl (fun KK hKK => ?_)
            refine K.l_alloc (Fx.zr rfl) rfl rfl (fun B19 => ?_)
            refine K.l_nil ?_
            refine X.onE hKK ?_
            refine K.d_on rfl (fun KK hKK => ?_)
            refine K.l_call (Fx.cal rfl) rfl (RPage hb _ t _ hxb hn) (K.pp [] rfl) rfl ?_
            rintro u h3 H' - ⟨e3, rfl, hgr⟩
            obtain rfl := e3.symm
            obtain ⟨cs, rfl, hpc⟩ := get_ok hgr hq
            have hpc0 := hpc
            obtain ⟨hw, cv, rfl, ef, hsl9, hel9, hcs9⟩ := hpc
            obtain ⟨ao9, ca9, rfl⟩ := hsl9.len
            rw [hel9] at hpc0 ⊢
            simp only [List.nil_append]
            refine K.l_nil ?_
            refine X.onE hKK ?_
            refine K.d_pu rfl (fun _ _ => X.mv) rfl ?_
            refine K.d_pu rfl (fun _ _ => X.ex) rfl ?_
            refine K.d_pu rfl (fun _ _ => X.ex) rfl ?_
            refine K.d_on rfl (fun KK hKK => ?_)
            refine X.stw ?_
            simp only [List.set_cons_zero, List.set_cons_succ, List.eraseIdx_cons_zero, List.eraseIdx_cons_succ, List.cons_append, List.nil_append]
            refine K.l_nil ?_
            refine X.onE hKK ?_
            refine K.d_pu rfl (fun _ _ => X.sg) rfl ?_
            refine K.d_nil ?_
            exact K.joined (B19, ⟨(ao9, ca9), hpc0⟩) (by repeat (first | exact K.Sub.nil _ | refine K.Sub.cons rfl ?_)) rfl rfl
          refine fun r => ?_
          obtain ⟨B19, ⟨⟨aoq, caq⟩, hpc⟩⟩ := r
          dsimp only at hpc ⊢
          have hw := hpc.1
          have hcv9 : CellsV hb (.slice aoq p.cells.length caq) p.cells := by
            obtain ⟨_, cv, e, hc⟩ := hpc
            obtain rfl : Value.slice aoq p.cells.length caq = cv := by simpa [cP] using e
            exact hc
          (repeat' (first | refine X.rq ?_ | (refine X.rc ?_ ?_ <;> intro hc <;> first | (exfalso; omega) | skip)))
          refine K.l_callV (Fx.cal rfl) rfl (RRoomC hb _ p _ st.c hpc hcc (good_small hgd) (by omega)) (K.pp [] rfl) rfl rfl ?_
          simp only [List.set_cons_zero, List.set_cons_succ, List.eraseIdx_cons_zero, List.eraseIdx_cons_succ, List.cons_append, List.nil_append]
          cases hbf : fitsQ p st.c with
          | true =>
            rw [pl_fits hq hbf] at hpl
            by_cases hil : i + 1 < path.length
            · have hk3 : p.kind = 3 := by
                rcases hdat.1 with h | h
                · have := hk.1 h; omega
                · exact h
              (repeat' (first | refine X.rq ?_ | (refine X.rc ?_ ?_ <;> intro hc <;> first | (exfalso; omega) | skip)))
              all_goals try (exfalso; omega)
              refine K.l_call (Fx.cal rfl) rfl (RAmong hb p.kind _ p.cells _ st.c hcv9 hcc (hdat.2.2.2 hk3).2 (by omega) (fun h => (hdat.2.2.2 h).1) (fun _ => hinv.c4 (by omega)) hord) (K.pp [] rfl) rfl ?_
              rintro u h4 H' hle4 ⟨rfl, rv, rfl, hrv⟩
              have hrv2 := hrv
              obtain ⟨ew, hsw, hew, hcsw⟩ := hrv2
              obtain ⟨ar, car, rfl⟩ := hsw.len
              have hcq : PagC h4 (cP { p with cells := insQ p.kind p.cells st.c } (.slice ar ew.length car)) { p with cells := insQ p.kind p.cells st.c } := ⟨⟨hw.kind, hw.lsn, hw.next, by
                show (insQ p.kind p.cells st.c).length ≤ _
                have h1 : (insQ p.kind p.cells st.c).length = p.cells.length + 1 := by
                  have := (List.takeWhile_sublist (l := p.cells) (p := fun y => lt8 (keyQ p.kind y) (keyQ p.kind st.c))).length_le
                  unfold insQ
                  rw [List.length_append, List.length_take, List.length_cons, List.length_drop]
                  unfold atQ
                  omega
                rw [h1]; omega⟩, _, rfl, hrv⟩
              have hu4 := hu2.le hle4
              simp only [List.set_cons_zero, List.set_cons_succ, List.eraseIdx_cons_zero, List.eraseIdx_cons_succ, List.cons_append, List.nil_append]
              (repeat' (first | refine X.rq ?_ | (refine X.rc ?_ ?_ <;> intro hc <;> first | (exfalso; omega) | skip)))
              refine X.sto ?_
              simp only [List.set_cons_zero, List.set_cons_succ, List.eraseIdx_cons_zero, List.eraseIdx_cons_succ, List.cons_append, List.nil_append]
              (repeat' (first | refine X.rq ?_ | (refine X.rc ?_ ?_ <;> intro hc <;> first | (exfalso; omega) | skip)))
              refine X.draw ([blk Bw 89 (wkV (bufV a rows.length cap) (.slice none 0 0) st.cnt),blk B19 55 (cP { p with cells := insQ p.kind p.cells st.c } (.slice ar ew.length car))]) [15] (.pu 0 (.pu 1 (.pu 2 (.pu 3 (.pu 5 (.pu 6 (.st 4 (.st 7 (.st 8 (.st 9 (.pu 10 (.on 11 (.on 12 (.pu 13 (.pu 14 (.cl 15 .nil)))))))))))))))) ?_ (hQ := by repeat (first | with_reducible refine K.NoPanic.then ?_ | with_reducible refine K.NoPanic.inBlock ?_ | with_reducible exact K.post_noPanic _ _ | exact K.post_noPanic _ _ | exact K.QN_noPanic | exact K.postS_noPanic | exact K.postX_noPanic | exact K.RPX_noPanic))
              refine K.d_pu rfl (fun _ _ => X.mv) rfl ?_
              refine K.d_pu rfl (fun _ _ => X.mv) rfl ?_
              refine K.d_pu rfl (fun _ _ => X.nc) rfl ?_
              refine K.d_pu rfl (fun _ _ => X.fa) rfl ?_
              refine K.d_pu rfl (fun _ _ => X.mv) rfl ?_
              refine K.d_pu rfl (fun _ _ => X.mv) rfl ?_
              refine K.d_st rfl X.ld rfl ?_
              refine K.d_stE rfl (K.p_indexL hu4.1 (Fx.und rfl) (Fx.sz rfl) rfl rfl (by omega) hni) rfl ?_
              rintro v2 ⟨b, o, rfl, hcel⟩
              refine K.d_st rfl (K.p_load (Fx.agg rfl) rfl (Cels.up hcel).1) rfl ?_
              refine K.d_st rfl X.ld rfl ?_
              refine K.d_pu rfl (fun _ _ => X.bd) rfl ?_
              refine K.d_on rfl (fun KK hKK => ?_)
              refine K.l_buildSlice (Fx.und rfl) (Fx.sz rfl) rfl (Fx.zr rfl) rfl rfl rfl (cs := uV n :: cP { p with cells := insQ p.kind p.cells st.c } (.slice ar ew.length car)) rfl rfl (fun B30 => ?_)
              refine K.l_nil ?_
              refine X.onE hKK ?_
              refine K.d_on rfl (fun KK hKK => ?_)
              refine K.l_append_at 3 rfl (Fx.und rfl) (Fx.und rfl) rfl (Fx.sz rfl) (Fx.zr rfl) rfl (Fx.byt rfl) rfl rfl (K.src_cells (K.cels_own (pre := []) (cs := uV n :: cP { p with cells := insQ p.kind p.cells st.c } (.slice ar ew.length car)) (post := []) 0 rfl rfl) rfl (by simp [oneCell, cP, bufV])) (by omega) (by omega) rfl (fun a7 k7 => ?_)
              refine K.l_nil ?_
              refine X.onE hKK ?_
              refine K.d_pu rfl (fun _ _ => X.nc) rfl ?_
              refine K.d_pu rfl (fun _ _ => X.fa) rfl ?_
              refine K.d_cl rfl (fun KK hKK => ?_)
              refine X.sto ?_
              refine K.l_nil ?_
              refine K.d_clE hKK ?_
              refine K.d_nil ?_
              (repeat' (first | refine X.rq ?_ | (refine X.rc ?_ ?_ <;> intro hc <;> first | (exfalso; omega) | skip)))
              refine K.AT.sel [0, 0] rfl ?_
              simp only [List.set_cons_zero, List.set_cons_succ, List.eraseIdx_cons_zero, List.eraseIdx_cons_succ, List.cons_append, List.nil_append]
              rw [show rows.length + 1 = (rows ++ [uV n :: cP { p with cells := insQ p.kind p.cells st.c } (.slice ar ew.length car)]).length by simp, show rows.flatten ++ (uV n :: cP { p with cells := insQ p.kind p.cells st.c } (.slice ar ew.length car)) = (rows ++ [uV n :: cP { p with cells := insQ p.kind p.cells st.c } (.slice ar ew.length car)]).flatten by simp]
              refine K.a_cut hJ ⟨h4, ⟨⟨st.c, st.imgs ++ [⟨n, { p with cells := insQ p.kind p.cells st.c }⟩], st.fs, st.cnt⟩, a7, k7, rows ++ [uV n :: cP { p with cells := insQ p.kind p.cells st.c } (.slice ar ew.length car)], fv5, [.bool st.c.used, .int .u32 st.c.killer, .slice ao5 st.c.data.length ca5]⟩⟩ ⟨hle.trans hle4, RowsI.snoc (hM2.le hle4) hn hcq, by dsimp only; rw [List.length_append]; simp only [List.length_cons, List.length_nil]; omega, by rw [hpl, lastS, if_pos hil]⟩ (by repeat (first | exact K.Sub.nil _ | refine K.Sub.cons rfl ?_)) rfl rfl
            · (repeat' (first | refine X.rq ?_ | (refine X.rc ?_ ?_ <;> intro hc <;> first | (exfalso; omega) | skip)))
              all_goals try (exfalso; omega)
              refine K.AT.sel [0] rfl ?_
              refine K.a_cut hJ ⟨hb, ⟨st, a, cap, rows, fv5, [.bool st.c.used, .int .u32 st.c.killer, .slice ao5 st.c.data.length ca5]⟩⟩ ⟨hle, hM2, by dsimp only; omega, by rw [hpl, lastS, if_neg (by omega)]⟩ (by repeat (first | exact K.Sub.nil _ | refine K.Sub.cons rfl ?_)) rfl rfl
          | false =>
            by_cases hfull : i = 0 ∧ 8 ≤ path.length
            · rw [pl_full hq hbf hfull] at hpl
              rw [hpl] at hplq
              dsimp only at hplq
              (repeat' (first | refine X.rq ?_ | (refine X.rc ?_ ?_ <;> intro hc <;> first | (exfalso; omega) | skip)))
              all_goals try (exfalso; omega)
              exact K.doneC (vs := [.pointer none, .int .i64 4]) (by first | exact Or.inl rfl | exact Or.inr rfl) (.tmp rfl (.tmp rfl .nil)) (le1.trans (le2.trans hle)) (D := [_, _, _, _, _]) (H' := []) rfl (.inr ⟨4, hplq, by decide, rfl, rfl⟩)
            · rw [pl_step hq hbf hfull] at hpl
              have hdv : DivOk p st.c := div_ok hinv hgd hbf (fun h3 => by
                rcases Nat.eq_zero_or_pos (path.length - (i + 1)) with h0 | h0
                · have := hk0.2 h0; omega
                · exact h0)
              have hfs : st.fs = [] := List.eq_nil_of_length_eq_zero (by have := hinv.fs; omega)
              have hcnt := hinv.cnt
              by_cases hi0 : i = 0
              · (repeat' (first | refine X.rq ?_ | (refine X.rc ?_ ?_ <;> intro hc <;> first | (exfalso; omega) | skip)))
                all_goals try (exfalso; omega)
                refine X.draw ([blk B19 55 (cP p (.slice aoq p.cells.length caq)),blk B17 52 [.bool st.c.used, .int .u32 st.c.killer, .slice ao5 st.c.data.length ca5]]) [10] (.pu 0 (.pu 1 (.pu 2 (.pu 7 (.pu 8 (.st 3 (.st 4 (.st 5 (.st 6 (.on 9 (.cl 10 .nil))))))))))) ?_ (hQ := by repeat (first | with_reducible refine K.NoPanic.then ?_ | with_reducible refine K.NoPanic.inBlock ?_ | with_reducible exact K.post_noPanic _ _ | exact K.post_noPanic _ _ | exact K.QN_noPanic | exact K.postS_noPanic | exact K.postX_noPanic | exact K.RPX_noPanic))
                refine K.d_pu rfl (fun _ _ => X.mv) rfl ?_
                refine K.d_pu rfl (fun _ _ => X.mv) rfl ?_
                refine K.d_pu rfl (fun _ _ => X.mv) rfl ?_
                refine K.d_pu rfl (fun _ _ => X.mv) rfl ?_
                refine K.d_pu rfl (fun _ _ => X.beql) rfl ?_
                refine K.d_stE rfl (K.p_indexL hu2.1 (Fx.und rfl) (Fx.sz rfl) rfl rfl (by omega) hni) rfl ?_
                rintro v2 ⟨b, o, rfl, hcel⟩
                refine K.d_st rfl (K.p_load (Fx.agg rfl) rfl (Cels.up hcel).1) rfl ?_
                refine K.d_st rfl X.ld rfl ?_
                refine K.d_st rfl X.ld rfl ?_
                refine K.d_on rfl (fun KK hKK => ?_)
                rw [show decide ((i : Int) = 0) = decide (i = 0) from decide_eq_decide.2 (by omega)]
                refine K.l_call (Fx.cal rfl) rfl (RDivide hb Bw n p (.slice aoq p.cells.length caq) _ st.c (decide (i = 0)) a cap rows st.imgs st.cnt hpc hcc hdv hn hM2 (by omega) (by omega) hord) (K.pp [1, 1] rfl) rfl ?_
                rintro u h4 H' hle4 ⟨a', cap', rows', cs', rfl, hcc', hrow', rfl⟩
                have hcc2 := hcc'
                obtain ⟨hk6, hd6, ao6, ca6, rfl, hb6⟩ := hcc2
                simp only [List.set_cons_zero, List.set_cons_succ, List.eraseIdx_cons_zero, List.eraseIdx_cons_succ, List.cons_append, List.nil_append]
                refine K.l_nil ?_
                refine X.onE hKK ?_
                refine K.d_cl rfl (fun KK hKK => ?_)
                refine X.stw ?_
                simp only [List.set_cons_zero, List.set_cons_succ, List.eraseIdx_cons_zero, List.eraseIdx_cons_succ, List.cons_append, List.nil_append]
                refine K.l_nil ?_
                refine K.d_clE hKK ?_
                refine K.d_nil ?_
                (repeat' (first | refine X.rq ?_ | (refine X.rc ?_ ?_ <;> intro hc <;> first | (exfalso; omega) | skip)))
                refine K.AT.sel [2] rfl ?_
                have hfr : frQ (decide (i = 0)) st.fs = 0 := by rw [hfs]; cases decide (i = 0) <;> rfl
                have est : stepS st i n p = ⟨upQ (entQ p st.c) 0, st.imgs ++ divI n p st.c (decide (i = 0)) [], (fs1 (decide (i = 0)) []).tail, st.cnt + if decide (i = 0) = true then 2 else 1⟩ := by unfold stepS; rw [hfr, hfs]
                have hin2 := inv_step (i := i) (n := n) hinv hdv (fun h2 => hk0.1 h2)
                rw [show path.length - (i + 1) + 1 = path.length - i by omega] at hin2
                rw [est] at hin2 hpl
                refine K.a_round hKL ⟨i, h4, ⟨_, a', cap', rows', fv5, [.bool (upQ (entQ p st.c) 0).used, .int .u32 (upQ (entQ p st.c) 0).killer, .slice ao6 (upQ (entQ p st.c) 0).data.length ca6]⟩⟩ ⟨by dsimp only; omega, hle.trans hle4, hcc', hrow', hin2, hpl⟩ (by repeat (first | exact K.Sub.nil _ | refine K.Sub.cons rfl ?_)) rfl rfl (by dsimp only; omega)
              · (repeat' (first | refine X.rq ?_ | (refine X.rc ?_ ?_ <;> intro hc <;> first | (exfalso; omega) | skip)))
                all_goals try (exfalso; omega)
                refine X.draw ([blk B19 55 (cP p (.slice aoq p.cells.length caq)),blk B17 52 [.bool st.c.used, .int .u32 st.c.killer, .slice ao5 st.c.data.length ca5]]) [10] (.pu 0 (.pu 1 (.pu 2 (.pu 7 (.pu 8 (.st 3 (.st 4 (.st 5 (.st 6 (.on 9 (.cl 10 .nil))))))))))) ?_ (hQ := by repeat (first | with_reducible refine K.NoPanic.then ?_ | with_reducible refine K.NoPanic.inBlock ?_ | with_reducible exact K.post_noPanic _ _ | exact K.post_noPanic _ _ | exact K.QN_noPanic | exact K.postS_noPanic | exact K.postX_noPanic | exact K.RPX_noPanic))
                refine K.d_pu rfl (fun _ _ => X.mv) rfl ?_
                refine K.d_pu rfl (fun _ _ => X.mv) rfl ?_
                refine K.d_pu rfl (fun _ _ => X.mv) rfl ?_
                refine K.d_pu rfl (fun _ _ => X.mv) rfl ?_
                refine K.d_pu rfl (fun _ _ => X.beql) rfl ?_
                refine K.d_stE rfl (K.p_indexL hu2.1 (Fx.und rfl) (Fx.sz rfl) rfl rfl (by omega) hni) rfl ?_
                rintro v2 ⟨b, o, rfl, hcel⟩
                refine K.d_st rfl (K.p_load (Fx.agg rfl) rfl (Cels.up hcel).1) rfl ?_
                refine K.d_st rfl X.ld rfl ?_
                refine K.d_st rfl X.ld rfl ?_
                refine K.d_on rfl (fun KK hKK => ?_)
                rw [show decide ((i : Int) = 0) = decide (i = 0) from decide_eq_decide.2 (by omega)]
                refine K.l_call (Fx.cal rfl) rfl (RDivide hb Bw n p (.slice aoq p.cells.length caq) _ st.c (decide (i = 0)) a cap rows st.imgs st.cnt hpc hcc hdv hn hM2 (by omega) (by omega) hord) (K.pp [1, 1] rfl) rfl ?_
                rintro u h4 H' hle4 ⟨a', cap', rows', cs', rfl, hcc', hrow', rfl⟩
                have hcc2 := hcc'
                obtain ⟨hk6, hd6, ao6, ca6, rfl, hb6⟩ := hcc2
                simp only [List.set_cons_zero, List.set_cons_succ, List.eraseIdx_cons_zero, List.eraseIdx_cons_succ, List.cons_append, List.nil_append]
                refine K.l_nil ?_
                refine X.onE hKK ?_
                refine K.d_cl rfl (fun KK hKK => ?_)
                refine X.stw ?_
                simp only [List.set_cons_zero, List.set_cons_succ, List.eraseIdx_cons_zero, List.eraseIdx_cons_succ, List.cons_append, List.nil_append]
                refine K.l_nil ?_
                refine K.d_clE hKK ?_
                refine K.d_nil ?_
                (repeat' (first | refine X.rq ?_ | (refine X.rc ?_ ?_ <;> intro hc <;> first | (exfalso; omega) | skip)))
                refine K.AT.sel [2] rfl ?_
                have hfr : frQ (decide (i = 0)) st.fs = 0 := by rw [hfs]; cases decide (i = 0) <;> rfl
                have est : stepS st i n p = ⟨upQ (entQ p st.c) 0, st.imgs ++ divI n p st.c (decide (i = 0)) [], (fs1 (decide (i = 0)) []).tail, st.cnt + if decide (i = 0) = true then 2 else 1⟩ := by unfold stepS; rw [hfr, hfs]
                have hin2 := inv_step (i := i) (n := n) hinv hdv (fun h2 => hk0.1 h2)
                rw [show path.length - (i + 1) + 1 = path.length - i by omega] at hin2
                rw [est] at hin2 hpl
                refine K.a_round hKL ⟨i, h4, ⟨_, a', cap', rows', fv5, [.bool (upQ (entQ p st.c) 0).used, .int .u32 (upQ (entQ p st.c) 0).killer, .slice ao6 (upQ (entQ p st.c) 0).data.length ca6]⟩⟩ ⟨by dsimp only; omega, hle.trans hle4, hcc', hrow', hin2, hpl⟩ (by repeat (first | exact K.Sub.nil _ | refine K.Sub.cons rfl ?_)) rfl rfl (by dsimp only; omega)

theorem need_eq (G : Option GetQ) (path : List Nat) (s : List UInt8) : needsQ G path s = match rneedQ G path s with
  | .error e => .error e
  | .ok st => .ok st.cnt := by
  unfold needsQ rneedQ
  cases startQ G path s with
  | error e => rfl
  | ok u => dsimp only; cases planQ G path s [] <;> rfl
set_option maxHeartbeats 1000000 in
theorem RNeeds (h : Base) (cs : List Value) (t : PTree) (v : Value) (path : List Nat) (s : List UInt8) (hx : TreeC h cs t) (hv : U32s h v path) (hl : path.length ≤ 1000000) :
    Tr Try.prog 17 [.agg cs.toArray, v, txt s] h [] (fun u h' H' => H' = [] ∧ NeedR (needsQ (some (treeG t)) path s) u) := by
  have hv0 := hv
  have hx0 := hx
  obtain ⟨hb, he, hpl, pv, rfl, es, hes, hel, hr⟩ := hx
  obtain ⟨at0, ct0, rfl⟩ := hes.len
  obtain ⟨ao, ca, rfl⟩ := hv.len
  have hsz := txt_size s
  refine K.enter Try.func17 rfl (Nat.le_of_ble_eq_true rfl) (fun F => ?_)
  (repeat' (first | refine X.rq ?_ | (refine X.rc ?_ ?_ <;> intro hc <;> first | (exfalso; omega) | skip)))
  refine K.l_box rfl rfl rfl (fun B3 => ?_)
  (repeat' (first | refine X.rq ?_ | (refine X.rc ?_ ?_ <;> intro hc <;> first | (exfalso; omega) | skip)))
  refine K.l_call (Fx.cal rfl) rfl (RPlan h _ t _ path s hx0 hv0 hl) (K.pp [] rfl) rfl ?_
  rintro u h1 H' le1 (⟨st, Bw, iv, hq, rfl, rfl⟩ | ⟨e, hq, hne, rfl, rfl⟩)
  · have hn : needsQ (some (treeG t)) path s = .ok st.cnt := by rw [need_eq, hq]
    simp only [List.set_cons_zero, List.set_cons_succ, List.eraseIdx_cons_zero, List.eraseIdx_cons_succ, List.cons_append, List.nil_append]
    (repeat' (first | refine X.rq ?_ | (refine X.rc ?_ ?_ <;> intro hc <;> first | (exfalso; omega) | skip)))
    exact K.doneC (vs := [.int .i64 st.cnt, .int .i64 0]) (by first | exact Or.inl rfl | exact Or.inr rfl) (.tmp rfl (.tmp rfl .nil)) le1 (D := [_, _]) (H' := []) rfl ⟨rfl, st.cnt, 0, rfl, .inl ⟨hn, rfl⟩⟩
  · have hn : needsQ (some (treeG t)) path s = .error e := by rw [need_eq, hq]
    simp only [List.set_cons_zero, List.set_cons_succ, List.eraseIdx_cons_zero, List.eraseIdx_cons_succ, List.cons_append, List.nil_append]
    (repeat' (first | refine X.rq ?_ | (refine X.rc ?_ ?_ <;> intro hc <;> first | (exfalso; omega) | skip)))
    all_goals try (exfalso; omega)
    exact K.doneC (vs := [.int .i64 0, .int .i64 e]) (by first | exact Or.inl rfl | exact Or.inr rfl) (.tmp rfl (.tmp rfl .nil)) le1 (D := [_]) (H' := []) rfl ⟨rfl, 0, e, rfl, .inr ⟨hn, rfl⟩⟩
theorem need_two {r : Except Int Nat} {v w : Value} (hv : NeedR r v) (hw : NeedR r w) : ∃ (k : Nat) (e : Int), v = .tuple #[.int .i64 k, .int .i64 e] ∧ w = .tuple #[.int .i64 k, .int .i64 e] := by
  obtain ⟨k, e, rfl, h1⟩ := hv
  obtain ⟨m, f, rfl, h2⟩ := hw
  rcases h1 with ⟨h1, rfl⟩ | ⟨h1, rfl⟩ <;> rcases h2 with ⟨h2, rfl⟩ | ⟨h2, rfl⟩ <;> rw [h1] at h2 <;> cases h2
  · exact ⟨k, 0, rfl, rfl⟩
  · exact ⟨0, e, rfl, rfl⟩
theorem U32s.ones {l : List Nat} : ∀ e ∈ l.map (fun n => [uV n]), ones e = true := fun e he => by
  obtain ⟨n, _, rfl⟩ := List.mem_map.1 he
  rfl
set_option maxHeartbeats 4000000 in
theorem NodeNeedsW (h : Base) (cs : List Value) (t : PTree) (v : Value) (path : List Nat) (s : List UInt8) (hx : TreeC h cs t) (hp : U32s h v path) (hpl0 : path.length ≤ 9223372036854775807) :
    Tr Try.prog 4 [.agg cs.toArray, v, txt s] h [] (fun u h' H' => u = .bool true ∧ H' = []) := by
  have hsz := txt_size s
  obtain ⟨hb0, he0, hl0, pv, rfl, hiv⟩ := id hx
  obtain ⟨es, hv, _⟩ := id hiv
  obtain ⟨ao, ca, rfl⟩ := hv.len
  obtain ⟨ap, cp, rfl⟩ := hp.len
  refine K.enter Try.func4 rfl (Nat.le_of_ble_eq_true rfl) (fun F => ?_)
  simp only [List.nil_append]
  (repeat' (first | refine X.rq ?_ | (refine X.rc ?_ ?_ <;> intro hc <;> first | (exfalso; omega) | skip)))
  refine K.l_box rfl rfl rfl (fun B3 => ?_)
  (repeat' (first | refine X.rq ?_ | (refine X.rc ?_ ?_ <;> intro hc <;> first | (exfalso; omega) | skip)))
  refine K.l_call (Fx.cal rfl) rfl (LongT h _ t hx) (K.pp [] rfl) rfl ?_
  rintro v h' H' - ⟨e, rfl, b, rfl, hb⟩
  obtain rfl := e.symm
  simp only [List.set_cons_zero, List.set_cons_succ, List.eraseIdx_cons_zero, List.eraseIdx_cons_succ, List.cons_append, List.nil_append]
  by_cases hgo : b = false ∧ s.length ≤ 1000 ∧ path.length ≤ 300
  rotate_left
  · cases b with
    | true =>
      (repeat' (first | refine X.rq ?_ | (refine X.rc ?_ ?_ <;> intro hc <;> first | (exfalso; omega) | skip)))
      all_goals try (exfalso; omega)
      all_goals
        refine K.l_call (Fx.cal rfl) rfl (Alive h) (K.pp [] rfl) rfl ?_
        rintro v h2 H' le2 ⟨rfl, rfl⟩
        simp only [List.set_cons_zero, List.set_cons_succ, List.eraseIdx_cons_zero, List.eraseIdx_cons_succ, List.cons_append, List.nil_append]
        (repeat' (first | refine X.rq ?_ | (refine X.rc ?_ ?_ <;> intro hc <;> first | (exfalso; omega) | skip)))
        exact K.doneC (vs := [.bool true]) (by first | exact Or.inl rfl | exact Or.inr rfl) (.tmp rfl .nil) le2 (D := [_]) (H' := []) rfl ⟨rfl, rfl⟩
    | false =>
      have hgo2 : ¬ (s.length ≤ 1000 ∧ path.length ≤ 300) := fun h => hgo ⟨rfl, h⟩
      (repeat' (first | refine X.rq ?_ | (refine X.rc ?_ ?_ <;> intro hc <;> first | (exfalso; omega) | skip)))
      all_goals try (exfalso; omega)
      all_goals
        refine K.l_call (Fx.cal rfl) rfl (Alive h) (K.pp [] rfl) rfl ?_
        rintro v h2 H' le2 ⟨rfl, rfl⟩
        simp only [List.set_cons_zero, List.set_cons_succ, List.eraseIdx_cons_zero, List.eraseIdx_cons_succ, List.cons_append, List.nil_append]
        (repeat' (first | refine X.rq ?_ | (refine X.rc ?_ ?_ <;> intro hc <;> first | (exfalso; omega) | skip)))
        exact K.doneC (vs := [.bool true]) (by first | exact Or.inl rfl | exact Or.inr rfl) (.tmp rfl .nil) le2 (D := [_]) (H' := []) rfl ⟨rfl, rfl⟩
  obtain ⟨rfl, hs1000, hp300⟩ := hgo
  have hsh := hb rfl
  have hsm := short_small hsh
  have h300 := hsh.1
  (repeat' (first | refine X.rq ?_ | (refine X.rc ?_ ?_ <;> intro hc <;> first | (exfalso; omega) | skip)))
  all_goals try (exfalso; omega)
  refine K.l_call (Fx.cal rfl) rfl (Copied h _ t hx hsm (by omega)) (K.pp [] rfl) rfl ?_
  rintro v h1 H' le1 ⟨rfl, ds, rfl, hy⟩
  obtain ⟨_, _, _, pv2, rfl, hiv2⟩ := id hy
  obtain ⟨es2, hv2, _⟩ := id hiv2
  obtain ⟨ao2, ca2, rfl⟩ := hv2.len
  simp only [List.set_cons_zero, List.set_cons_succ, List.eraseIdx_cons_zero, List.eraseIdx_cons_succ, List.cons_append, List.nil_append]
  refine K.l_alloc (Fx.zr rfl) rfl rfl (fun B7 => ?_)
  refine X.stw ?_
  simp only [List.set_cons_zero, List.set_cons_succ, List.eraseIdx_cons_zero, List.eraseIdx_cons_succ, List.cons_append, List.nil_append]
  (repeat' (first | refine X.rq ?_ | (refine X.rc ?_ ?_ <;> intro hc <;> first | (exfalso; omega) | skip)))
  have hp1 := hp.le le1
  refine K.l_buildSlice (Fx.und rfl) (Fx.sz rfl) rfl (Fx.zr rfl) rfl rfl rfl rfl rfl (fun B8 => ?_)
  refine K.WL.bufOf (m := 0) (s := 1) rfl (by unfold maxLen; omega) ?_
  (repeat' (first | refine X.rq ?_ | (refine X.rc ?_ ?_ <;> intro hc <;> first | (exfalso; omega) | skip)))
  refine K.l_append_at 0 rfl (Fx.und rfl) (Fx.und rfl) rfl (Fx.sz rfl) (Fx.zr rfl) rfl (Fx.byt rfl) rfl rfl (hp1.1.src U32s.ones) (by rw [List.length_map]; omega) (by rw [List.length_map]; omega) rfl (fun a9 k9 => ?_)
  simp only [List.set_cons_zero, List.set_cons_succ, List.eraseIdx_cons_zero, List.eraseIdx_cons_succ, List.cons_append, List.nil_append]
  rw [show 0 + (path.map fun n => [uV n]).length = path.length by rw [List.length_map]; omega]
  refine K.WL.freezeRowN (es := path.map fun n => [uV n]) (by rw [List.length_map]) (fun e he => by obtain ⟨n, _, rfl⟩ := List.mem_map.1 he; rfl) (fun h2 le2 hs2 => ?_)
  have hown : U32s h2 _ path := ⟨hs2, hp1.2⟩
  obtain ⟨a8, k8, e8⟩ : ∃ a8 k8, bufV a9 path.length k9 = .slice a8 path.length k8 := ⟨_, _, rfl⟩
  rw [e8] at hown hs2 ⊢
  (repeat' (first | refine X.rq ?_ | (refine X.rc ?_ ?_ <;> intro hc <;> first | (exfalso; omega) | skip)))
  refine K.s_pure (K.p_makeFuncB rfl rfl) rfl ?_
  (repeat' (first | refine X.rq ?_ | (refine X.rc ?_ ?_ <;> intro hc <;> first | (exfalso; omega) | skip)))
  refine K.l_call (Fx.cal rfl) rfl (Needs h2 _ (some (treeG t)) _ path s (getV_tree (hx.le (le1.trans le2))) hown (by omega)) (K.pp [] rfl) rfl ?_
  rintro v h3 H' le3 ⟨rfl, hw1⟩
  obtain ⟨k1, e1, rfl, _⟩ := id hw1
  simp only [List.set_cons_zero, List.set_cons_succ, List.eraseIdx_cons_zero, List.eraseIdx_cons_succ, List.cons_append, List.nil_append]
  (repeat' (first | refine X.rq ?_ | (refine X.rc ?_ ?_ <;> intro hc <;> first | (exfalso; omega) | skip)))
  refine K.l_call (Fx.cal rfl) rfl (RNeeds h3 _ t _ path s (hy.le (le2.trans le3)) (hp1.le (le2.trans le3)) (by omega)) (K.pp [] rfl) rfl ?_
  rintro v h4 H' le4 ⟨rfl, hw2⟩
  obtain ⟨k2, e2, ev1, rfl⟩ := need_two hw1 hw2
  simp only [Value.tuple.injEq, Array.mk.injEq, List.cons.injEq, Value.int.injEq, true_and, and_true] at ev1
  obtain ⟨hkk, rfl⟩ := ev1
  obtain rfl : k1 = k2 := by omega
  simp only [List.set_cons_zero, List.set_cons_succ, List.eraseIdx_cons_zero, List.eraseIdx_cons_succ, List.cons_append, List.nil_append]
  (repeat' (first | refine X.rq ?_ | (refine X.rc ?_ ?_ <;> intro hc <;> first | (exfalso; omega) | skip)))
  all_goals try (exfalso; omega)
  refine K.l_callV (Fx.cal rfl) rfl (Numbers h4 _ _ path (hown.le (le3.trans le4)) (hp1.le (le2.trans (le3.trans le4))) (by omega)) (K.pp [] rfl) rfl rfl ?_
  simp only [List.set_cons_zero, List.set_cons_succ, List.eraseIdx_cons_zero, List.eraseIdx_cons_succ, List.cons_append, List.nil_append]
  have leX4 := le1.trans (le2.trans (le3.trans le4))
  have leY4 := le2.trans (le3.trans le4)
  cases path with
  | nil =>
    have hxr : ([] : List Nat).length = 0 := rfl
    (repeat' (first | refine X.rq ?_ | (refine X.rc ?_ ?_ <;> intro hc <;> first | (exfalso; omega) | skip)))
    all_goals try (exfalso; omega)
    refine K.l_callV (Fx.cal rfl) rfl (Alike h4 _ _ t (hx.le (leX4)) (hy.le (leY4)) (by omega)) (K.pp [] rfl) rfl rfl ?_
    simp only [List.set_cons_zero, List.set_cons_succ, List.eraseIdx_cons_zero, List.eraseIdx_cons_succ, List.cons_append, List.nil_append]
    (repeat' (first | refine X.rq ?_ | (refine X.rc ?_ ?_ <;> intro hc <;> first | (exfalso; omega) | skip)))
    refine K.l_call (Fx.cal rfl) rfl (Alive h4) (K.pp [] rfl) rfl ?_
    rintro v hz H' lez ⟨rfl, rfl⟩
    simp only [List.set_cons_zero, List.set_cons_succ, List.eraseIdx_cons_zero, List.eraseIdx_cons_succ, List.cons_append, List.nil_append]
    (repeat' (first | refine X.rq ?_ | (refine X.rc ?_ ?_ <;> intro hc <;> first | (exfalso; omega) | skip)))
    exact K.doneC (vs := [.bool true]) (by first | exact Or.inl rfl | exact Or.inr rfl) (.tmp rfl .nil) ((leX4).trans lez) (D := [_, _]) (H' := []) rfl ⟨rfl, rfl⟩
  | cons x r =>
    have hxr : (x :: r).length = r.length + 1 := rfl
    have hx1 : ((x :: r).map fun n => [uV n])[(0 : Int).toNat]? = some [uV x] := rfl
    have hxl := hp.2 x (List.mem_cons_self ..)
    have hp4 := hp1.le leY4
    (repeat' (first | refine X.rq ?_ | (refine X.rc ?_ ?_ <;> intro hc <;> first | (exfalso; omega) | skip)))
    all_goals try (exfalso; omega)
    refine X.draw ([blk B7 26 (cT t (.slice ao2 es2.length ca2))]) [] (.pu 1 (.pu 4 (.st 0 (.st 2 (.st 3 (.on 5 (.pu 6 (.pu 7 (.pu 8 (.pu 9 (.pu 10 .nil))))))))))) ?_ (hQ := by repeat (first | with_reducible refine K.NoPanic.then ?_ | with_reducible refine K.NoPanic.inBlock ?_ | with_reducible exact K.post_noPanic _ _ | exact K.post_noPanic _ _ | exact K.QN_noPanic | exact K.postS_noPanic | exact K.postX_noPanic | exact K.RPX_noPanic))
    refine K.d_pu rfl (fun _ _ => X.mv) rfl ?_
    refine K.d_pu rfl (fun _ _ => X.mv) rfl ?_
    refine K.d_st rfl X.ld rfl ?_
    refine K.d_stE rfl (K.p_indexL hp4.1 (Fx.und rfl) (Fx.sz rfl) rfl rfl (by omega) hx1) rfl ?_
    rintro v3 ⟨b3, o3, rfl, hcel3⟩
    refine K.d_st rfl (K.p_load (Fx.agg rfl) rfl (Cels.up hcel3).1) rfl ?_
    refine K.d_on rfl (fun KK hKK => ?_)
    refine K.l_call (Fx.cal rfl) rfl (RPath h4 _ t x s (hy.le leY4) hxl) (K.pp [] rfl) rfl ?_
    rintro v h5 H' le5 ⟨rfl, hw5⟩
    obtain ⟨sv, l, e5, rfl, hu5, hq5⟩ := id hw5
    obtain ⟨a5, n5, c5, rfl⟩ := hu5.shape
    simp only [List.nil_append]
    refine K.l_nil ?_
    refine X.onE hKK ?_
    refine K.d_pu rfl (fun _ _ => X.mv) rfl ?_
    refine K.d_pu rfl (fun _ _ => X.ex) rfl ?_
    refine K.d_pu rfl (fun _ _ => X.ex) rfl ?_
    refine K.d_pu rfl (fun _ _ => X.sg) rfl ?_
    refine K.d_pu rfl (fun _ _ => X.sg) rfl ?_
    refine K.d_nil ?_
    have hll : l.length ≤ 8 := by
      rcases hq5 with ⟨_, h⟩ | ⟨_, h⟩
      · exact path_len h
      · rw [h]; exact Nat.zero_le _
    (repeat' (first | refine X.rq ?_ | (refine X.rc ?_ ?_ <;> intro hc <;> first | (exfalso; omega) | skip)))
    refine K.s_pure (K.p_makeFuncB rfl rfl) rfl ?_
    (repeat' (first | refine X.rq ?_ | (refine X.rc ?_ ?_ <;> intro hc <;> first | (exfalso; omega) | skip)))
    refine K.l_call (Fx.cal rfl) rfl (Needs h5 _ (some (treeG t)) _ l s (getV_tree (hx.le (leX4.trans le5))) hu5 (by omega)) (K.pp [] rfl) rfl ?_
    rintro v h6 H' le6 ⟨rfl, hw6⟩
    obtain ⟨k6, e6, rfl, _⟩ := id hw6
    simp only [List.set_cons_zero, List.set_cons_succ, List.eraseIdx_cons_zero, List.eraseIdx_cons_succ, List.cons_append, List.nil_append]
    (repeat' (first | refine X.rq ?_ | (refine X.rc ?_ ?_ <;> intro hc <;> first | (exfalso; omega) | skip)))
    refine K.l_call (Fx.cal rfl) rfl (RNeeds h6 _ t _ l s (hy.le (leY4.trans (le5.trans le6))) (hu5.le le6) (by omega)) (K.pp [] rfl) rfl ?_
    rintro v h7 H' le7 ⟨rfl, hw7⟩
    obtain ⟨k7, e7, ev7, rfl⟩ := need_two hw6 hw7
    simp only [Value.tuple.injEq, Array.mk.injEq, List.cons.injEq, Value.int.injEq, true_and, and_true] at ev7
    obtain ⟨hk7, rfl⟩ := ev7
    obtain rfl : k6 = k7 := by omega
    have leX7 := leX4.trans (le5.trans (le6.trans le7))
    have leY7 := leY4.trans (le5.trans (le6.trans le7))
    simp only [List.set_cons_zero, List.set_cons_succ, List.eraseIdx_cons_zero, List.eraseIdx_cons_succ, List.cons_append, List.nil_append]
    (repeat' (first | refine X.rq ?_ | (refine X.rc ?_ ?_ <;> intro hc <;> first | (exfalso; omega) | skip)))
    all_goals try (exfalso; omega)
    refine K.l_callV (Fx.cal rfl) rfl (Alike h7 _ _ t (hx.le (leX7)) (hy.le (leY7)) (by omega)) (K.pp [] rfl) rfl rfl ?_
    simp only [List.set_cons_zero, List.set_cons_succ, List.eraseIdx_cons_zero, List.eraseIdx_cons_succ, List.cons_append, List.nil_append]
    (repeat' (first | refine X.rq ?_ | (refine X.rc ?_ ?_ <;> intro hc <;> first | (exfalso; omega) | skip)))
    refine K.l_call (Fx.cal rfl) rfl (Alive h7) (K.pp [] rfl) rfl ?_
    rintro v hz H' lez ⟨rfl, rfl⟩
    simp only [List.set_cons_zero, List.set_cons_succ, List.eraseIdx_cons_zero, List.eraseIdx_cons_succ, List.cons_append, List.nil_append]
    (repeat' (first | refine X.rq ?_ | (refine X.rc ?_ ?_ <;> intro hc <;> first | (exfalso; omega) | skip)))
    exact K.doneC (vs := [.bool true]) (by first | exact Or.inl rfl | exact Or.inr rfl) (.tmp rfl .nil) ((leX7).trans lez) (D := [_, _]) (H' := []) rfl ⟨rfl, rfl⟩
theorem NodeNeedsB (h : Base) (cs : List Value) (t : PTree) (v : Value) (path : List Nat) (s : ByteArray) (hx : TreeC h cs t) (hp : U32s h v path) (hpl0 : path.length ≤ 9223372036854775807) :
    Tr Try.prog 4 [.agg cs.toArray, v, .string s] h [] (fun u h' H' => u = .bool true ∧ H' = []) := by
  have := NodeNeedsW h cs t v path s.data.toList hx hp hpl0
  rwa [show txt s.data.toList = Value.string s from by cases s; simp [txt]] at this
end Go.Proofs.Ytahdbncfegedjaa.Nd
