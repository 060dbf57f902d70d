/-
  Rows sorted one by one: the document's. Conditions: each theorem's own.
-/
import Derived.Test.YtdjacjhojbkgjaaWb

namespace Go.Proofs.Ytdjacjhojbkgjaa.Ct
open Go Go.K Go.Proofs Go.Proofs.Ytdjacjhojbkgjaa Go.Proofs.Ytdjacjhojbkgjaa.Rw
set_option linter.unusedVariables false
set_option linter.unusedSimpArgs false
set_option maxRecDepth 10000

/-! ### The plain side -/
section
variable {α : Type} (gt : α → α → Bool)
def posN (p : List α) (x : α) : Nat → Nat
  | 0 => 0
  | k + 1 => match p[k]? with
    | some y => if gt y x then posN p x k else k + 1
    | none => k + 1
def insP (p : List α) (x : α) : List α := p.take (posN gt p x p.length) ++ x :: p.drop (posN gt p x p.length)
def insAll : List α → List α → List α
  | p, [] => p
  | p, x :: l => insAll (insP gt p x) l
theorem insP_perm (p : List α) (x : α) : (insP gt p x).Perm (p ++ [x]) := by
  unfold insP
  generalize posN gt p x p.length = k
  have : (p.take k ++ x :: p.drop k).Perm (x :: (p.take k ++ p.drop k)) := List.perm_middle
  rw [List.take_append_drop] at this
  exact this.trans (List.perm_append_singleton x p).symm
theorem insAll_perm : ∀ (l p : List α), (insAll gt p l).Perm (p ++ l)
  | [], p => by rw [insAll, List.append_nil]
  | x :: l, p => by
    rw [insAll]
    refine (insAll_perm l _).trans ?_
    have := (insP_perm gt p x).append_right l
    simpa using this
theorem insAll_snoc : ∀ (l p : List α) (x : α), insAll gt p (l ++ [x]) = insP gt (insAll gt p l) x
  | [], p, x => rfl
  | y :: l, p, x => by
    rw [List.cons_append, insAll, insAll_snoc l, insAll]
theorem insP_length (p : List α) (x : α) : (insP gt p x).length = p.length + 1 := by
  have := (insP_perm gt p x).length_eq
  simpa using this
theorem insAll_length (l p : List α) : (insAll gt p l).length = p.length + l.length := by
  have := (insAll_perm gt l p).length_eq
  simpa using this
theorem posN_le (p : List α) (x : α) : ∀ k, posN gt p x k ≤ k
  | 0 => Nat.le_refl _
  | k + 1 => by
    rw [posN]
    split
    · split
      · exact Nat.le_succ_of_le (posN_le p x k)
      · exact Nat.le_refl _
    · exact Nat.le_refl _
end
theorem swap_at {α : Type} {p : List α} {k : Nat} {x y : α} (hy : p[k]? = some y) : ((p.take (k + 1) ++ x :: p.drop (k + 1)).set k x).set (k + 1) y = p.take k ++ x :: p.drop k := by
  obtain ⟨hk, e⟩ := List.getElem?_eq_some_iff.1 hy
  have e1 : p.take (k + 1) = p.take k ++ [y] := (take_at hy).1
  have e2 : p.drop k = y :: p.drop (k + 1) := by rw [List.drop_eq_getElem_cons hk, e]
  have hl : (p.take k).length = k := by simp; omega
  rw [e1, e2]
  generalize p.take k = q at hl
  subst hl
  simp
theorem mid_at {α : Type} {p : List α} {k : Nat} {x : α} (hk : k ≤ p.length) : (p.take k ++ x :: p.drop k)[k]? = some x := by
  have hl : (p.take k).length = k := by simp; omega
  rw [List.getElem?_append_right (by omega), hl, Nat.sub_self]
  rfl
theorem pre_at' {α : Type} {p : List α} {k : Nat} {x y : α} (hy : p[k]? = some y) : (p.take (k + 1) ++ x :: p.drop (k + 1))[k]? = some y := by
  have hk := (List.getElem?_eq_some_iff.1 hy).1
  rw [List.getElem?_append_left (by simp; omega), List.getElem?_take, if_pos (by omega), hy]
/-! ### Rows and where they lie -/
structure RowU where
  v : Value
  r : List Val
def RowU.ok (h : Base) (x : RowU) : Prop := SL h 3 x.v (x.r.map cV) ∧ (∀ y ∈ x.r, wfV y) ∧ x.r.length ≤ 9223372036854775807
def RowU.c (x : RowU) : List Value := [x.v]
def gtU (x y : RowU) : Bool := decide (0 < ordR x.r y.r)
def gtR (x y : List Val) : Bool := decide (0 < ordR x y)
theorem posN_map (p : List RowU) (x : RowU) : ∀ k, posN gtU p x k = posN gtR (p.map RowU.r) x.r k
  | 0 => rfl
  | k + 1 => by
    rw [posN, posN, List.getElem?_map]
    cases p[k]? with
    | none => rfl
    | some y =>
      show (if gtU y x then posN gtU p x k else k + 1) = if gtR y.r x.r then posN gtR (p.map RowU.r) x.r k else k + 1
      rw [posN_map p x k]
      rfl
theorem insP_map (p : List RowU) (x : RowU) : (insP gtU p x).map RowU.r = insP gtR (p.map RowU.r) x.r := by
  unfold insP
  rw [List.length_map, ← posN_map, List.map_append, List.map_cons, List.map_take, List.map_drop]
theorem insAll_map : ∀ (l p : List RowU), (insAll gtU p l).map RowU.r = insAll gtR (p.map RowU.r) (l.map RowU.r)
  | [], p => rfl
  | x :: l, p => by rw [insAll, List.map_cons, insAll, insAll_map l, insP_map]
/-- Rows, sorted one by one. -/
def sortQ (l : List (List Val)) : List (List Val) := insAll gtR [] l
theorem sortQ_perm (l : List (List Val)) : (sortQ l).Perm l := by
  have := insAll_perm gtR l []
  rwa [List.nil_append] at this
theorem rows_att {h : Base} : ∀ {l : List (List Val)} {es : List (List Value)}, Each (RowC h) es l → (∀ r ∈ l, (∀ y ∈ r, wfV y) ∧ r.length ≤ 9223372036854775807) → ∃ xs : List RowU, es = xs.map RowU.c ∧ xs.map RowU.r = l ∧ ∀ x ∈ xs, x.ok h
  | [], es, he, _ => by
    have : es = [] := List.eq_nil_of_length_eq_zero he.len
    subst this
    exact ⟨[], rfl, rfl, fun x hx => by cases hx⟩
  | r :: l, [], he, _ => by have := he.len; simp at this
  | r :: l, e :: es, he, hl => by
    obtain ⟨⟨v, rfl, hs⟩, h2⟩ := he.cons_inv
    obtain ⟨xs, h3, h4, h5⟩ := rows_att h2 fun r hr => hl r (List.mem_cons_of_mem _ hr)
    obtain ⟨g1, g2⟩ := hl r List.mem_cons_self
    refine ⟨⟨v, r⟩ :: xs, by rw [h3]; rfl, by rw [List.map_cons, h4], fun x hx => ?_⟩
    rcases List.mem_cons.1 hx with rfl | hx
    · exact ⟨hs, g1, g2⟩
    · exact h5 x hx
theorem rows_det {h : Base} {xs : List RowU} (hx : ∀ x ∈ xs, x.ok h) : Each (RowC h) (xs.map RowU.c) (xs.map RowU.r) :=
  ⟨by simp, fun j c r hc hr => by
    rw [List.getElem?_map] at hc hr
    cases ho : xs[j]? with
    | none => rw [ho] at hc; cases hc
    | some x =>
      rw [ho] at hc hr
      cases hc; cases hr
      exact ⟨_, rfl, (hx x (List.mem_of_getElem? ho)).1⟩⟩
theorem ru1 (l : List RowU) : ∀ e ∈ l.map RowU.c, e.length = 1 := fun e he => by
  obtain ⟨x, _, rfl⟩ := List.mem_map.1 he
  rfl
structure SoS where
  j : Nat
  a : Option Nat
  k : Nat
set_option maxHeartbeats 4000000 in
theorem RSorted (h : Base) (v : Value) (l : List (List Val)) (hv : RowsV h l v) (hw : ∀ r ∈ l, (∀ y ∈ r, wfV y) ∧ r.length ≤ 9223372036854775807) (hl : l.length ≤ 100000) :
    Tr Try.prog 59 [v] h [] (fun u h' H' => H' = [] ∧ RowsV h' (sortQ l) u) := by
  obtain ⟨es, hv, hes⟩ := hv
  obtain ⟨xs, rfl, rfl, hok⟩ := rows_att hes hw
  rw [List.length_map] at hl
  have hlen : (xs.map RowU.c).length = xs.length := List.length_map ..
  obtain ⟨ao, ca, rfl⟩ := hv.len
  rw [hlen] at hv ⊢
  refine K.enter Try.func59 rfl (Nat.le_of_ble_eq_true rfl) (fun F => ?_)
  simp only [List.nil_append, List.cons_append]
  (repeat' (first | refine X.rq ?_ | (refine X.rc ?_ ?_ <;> intro hc <;> first | (exfalso; omega) | skip)))
  refine K.WC.nilBuf 65 1 ?_
  refine K.c_loop (σ := SoS) (fun q => [(0, .slice ao xs.length ca), (3, bufV q.a q.j q.k), (4, .int .i64 q.j)]) (fun _ => h) (fun q => bufA 65 1 q.a q.j q.k ((insAll gtU [] (xs.take q.j)).map RowU.c).flatten :: F)
    (fun q => q.j ≤ xs.length) (fun q => xs.length - q.j) ⟨0, none, 0⟩ (Nat.zero_le _) (by repeat (first | exact K.Sub.nil _ | refine K.Sub.cons rfl ?_)) rfl rfl ?_
  rintro ⟨i, a, k⟩ hi KL hKL
  simp only at hi ⊢
  by_cases hil : i < xs.length
  · have hx1 : xs[i]? = some xs[i] := List.getElem?_eq_getElem hil
    have hxo := hok _ (List.getElem_mem hil)
    generalize xs[i] = x at hx1 hxo
    have htk := (take_at hx1).1
    have hnext : insAll gtU [] (xs.take (i + 1)) = insP gtU (insAll gtU [] (xs.take i)) x := by rw [htk, insAll_snoc]
    have hpl : (insAll gtU [] (xs.take i)).length = i := by rw [insAll_length]; simp; omega
    have hpo : ∀ y ∈ insAll gtU [] (xs.take i), y.ok h := fun y hy => by
      have := (insAll_perm gtU (xs.take i) []).subset hy
      exact hok y (List.mem_of_mem_take (by simpa using this))
    generalize insAll gtU [] (xs.take i) = p at hnext hpl hpo ⊢
    have hc0 : (xs.map RowU.c)[i]? = some [x.v] := by rw [List.getElem?_map, hx1]; rfl
    obtain ⟨hxs, hxw, hxl⟩ := hxo
    obtain ⟨bb, oo, rfl, hcx⟩ := hv.at hc0
    obtain ⟨xa, xc, hxv⟩ := hxs.len
    (repeat' (first | refine X.rq ?_ | (refine X.rc ?_ ?_ <;> intro hc <;> first | (exfalso; omega) | skip)))
    refine K.s_pure (K.p_load (v := x.v) (Fx.agg rfl) rfl (Cels.up hcx).1) rfl ?_
    refine K.l_buildSlice (cs := [x.v]) (Fx.und rfl) (Fx.sz rfl) rfl (Fx.zr rfl) rfl rfl (by rw [hxv]; rfl) (by rw [hxv]; rfl) rfl (fun B => ?_)
    refine K.l_append_at 1 rfl (Fx.und rfl) (Fx.und rfl) rfl (Fx.sz rfl) (Fx.zr rfl) rfl (Fx.byt rfl) rfl rfl (K.src_cells (K.cels_own (pre := []) (cs := [x.v]) (post := []) 0 rfl rfl) rfl (by rw [hxv]; simp [oneCell])) (by omega) (by omega) rfl (fun a3 k3 => ?_)
    simp only [List.set_cons_zero, List.set_cons_succ, List.eraseIdx_cons_zero, List.eraseIdx_cons_succ, List.cons_append, List.nil_append]
    refine K.WL.drop (K.WL.someBuf 0 rfl (by omega) (fun b eb => ?_))
    subst eb
    have hcs : (p.map RowU.c).flatten ++ [x.v] = ((p.take i ++ x :: p.drop i).map RowU.c).flatten := by
      rw [List.take_of_length_le (by omega), List.drop_eq_nil_of_le (by omega), List.map_append, List.flatten_append]
      rfl
    rw [hcs]
    (repeat' (first | refine X.rq ?_ | (refine X.rc ?_ ?_ <;> intro hc <;> first | (exfalso; omega) | skip)))
    refine K.c_loop (σ := Nat) (fun k => [(0, .slice (some ⟨bb, oo, none⟩) xs.length ca), (3, bufV (some b) (i + 1) k3), (4, .int .i64 i), (5, .int .i64 k)]) (fun _ => h) (fun k => bufA 65 1 (some b) (i + 1) k3 ((p.take k ++ x :: p.drop k).map RowU.c).flatten :: F)
      (fun k => k ≤ i ∧ posN gtU p x p.length = posN gtU p x k) (fun k => k) i ⟨Nat.le_refl _, by rw [hpl]⟩ (by repeat (first | exact K.Sub.nil _ | refine K.Sub.cons rfl ?_)) rfl rfl ?_
    rintro k ⟨hk, hpos⟩ KM hKM
    have done : posN gtU p x k = k → p.take k ++ x :: p.drop k = insP gtU p x := fun e => by
      rw [insP, hpos, e]
    cases k with
    | zero =>
      have hd := done rfl
      (repeat' (first | refine X.rq ?_ | (refine X.rc ?_ ?_ <;> intro hc <;> first | (exfalso; omega) | skip)))
      refine X.draw ([]) [] (.pu 0 (.pu 1 (.pu 2 (.pu 3 (.pu 4 (.pu 5 (.pu 6 (.pu 8 (.pu 9 (.pu 10 (.st 7 (.st 11 (.on 12 (.pu 13 (.pu 14 .nil))))))))))))))) ?_ (hQ := by repeat (first | with_reducible refine K.NoPanic.then ?_ | with_reducible refine K.NoPanic.inBlock ?_ | with_reducible exact K.post_noPanic _ _ | exact K.post_noPanic _ _))
      refine K.d_pu rfl (fun _ _ => X.mv) rfl ?_
      refine K.d_pu rfl (fun _ _ => X.bgtr) rfl ?_
      refine K.d_pu rfl (fun _ _ => X.mv) rfl ?_
      first | refine K.d_skip rfl rfl rfl rfl ?_ | refine K.d_skipU rfl rfl rfl rfl rfl ?_ | refine K.d_puG rfl rfl rfl (fun _ _ => X.mv) rfl ?_
      first | refine K.d_skip rfl rfl rfl rfl ?_ | refine K.d_skipU rfl rfl rfl rfl rfl ?_ | refine K.d_puG rfl rfl rfl (fun _ _ => X.mv) rfl ?_
      first | refine K.d_skip rfl rfl rfl rfl ?_ | refine K.d_skipU rfl rfl rfl rfl rfl ?_ | refine K.d_puG rfl rfl rfl (fun _ _ => X.bsub) rfl ?_
      first | refine K.d_skip rfl rfl rfl rfl ?_ | refine K.d_skipU rfl rfl rfl rfl rfl ?_ | refine K.d_puG rfl rfl rfl (fun _ _ => X.ia) rfl ?_
      first | refine K.d_skip rfl rfl rfl rfl ?_ | refine K.d_skipU rfl rfl rfl rfl rfl ?_ | refine K.d_puG rfl rfl rfl (fun _ _ => X.mv) rfl ?_
      first | refine K.d_skip rfl rfl rfl rfl ?_ | refine K.d_skipU rfl rfl rfl rfl rfl ?_ | refine K.d_puG rfl rfl rfl (fun _ _ => X.mv) rfl ?_
      first | refine K.d_skip rfl rfl rfl rfl ?_ | refine K.d_skipU rfl rfl rfl rfl rfl ?_ | refine K.d_puG rfl rfl rfl (fun _ _ => X.ia) rfl ?_
      first | refine K.d_skipS rfl rfl rfl rfl ?_ | refine K.d_skipUS rfl rfl rfl rfl rfl ?_ | refine K.d_stG rfl rfl rfl X.ld rfl ?_
      first | refine K.d_skipS rfl rfl rfl rfl ?_ | refine K.d_skipUS rfl rfl rfl rfl rfl ?_ | refine K.d_stG rfl rfl rfl X.ld rfl ?_
      refine K.d_on rfl (fun KK hKK => ?_)
      first | refine K.s_skip rfl rfl rfl ?_ | refine K.s_skipU rfl rfl rfl rfl ?_
      refine K.l_nil ?_
      refine X.onE hKK ?_
      first | refine K.d_skip rfl rfl rfl rfl ?_ | refine K.d_skipU rfl rfl rfl rfl rfl ?_ | refine K.d_puG rfl rfl rfl (fun _ _ => X.bgtr) rfl ?_
      refine K.d_pu rfl (fun _ _ => X.pk) rfl ?_
      refine K.d_nil ?_
      (repeat' (first | refine X.rq ?_ | (refine X.rc ?_ ?_ <;> intro hc <;> first | (exfalso; omega) | skip)))
      all_goals first | (exfalso; omega) | skip
      refine K.a_round hKL ⟨i + 1, some b, k3⟩ (by simp only; omega) (by repeat (first | exact K.Sub.nil _ | refine K.Sub.cons rfl ?_)) rfl (by simp only; rw [hnext, ← hd]) (by simp only; omega)
    | succ k =>
      have hy1 : p[k]? = some (p[k]'(by omega)) := List.getElem?_eq_getElem (by omega)
      have hyo := hpo _ (List.getElem_mem (by omega : k < p.length))
      generalize p[k]'(by omega) = y at hy1 hyo
      obtain ⟨hys, hyw, hyl⟩ := hyo
      have hym : ((p.take (k + 1) ++ x :: p.drop (k + 1)).map RowU.c)[k]? = some [y.v] := by rw [List.getElem?_map, pre_at' hy1]; rfl
      have hxm : ((p.take (k + 1) ++ x :: p.drop (k + 1)).map RowU.c)[k + 1]? = some [x.v] := by rw [List.getElem?_map, mid_at (by omega)]; rfl
      obtain ⟨ya, yc, hyv⟩ := hys.len
      have hsw := swap_at (x := x) hy1
      have hpk : posN gtU p x (k + 1) = if gtU y x then posN gtU p x k else k + 1 := by rw [posN, hy1]
      generalize hq : p.take (k + 1) ++ x :: p.drop (k + 1) = qs at hym hxm hsw done ⊢
      have ce : ∀ (KK : List Asrt) (n : Nat) (u : Value), KK[0]? = some (bufA 65 1 (some b) (i + 1) k3 (qs.map RowU.c).flatten) → (qs.map RowU.c)[n]? = some [u] → ∀ o, o = n → Cel h KK b o u := fun KK n u hK hn o ho => by
        have := K.cel_rowZ (h := h) (q := 0) 0 hK (ru1 _) hn rfl
        rw [ho]
        rwa [Nat.mul_one, Nat.add_zero] at this
      (repeat' (first | refine X.rq ?_ | (refine X.rc ?_ ?_ <;> intro hc <;> first | (exfalso; omega) | skip)))
      refine X.draw ([bufA 65 1 (some b) (i + 1) k3 (qs.map RowU.c).flatten]) [] (.pu 0 (.pu 1 (.pu 2 (.pu 3 (.pu 4 (.pu 5 (.pu 6 (.pu 8 (.pu 9 (.pu 10 (.st 7 (.st 11 (.on 12 (.pu 13 (.pu 14 .nil))))))))))))))) ?_ (hQ := by repeat (first | with_reducible refine K.NoPanic.then ?_ | with_reducible refine K.NoPanic.inBlock ?_ | with_reducible exact K.post_noPanic _ _ | exact K.post_noPanic _ _))
      refine K.d_pu rfl (fun _ _ => X.mv) rfl ?_
      refine K.d_pu rfl (fun _ _ => X.bgtr) rfl ?_
      rw [decide_eq_true (by omega)]
      refine K.d_pu rfl (fun _ _ => X.mv) rfl ?_
      first | refine K.d_skip rfl rfl rfl rfl ?_ | refine K.d_skipU rfl rfl rfl rfl rfl ?_ | refine K.d_puG rfl rfl rfl (fun _ _ => X.mv) rfl ?_
      first | refine K.d_skip rfl rfl rfl rfl ?_ | refine K.d_skipU rfl rfl rfl rfl rfl ?_ | refine K.d_puG rfl rfl rfl (fun _ _ => X.mv) rfl ?_
      first | refine K.d_skip rfl rfl rfl rfl ?_ | refine K.d_skipU rfl rfl rfl rfl rfl ?_ | refine K.d_puG rfl rfl rfl (fun _ _ => X.bsub) rfl ?_
      first | refine K.d_skip rfl rfl rfl rfl ?_ | refine K.d_skipU rfl rfl rfl rfl rfl ?_ | refine K.d_puG rfl rfl rfl (fun _ _ => X.ia) rfl ?_
      first | refine K.d_skip rfl rfl rfl rfl ?_ | refine K.d_skipU rfl rfl rfl rfl rfl ?_ | refine K.d_puG rfl rfl rfl (fun _ _ => X.mv) rfl ?_
      first | refine K.d_skip rfl rfl rfl rfl ?_ | refine K.d_skipU rfl rfl rfl rfl rfl ?_ | refine K.d_puG rfl rfl rfl (fun _ _ => X.mv) rfl ?_
      first | refine K.d_skip rfl rfl rfl rfl ?_ | refine K.d_skipU rfl rfl rfl rfl rfl ?_ | refine K.d_puG rfl rfl rfl (fun _ _ => X.ia) rfl ?_
      refine K.d_stG rfl rfl rfl (K.p_load (v := y.v) (Fx.agg rfl) rfl (ce _ k _ rfl hym _ (by first | omega | (show Int.toNat (((k + 1 : Nat) : Int) - 1) = k; omega)))) rfl ?_
      refine K.d_stG rfl rfl rfl (K.p_load (v := x.v) (Fx.agg rfl) rfl (ce _ (k + 1) _ rfl hxm _ (by omega))) rfl ?_
      refine K.d_on rfl (fun KK hKK => ?_)
      refine K.s_take rfl rfl ?_
      refine K.l_callV (Fx.cal rfl) rfl (OrderR h y.v x.v y.r x.r hys hxs hyl hxl hyw hxw) (K.pp [] rfl) rfl rfl ?_
      simp only [List.nil_append]
      refine K.l_nil ?_
      refine X.onE hKK ?_
      first | refine K.d_skip rfl rfl rfl rfl ?_ | refine K.d_skipU rfl rfl rfl rfl rfl ?_ | refine K.d_puG rfl rfl rfl (fun _ _ => X.bgtr) rfl ?_
      generalize hdd : decide ((0 : Int) < ordR y.r x.r) = bq
      refine K.d_pu rfl (fun _ _ => X.pk) rfl ?_
      refine K.d_nil ?_
      cases bq with
      | false =>
        have hd := done (by rw [hpk, if_neg]; rw [gtU, hdd]; decide)
        (repeat' (first | refine X.rq ?_ | (refine X.rc ?_ ?_ <;> intro hc <;> first | (exfalso; omega) | skip)))
        refine K.a_round hKL ⟨i + 1, some b, k3⟩ (by simp only; omega) (by repeat (first | exact K.Sub.nil _ | refine K.Sub.cons rfl ?_)) rfl (by simp only; rw [hnext, ← hd]) (by simp only; omega)
      | true =>
        have hpos' : posN gtU p x p.length = posN gtU p x k := by rw [hpos, hpk, if_pos]; rw [gtU, hdd]
        (repeat' (first | refine X.rq ?_ | (refine X.rc ?_ ?_ <;> intro hc <;> first | (exfalso; omega) | skip)))
        refine X.draw ([bufA 65 1 (some b) (i + 1) k3 (qs.map RowU.c).flatten]) [15, 17] (.pu 0 (.pu 1 (.pu 2 (.pu 3 (.pu 4 (.pu 5 (.pu 6 (.pu 7 (.pu 9 (.pu 10 (.pu 11 (.pu 12 (.st 8 (.st 13 (.pu 14 (.cl 15 (.pu 16 (.cl 17 .nil)))))))))))))))))) ?_ (hQ := by repeat (first | with_reducible refine K.NoPanic.then ?_ | with_reducible refine K.NoPanic.inBlock ?_ | with_reducible exact K.post_noPanic _ _ | exact K.post_noPanic _ _))
        refine K.d_pu rfl (fun _ _ => X.mv) rfl ?_
        refine K.d_pu rfl (fun _ _ => X.mv) rfl ?_
        refine K.d_pu rfl (fun _ _ => X.bsub) rfl ?_
        refine K.d_pu rfl (fun _ _ => X.mv) rfl ?_
        refine K.d_pu rfl (fun _ _ => X.mv) rfl ?_
        refine K.d_pu rfl (fun _ _ => X.mv) rfl ?_
        refine K.d_pu rfl (fun _ _ => X.mv) rfl ?_
        refine K.d_pu rfl (fun _ _ => X.ia) rfl ?_
        refine K.d_pu rfl (fun _ _ => X.mv) rfl ?_
        refine K.d_pu rfl (fun _ _ => X.mv) rfl ?_
        refine K.d_pu rfl (fun _ _ => X.bsub) rfl ?_
        refine K.d_pu rfl (fun _ _ => X.ia) rfl ?_
        refine K.d_st rfl (K.p_load (v := x.v) (Fx.agg rfl) rfl (ce _ (k + 1) _ rfl hxm _ (by omega))) rfl ?_
        refine K.d_st rfl (K.p_load (v := y.v) (Fx.agg rfl) rfl (ce _ k _ rfl hym _ (by first | omega | (show Int.toNat (((k + 1 : Nat) : Int) - 1) = k; omega)))) rfl ?_
        refine K.d_pu rfl (fun _ _ => X.ia) rfl ?_
        refine K.d_cl rfl (fun KK hKK => ?_)
        refine K.l_storePart1 (i := k) (q := 0) (c := [y.v]) 0 rfl (Fx.sz rfl) (by refine congrArg (fun o => some (Value.pointer (some ⟨b, o, none⟩))) (?_ : _ = _); first | omega | (show Int.toNat (((k + 1 : Nat) : Int) - 1) = k * 1 + 0; omega)) rfl (by rw [hxv]; rfl) (ru1 _) hym (by show 0 < 1; decide) ?_
        simp only [List.set_cons_zero, List.set_cons_succ, List.eraseIdx_cons_zero, List.eraseIdx_cons_succ, List.cons_append, List.nil_append]
        refine K.l_nil ?_
        refine K.d_clE hKK ?_
        refine K.d_pu rfl (fun _ _ => X.ia) rfl ?_
        refine K.d_cl rfl (fun KK hKK => ?_)
        refine K.l_storePart1 (i := k + 1) (q := 0) (c := [x.v]) 0 rfl (Fx.sz rfl) (by refine congrArg (fun o => some (Value.pointer (some ⟨b, o, none⟩))) (?_ : _ = _); omega) rfl (by rw [hyv]; rfl) (fun e he => by
        rcases List.mem_or_eq_of_mem_set he with he | he
        · exact ru1 _ e he
        · rw [he]; rfl) (by rw [List.getElem?_set_ne (by omega)]; exact hxm) (by show 0 < 1; decide) ?_
        simp only [List.set_cons_zero, List.set_cons_succ, List.eraseIdx_cons_zero, List.eraseIdx_cons_succ, List.cons_append, List.nil_append]
        refine K.l_nil ?_
        refine K.d_clE hKK ?_
        refine K.d_nil ?_
        have hfin : ((qs.map RowU.c).set k [x.v]).set (k + 1) [y.v] = (p.take k ++ x :: p.drop k).map RowU.c := by
          rw [← hsw, List.map_set, List.map_set]
          rfl
        rw [hfin]
        (repeat' (first | refine X.rq ?_ | (refine X.rc ?_ ?_ <;> intro hc <;> first | (exfalso; omega) | skip)))
        rw [show (((k + 1 : Nat) : Int) - 1) = (k : Int) by omega]
        refine K.a_round hKM k ⟨by omega, hpos'⟩ (by repeat (first | exact K.Sub.nil _ | refine K.Sub.cons rfl ?_)) rfl rfl (by omega)
  · obtain rfl : i = xs.length := by omega
    rw [List.take_length]
    have hpl : (insAll gtU [] xs).length = xs.length := by rw [insAll_length]; simp
    have hpo : ∀ y ∈ insAll gtU [] xs, y.ok h := fun y hy => hok y (by simpa using (insAll_perm gtU xs []).subset hy)
    have hmp : (insAll gtU [] xs).map RowU.r = sortQ (xs.map RowU.r) := by rw [insAll_map]; rfl
    generalize insAll gtU [] xs = p at hpl hpo hmp ⊢
    have e1 : xs.length = (p.map RowU.c).length := by rw [List.length_map, hpl]
    rw [← hmp, e1]
    (repeat' (first | refine X.rq ?_ | (refine X.rc ?_ ?_ <;> intro hc <;> first | (exfalso; omega) | skip)))
    refine K.AT.perm (K.pp [0] rfl) (K.AT.freezeRow (ru1 p) (fun h3 hle3 hs3 _ => ?_))
    refine K.done (.inl rfl) rfl hle3 (H' := []) rfl ⟨rfl, _, hs3, (rows_det hpo).mono fun r c hc => hc.le hle3⟩
end Go.Proofs.Ytdjacjhojbkgjaa.Ct
