/-
  Texts joined: N7 Ft Fp Fq Fu Fv. Conditions: each theorem's own.
-/
import Derived.Test.YtkdngpiiecmpgaaGreatQ34
import Derived.Test.YtkdngpiiecmpgaaGreatQ35
import Derived.Test.YtkdngpiiecmpgaaGreatQ32
import Derived.Test.YtkdngpiiecmpgaaGreatQ15
import Derived.Test.YtkdngpiiecmpgaaGreatQ31
import Derived.Test.YtkdngpiiecmpgaaGreatQ1
section
namespace Go.Proofs.YtkdngpiiecmpgaaGreat.Ch
open Go Go.K Go.Proofs Go.Proofs.YtkdngpiiecmpgaaGreat Go.Proofs.YtkdngpiiecmpgaaGreat.Pg Go.Proofs.YtkdngpiiecmpgaaGreat.Rc
set_option linter.unusedVariables false
set_option linter.unusedSimpArgs false
set_option maxRecDepth 10000

def placeQ (l : List PImg) (n : Nat) : Int := match l.findIdx? fun x => decide (x.page = n) with
 | some i => (i : Int)
 | none => -1
theorem place_some {l : List PImg} {n i : Nat} {x : PImg} (hx : l[i]? = some x) (he : x.page = n) (hb : ∀ (j : Nat) (y : PImg), j < i → l[j]? = some y → y.page ≠ n) : placeQ l n = i := by
 obtain ⟨hi, hxe⟩ := List.getElem?_eq_some_iff.1 hx
 have h1 : l.findIdx? (fun x => decide (x.page = n)) = some i := by
  rw [List.findIdx?_eq_some_iff_getElem]
  refine ⟨hi, by rw [hxe]; exact decide_eq_true he, fun j hj => ?_⟩
  have := hb j _ hj (List.getElem?_eq_getElem (by omega))
  simpa using this
 unfold placeQ
 rw [h1]
theorem place_none {l : List PImg} {n : Nat} (hb : ∀ (j : Nat) (y : PImg), l[j]? = some y → y.page ≠ n) : placeQ l n = -1 := by
 have h1 : l.findIdx? (fun x => decide (x.page = n)) = none := by
  rw [List.findIdx?_eq_none_iff]
  intro x hx
  obtain ⟨j, hj⟩ := List.mem_iff_getElem?.1 hx
  exact decide_eq_false (hb j x hj)
 unfold placeQ
 rw [h1]
theorem take_lt {l : List PImg} {n j : Nat} {y : PImg} (hj : j < plcI l n) (hy : l[j]? = some y) : y.page < n := by
 unfold plcI at hj
 induction l generalizing j with
 | nil => simp at hy
 | cons z l ih =>
  rw [List.takeWhile_cons] at hj
  split at hj
  ·rename_i hz
   cases j with
   | zero => obtain rfl := Option.some.inj hy; exact of_decide_eq_true hz
   | succ j => exact ih (by simpa using hj) hy
  ·simp at hj
theorem plc_le {l : List PImg} {n : Nat} {y : PImg} (hy : l[plcI l n]? = some y) : n ≤ y.page := by
 unfold plcI at hy
 induction l with
 | nil => simp at hy
 | cons z l ih =>
  rw [List.takeWhile_cons] at hy
  split at hy
  ·exact ih (by simpa using hy)
  ·rename_i hz
   obtain rfl := Option.some.inj hy
   simpa using hz
theorem place_plc {l : List PImg} {n : Nat} (hr : Rising PImg.page l) : placeQ l n = if plcB l n = true then (plcI l n : Int) else -1 := by
 by_cases hb : plcB l n = true
 ·rw [if_pos hb]
  obtain ⟨x, hx, he⟩ := plc_some hb
  exact place_some hx he fun j y hj hy => by have := take_lt hj hy; omega
 ·rw [if_neg hb]
  refine place_none fun j y hy he => hb ?_
  have hnl : ¬ j < plcI l n := fun h => by have := take_lt h hy; omega
  have hjl := (List.getElem?_eq_some_iff.1 hy).1
  obtain ⟨z, hz⟩ : ∃ z, l[plcI l n]? = some z := ⟨_, List.getElem?_eq_getElem (by omega)⟩
  have h1 := plc_le hz
  unfold plcB
  rw [hz]
  refine decide_eq_true ?_
  by_cases e : plcI l n = j
  ·rw [e, hy] at hz
   rw [← Option.some.inj hz]
   exact he
  ·have := rise_lt hr (by omega : plcI l n < j) hz hy
   omega
set_option maxHeartbeats 8000000 in
theorem RPlace (h : Base) (v : Value) (es : List (List Value)) (l : List PImg) (n : Nat) (hv : SL h 5 v es) (hr : RowsG (ImgC h) es l) (hl : l.length ≤ 9223372036854775807) :
  TrV Tryz.prog 46 [v, .int .u32 n] h [] (.int .i64 (placeQ l n)) [] := by
 have hel := hr.1
 obtain ⟨ao, ca, rfl⟩ := hv.len
 rw [hel] at hv ⊢
 have hr := fun (_ : Unit) => hr
 refine K.enter Tryz.func46 rfl (Nat.le_of_ble_eq_true rfl) (fun F => ?_)
 simp only [List.nil_append]
 (repeat' (first | refine X.rq ?_ | (refine X.rc ?_ ?_ <;> intro hc <;> first | (exfalso; omega) | skip)))
 refine K.c_loop (σ := Nat) (fun j => [(0, .slice ao l.length ca), (1, .int .u32 n), (5, .int .i64 j)]) (fun _ => h) (fun _ => F)
  (fun j => j ≤ l.length ∧ ∀ (i : Nat) (y : PImg), i < j → l[i]? = some y → y.page ≠ n) (fun j => l.length - j) 0 ⟨Nat.zero_le _, (fun i y hi => absurd hi (Nat.not_lt_zero _))⟩ (by repeat (first | exact K.Sub.nil _ | refine K.Sub.cons rfl ?_)) rfl rfl ?_
 rintro j ⟨hj, hno⟩ KL hKL
 have hno := fun (_ : Unit) => hno
 by_cases hjl : j < l.length
 ·have hc1 : es[j]? = some (es[j]'(by omega)) := List.getElem?_eq_getElem (by omega)
  have hx1 : l[j]? = some (l[j]'hjl) := List.getElem?_eq_getElem hjl
  generalize es[j]'(by omega) = c at hc1
  generalize l[j]'hjl = x at hx1
  obtain ⟨hxg, pcs, rfl, _⟩ := (hr ()).2 j c x hc1 hx1
  obtain ⟨bb, oo, rfl, hcx⟩ := hv.at hc1
  have hcl := Cels.get (Cels.up (K := F) hcx) 0 (.int .u32 x.page) rfl
  by_cases he : x.page = n
  ·rw [place_some hx1 he (hno ())]
   (repeat' (first | refine X.rq ?_ | (refine X.rc ?_ ?_ <;> intro hc <;> first | (exfalso; omega) | skip)))
   refine K.done (by first | exact Or.inl rfl | exact Or.inr rfl) rfl (by first | exact K.Base.le.refl _ | assumption) (H' := []) rfl ⟨rfl, rfl, rfl⟩
  ·(repeat' (first | refine X.rq ?_ | (refine X.rc ?_ ?_ <;> intro hc <;> first | (exfalso; omega) | skip)))
   refine K.a_round hKL (j + 1) ⟨by omega, fun i y hi hy => ?_⟩ (by repeat (first | exact K.Sub.nil _ | refine K.Sub.cons rfl ?_)) rfl rfl (by omega)
   by_cases hij : i = j
   ·subst hij; rw [hx1] at hy; obtain rfl := Option.some.inj hy; exact he
   ·exact hno () i y (by omega) hy
 ·obtain rfl : j = l.length := by omega
  rw [place_none fun i y hy => hno () i y (List.getElem?_eq_some_iff.1 hy).1 hy]
  clear hno
  (repeat' (first | refine X.rq ?_ | (refine X.rc ?_ ?_ <;> intro hc <;> first | (exfalso; omega) | skip)))
  refine K.done (by first | exact Or.inl rfl | exact Or.inr rfl) rfl (by first | exact K.Base.le.refl _ | assumption) (H' := []) rfl ⟨rfl, rfl, rfl⟩
structure CpiS where
 j : Nat
 a : Option Nat
 k : Nat
 es : List (List Value)
 cs : List Value
 b : Base
set_option maxHeartbeats 8000000 in
theorem RCopyI (h : Base) (v : Value) (es : List (List Value)) (l : List PImg) (hv : SL h 5 v es) (hr : RowsG (ImgC h) es l) (hl : l.length ≤ 1000000) (hs : ∀ m ∈ l, smallX m.to.cells) :
  Tr Tryz.prog 15 [v] h [] (fun u h' H' => ∃ a k es', u = bufV a l.length k ∧ RowsG (ImgC h') es' l ∧ H' = [bufA 52 5 a l.length k es'.flatten]) := by
 have hel := hr.1
 obtain ⟨ao, ca, rfl⟩ := hv.len
 rw [hel] at hv ⊢
 have hr := fun (_ : Unit) => hr
 have hs := fun (_ : Unit) => hs
 refine K.enter Tryz.func15 rfl (Nat.le_of_ble_eq_true rfl) (fun F => ?_)
 simp only [List.nil_append]
 (repeat' (first | refine X.rq ?_ | (refine X.rc ?_ ?_ <;> intro hc <;> first | (exfalso; omega) | skip)))
 refine K.WC.nilBuf 52 5 ?_
 refine K.c_loop (σ := CpiS) (fun q => [(0, .slice ao l.length ca), (3, bufV q.a q.j q.k), (4, .int .i64 q.j)]) (fun q => q.b) (fun q => bufA 52 5 q.a q.j q.k q.cs :: F)
  (fun q => q.j ≤ l.length ∧ h.le q.b ∧ RowsG (ImgC q.b) q.es (l.take q.j) ∧ q.cs = q.es.flatten) (fun q => l.length - q.j) ⟨0, none, 0, [], [], h⟩ ⟨Nat.zero_le _, .refl _, ⟨rfl, fun j c x hc => by cases hc⟩, rfl⟩ (by repeat (first | exact K.Sub.nil _ | refine K.Sub.cons rfl ?_)) rfl rfl ?_
 rintro ⟨j, a, k, es1, cs1, h1⟩ ⟨hj, le1, hr1, hcs1⟩ KL hKL
 dsimp only at hj le1 hr1 hcs1 ⊢
 by_cases hjl : j < l.length
 ·have hc1 : es[j]? = some (es[j]'(by omega)) := List.getElem?_eq_getElem (by omega)
  have hx1 : l[j]? = some (l[j]'hjl) := List.getElem?_eq_getElem hjl
  have hsx := hs () _ (List.getElem_mem hjl)
  generalize es[j]'(by omega) = c at hc1
  generalize l[j]'hjl = x at hx1 hsx
  obtain ⟨hxg, pcs, rfl, hpx⟩ := (hr ()).2 j c x hc1 hx1
  have hcp := CopyPageX h1 pcs x.to (hpx.le le1) hsx
  have hwx := hpx.1
  obtain ⟨_, cv, rfl, ex, hsx5, _⟩ := hpx
  obtain ⟨ao5, ca5, rfl⟩ := hsx5.len
  obtain ⟨bb, oo, rfl, hcx⟩ := (hv.le le1).at hc1
  (repeat' (first | refine X.rq ?_ | (refine X.rc ?_ ?_ <;> intro hc <;> first | (exfalso; omega) | skip)))
  refine X.draw ([]) [] (.pu 0 (.pu 1 (.pu 2 (.pu 3 (.pu 4 (.pu 6 (.pu 7 (.pu 8 (.pu 9 (.st 5 (.st 10 (.on 11 (.pu 12 (.on 13 (.on 14 (.pu 15 .nil)))))))))))))))) ?_
  refine K.d_pu rfl (fun _ _ => X.mv) rfl ?_
  refine K.d_pu rfl (fun _ _ => X.mv) rfl ?_
  refine K.d_pu rfl (fun _ _ => X.mv) rfl ?_
  refine K.d_pu rfl (fun _ _ => X.ia) rfl ?_
  refine K.d_pu rfl (fun _ _ => X.fa) rfl ?_
  refine K.d_pu rfl (fun _ _ => X.mv) rfl ?_
  refine K.d_pu rfl (fun _ _ => X.mv) rfl ?_
  refine K.d_pu rfl (fun _ _ => X.ia) rfl ?_
  refine K.d_pu rfl (fun _ _ => X.fa) rfl ?_
  refine K.d_st rfl (K.p_load (Fx.agg rfl) rfl (Cels.get (Cels.up hcx) 0 (.int .u32 x.page) rfl)) rfl ?_
  refine K.d_st rfl (K.p_loadM (Fx.agg rfl) rfl (Cels.up hcx).2 (Fx.sz rfl) rfl) rfl ?_
  refine K.d_on rfl (fun KK hKK => ?_)
  refine K.l_call (Fx.cal rfl) rfl hcp (K.pp [] rfl) rfl ?_
  rintro u h2 H' le2 ⟨a2, c2, fs, rfl, hrow, rfl⟩
  simp only [List.nil_append, List.cons_append]
  refine K.l_nil ?_
  refine X.onE hKK ?_
  refine K.d_pu rfl (fun _ _ => X.bd) rfl ?_
  refine K.d_on rfl (fun KK hKK => ?_)
  refine K.l_buildSlice (Fx.und rfl) (Fx.sz rfl) rfl (Fx.zr rfl) rfl rfl rfl (cs := .int .u32 x.page :: cP x.to (bufV a2 x.to.cells.length c2)) rfl rfl (fun B19 => ?_)
  refine K.l_nil ?_
  refine X.onE hKK ?_
  refine K.d_on rfl (fun KK hKK => ?_)
  refine K.l_append_at 2 rfl (Fx.und rfl) (Fx.und rfl) rfl (Fx.sz rfl) (Fx.zr rfl) rfl (Fx.byt rfl) rfl rfl (K.src_cells (K.cels_own (pre := []) (cs := .int .u32 x.page :: cP x.to (bufV a2 x.to.cells.length c2)) (post := []) 0 rfl rfl) rfl (by simp [oneCell, cP, bufV])) (by omega) (by omega) rfl (fun a6 cap6 => ?_)
  simp only [List.set_cons_zero, List.set_cons_succ, List.eraseIdx_cons_zero, List.eraseIdx_cons_succ, List.cons_append, List.nil_append]
  refine K.l_nil ?_
  refine X.onE hKK ?_
  refine K.d_pu rfl (fun _ _ => X.sg) rfl ?_
  refine K.d_nil ?_
  (repeat' (first | refine X.rq ?_ | (refine X.rc ?_ ?_ <;> intro hc <;> first | (exfalso; omega) | skip)))
  refine K.AT.sel [0] rfl ?_
  refine Ch.AT.freezeRowE fs (by rw [hrow.1]) rfl hrow.2.1 (fun h3 le3 hsl => ?_)
  refine K.a_round hKL ⟨j + 1, a6, cap6, es1 ++ [.int .u32 x.page :: cP x.to (bufV a2 x.to.cells.length c2)], _, h3⟩ ⟨by dsimp only; omega, le1.trans (le2.trans le3), ?_, by dsimp only; rw [hcs1, List.flatten_append]; simp⟩ (by repeat (first | exact K.Sub.nil _ | refine K.Sub.cons rfl ?_)) rfl rfl (by dsimp only; omega)
  dsimp only
  rw [List.take_add_one, hx1]
  exact RowsG.push (RowsG.mono (fun c y hc => hc.le (le2.trans le3)) hr1) ⟨hxg, _, rfl, hwx, _, rfl, fs, hsl, hrow.1, fun j c y a b => (hrow.2.2 j c y a b).le le3⟩
 ·obtain rfl : j = l.length := by omega
  rw [List.take_length] at hr1
  subst hcs1
  (repeat' (first | refine X.rq ?_ | (refine X.rc ?_ ?_ <;> intro hc <;> first | (exfalso; omega) | skip)))
  refine K.done (by first | exact Or.inl rfl | exact Or.inr rfl) rfl (by first | exact K.Base.le.refl _ | assumption) (H' := [bufA 52 5 a l.length k es1.flatten]) rfl ⟨a, k, es1, rfl, hr1, rfl⟩
end Go.Proofs.YtkdngpiiecmpgaaGreat.Ch
end

section
namespace Go.Proofs.YtkdngpiiecmpgaaGreat.Pg
open Go Go.K Go.Proofs Go.Proofs.YtkdngpiiecmpgaaGreat
set_option linter.unusedVariables false
set_option linter.unusedSimpArgs false
set_option maxRecDepth 10000

theorem where_at {q : Pag} {x : POp} {j : Nat} {c : PCell} (h1 : q.kind = 1 → x.slot = j ∧ c.used = true) (h2 : q.kind ≠ 1 → posQ q.cells x.data = j ∧ c.data = x.data) (hc : q.cells[j]? = some c) : whereQ q x = ((j : Int), true) := by
 unfold whereQ
 split
 ·rename_i hk
  obtain ⟨e1, e2⟩ := h1 hk
  rw [e1, used_some hc, e2]
 ·rename_i hk
  obtain ⟨e1, e2⟩ := h2 hk
  rw [e1, dataAt, hc]
  exact Prod.ext rfl (decide_eq_true e2)
/-! ### Others' cells stay -/
def cellAt (l : List PCell) (i : Nat) : PCell := (l[i]?).getD ⟨false, 0, []⟩
def atQ (l : List PCell) (d : List UInt8) : PCell := (l.find? (fun x => decide (x.data = d))).getD ⟨false, 0, []⟩
def meantQ (p : Pag) (o : POp) (i : Nat) (a : PCell) : Bool := decide (p.kind = 1 ∧ (i : Int) = o.slot) || decide (p.kind = 2 ∧ (a.used = false ∨ a.data = o.data))
def behindQ (p q : Pag) (i : Nat) : PCell := if p.kind = 2 ∧ (cellAt p.cells i).used = true then atQ q.cells (cellAt p.cells i).data else cellAt q.cells i
/-! ### Room -/
theorem do_put {p : Pag} {x : POp} {j : Nat} (hm : mayQ p = true) (hr : rightP p.kind x) (hw : whereQ p x = ((j : Int), false)) (hj : j ≤ p.cells.length) (hk : x.kind = 1) : doQ p x = putQ p j x.data := by
 rw [doQ_yes hm hr, hw]
 show doR p x (j : Int) false = _
 rw [doR, if_pos hk, if_neg (by omega), if_neg (by decide), Int.toNat_natCast]
theorem put_fits {p : Pag} {j : Nat} {d : List UInt8} (hm : mayQ p = true) (hj : j ≤ p.cells.length) (hd : 1 ≤ d.length ∧ d.length ≤ 180) (grow : Nat) (hg : sizeS (putC p.kind p.cells j d) = sizeS p.cells + grow) :
  cellsQ (putC p.kind p.cells j d) = decide ((putC p.kind p.cells j d).length ≤ 60 ∧ sizeQ p.cells + grow ≤ 512) := by
 have hcp := may_ok hm
 rw [Bool.eq_iff_iff, cellsQ_iff, decide_eq_true_iff]
 have ho : ∀ (i : Nat) x, (putC p.kind p.cells j d)[i]? = some x → okCell x := fun i x hx => by
  have hmem := List.mem_of_getElem? hx
  have hn : okCell ⟨true, 0, d⟩ := ⟨fun _ => hd, fun e => by cases e⟩
  unfold putC at hmem
  split at hmem
  ·rcases List.mem_append.1 hmem with h | h
   ·exact hcp x (List.mem_of_mem_take h)
   ·rcases List.mem_cons.1 h with rfl | h
    ·exact hn
    ·exact hcp x (List.mem_of_mem_drop h)
  ·rcases List.mem_or_eq_of_mem_set hmem with h | h
   ·exact hcp x h
   ·rw [h]; exact hn
 constructor
 ·rintro ⟨_, h2, h3⟩
  exact ⟨h2, by unfold sizeQ at h3 ⊢; omega⟩
 ·rintro ⟨h2, h3⟩
  exact ⟨ho, h2, by unfold sizeQ at h3 ⊢; omega⟩
theorem sizeS_ins (l : List PCell) (j : Nat) (c : PCell) : sizeS (l.take j ++ c :: l.drop j) = sizeS l + sizeC c := by
 have := sizeS_append (l.take j) (l.drop j)
 rw [List.take_append_drop] at this
 rw [sizeS_append, sizeS]; omega
def slotQ (l : List PCell) : Nat := l.findIdx (fun x => !x.used)
end Go.Proofs.YtkdngpiiecmpgaaGreat.Pg
end

section
namespace Go.Proofs.YtkdngpiiecmpgaaGreat.Pg
open Go Go.K Go.Proofs Go.Proofs.YtkdngpiiecmpgaaGreat
set_option linter.unusedVariables false
set_option linter.unusedSimpArgs false
set_option maxRecDepth 10000

theorem Ok.back {h h1 : Base} {F : List Asrt} {w : World} (hle : h.le h1) (ok : Ok h1 F w) : Ok h F w :=
 ⟨ok.os.trans hle.os, ok.tape.trans hle.tape, ok.output.trans hle.output, ⟨fun b o hb => ok.sat.imm b o (hle.mem b o hb), ok.sat.own⟩, ok.nd, fun b hb => by
  cases hm : h.mem b with
  | none => rfl
  | some o => have := hle.mem b o hm; rw [ok.dj b hb] at this; cases this⟩
section
variable {P : Program} {n : Nat} {Q : Exit → Act → World → Prop} {E : Env} {h h1 : Base} {F : List Asrt} {ops : Array Oper}
theorem AT.back {q : Exit} (hle : h.le h1) (hx : AT P n Q q E h F) : AT P n Q q E h1 F := ⟨fun a w fa ok => hx.run a w fa (Ok.back hle ok)⟩
theorem WL.back {L : List Oper} (hle : h.le h1) (hx : WL P n ops Q L E h F) : WL P n ops Q L E h1 F := ⟨fun a w fa ok => hx.run a w fa (Ok.back hle ok)⟩
theorem WC.back {c : Code} (hle : h.le h1) (hx : WC P n c Q E h F) : WC P n c Q E h1 F := ⟨fun a w fa ok => hx.run a w fa (Ok.back hle ok)⟩
end
def pA : Pag := ⟨1, 0, 0, []⟩
def pB : Pag := ⟨1, 0, 0, [⟨true, 0, [97, 98]⟩]⟩
def pC : Pag := ⟨1, 0, 0, [⟨true, 0, [97, 98]⟩, ⟨true, 0, [99]⟩]⟩
end Go.Proofs.YtkdngpiiecmpgaaGreat.Pg
end

section
namespace Go.Proofs.YtkdngpiiecmpgaaGreat.Pg
open Go Go.K Go.Proofs Go.Proofs.YtkdngpiiecmpgaaGreat
set_option linter.unusedVariables false
set_option linter.unusedSimpArgs false
set_option maxRecDepth 10000

theorem page_of_row {h : Base} {v : Value} {es : List (List Value)} {p : Pag} (hw : wfP p) (hv : SL h 3 v es) (hr : RowC h es p.cells) : PagC h (cP p v) p := ⟨hw, v, rfl, es, hv, hr.1, hr.2.2⟩
end Go.Proofs.YtkdngpiiecmpgaaGreat.Pg
end

section
namespace Go.Proofs.YtkdngpiiecmpgaaGreat.Pg
open Go Go.K Go.Proofs Go.Proofs.YtkdngpiiecmpgaaGreat
set_option linter.unusedVariables false
set_option linter.unusedSimpArgs false
set_option maxRecDepth 10000

end Go.Proofs.YtkdngpiiecmpgaaGreat.Pg
end

section
namespace Go.Proofs.YtkdngpiiecmpgaaGreat.Pg
open Go Go.K Go.Proofs Go.Proofs.YtkdngpiiecmpgaaGreat
set_option linter.unusedVariables false
set_option linter.unusedSimpArgs false
set_option maxRecDepth 10000

theorem find_at {l : List PCell} {d : List UInt8} {j : Nat} {x : PCell} (hx : l[j]? = some x) (hd : x.data = d) (hno : ∀ (i : Nat) y, i < j → l[i]? = some y → y.data ≠ d) : atQ l d = x := by
 have hlt := (List.getElem?_eq_some_iff.1 hx).1
 have e : l = l.take j ++ x :: l.drop (j + 1) := by
  conv => lhs; rw [← List.take_append_drop j l]
  rw [List.drop_eq_getElem_cons hlt, (List.getElem?_eq_some_iff.1 hx).2]
 have hA : (l.take j).find? (fun x => decide (x.data = d)) = none := List.find?_eq_none.2 fun y hy => by
  obtain ⟨i, hi, e⟩ := List.getElem_of_mem hy
  rw [List.length_take] at hi
  have := hno i y (by omega) (by rw [List.getElem_take] at e; rw [List.getElem?_eq_getElem (by omega), e])
  simpa using this
 unfold atQ
 rw [e, List.find?_append, hA, Option.none_or, List.find?_cons_of_pos (by simpa using hd)]; rfl
theorem cell_z (h : Base) : CellC h [.bool false, .int .u32 0, .slice none 0 0] ⟨false, 0, []⟩ := ⟨by decide, by decide, none, 0, rfl, BV.nil⟩
end Go.Proofs.YtkdngpiiecmpgaaGreat.Pg
end
