/-
  Texts joined: Hd Ac R3 Fh Fi. Conditions: each theorem's own.
-/
import Derived.Test.YtmcdaegaopfihaaGreatY9
import Derived.Test.YtmcdaegaopfihaaGreatY8
section
namespace Go.Proofs.YtmcdaegaopfihaaGreat.Rc
open Go Go.K Go.Proofs Go.Proofs.YtmcdaegaopfihaaGreat Go.Proofs.YtmcdaegaopfihaaGreat.Pg
set_option linter.unusedVariables false
set_option linter.unusedSimpArgs false
set_option maxRecDepth 10000

theorem RecC.cells {h : Base} {cs : List Value} {r : Recd} (hx : RecC h cs r) : wfR r ∧ ∃ ad ai al ay cd ci cl cy, cs = cR r (.slice ad r.op.data.length cd) (.slice ai r.images.length ci) (.slice al r.lives.length cl) (.slice ay r.dirty.length cy) ∧ BV h (.slice ad r.op.data.length cd) r.op.data ∧ ImgsV h (.slice ai r.images.length ci) r.images ∧ SL h 4 (.slice al r.lives.length cl) (r.lives.map cL) ∧ SL h 2 (.slice ay r.dirty.length cy) (r.dirty.map cD) := by
 obtain ⟨hw, ad, cd, iv, lv, yv, rfl, hb, ⟨es, h1, h2, h3⟩, h4, h5⟩ := hx
 obtain ⟨ai, ci, rfl⟩ := h1.len
 obtain ⟨al, cl, rfl⟩ := h4.len
 obtain ⟨ay, cy, rfl⟩ := h5.len
 rw [List.length_map] at h4 ⊢
 rw [List.length_map] at h5 ⊢
 rw [h2] at h1 ⊢
 exact ⟨hw, ad, ai, al, ay, cd, ci, cl, cy, rfl, hb, ⟨es, h1, h2, h3⟩, h4, h5⟩
theorem bare_iff (r : Recd) : bareP r ↔ r.txn = (usedQ r).txn ∧ r.prev = (usedQ r).prev ∧ r.undo = (usedQ r).undo ∧ r.page = (usedQ r).page ∧ r.root = (usedQ r).root ∧ r.next = (usedQ r).next ∧ r.op.kind = (usedQ r).op.kind ∧ r.op.slot = (usedQ r).op.slot ∧ r.op.txn = (usedQ r).op.txn ∧
  r.op.data.length = (if r.kind = 2 ∨ r.kind = 3 then r.op.data.length else 0) ∧ r.images.length = (if r.kind = 4 then r.images.length else 0) ∧ r.lives.length = (if r.kind = 8 then r.lives.length else 0) ∧ r.dirty.length = (if r.kind = 8 then r.dirty.length else 0) := by
 rw [bareP_iff]
 unfold usedQ
 dsimp only
 constructor
 ·rintro ⟨h1, h2, h3, h4, h5, h6⟩
  refine ⟨?_, ?_, ?_, ?_, ?_, ?_, ?_, ?_, ?_, ?_, ?_, ?_, ?_⟩
  ·split
   ·rfl
   ·exact h1 (by assumption)
  ·split
   ·rfl
   ·exact h2 (by assumption)
  ·split
   ·rfl
   ·exact h3 (by assumption)
  ·split
   ·rfl
   ·exact (h4 (by assumption)).1
  ·split
   ·rfl
   ·exact (h4 (by assumption)).2.1
  ·split
   ·rfl
   ·exact (h5 (by assumption)).1
  ·split
   ·rfl
   ·exact (h4 (by assumption)).2.2.1
  ·split
   ·rfl
   ·exact (h4 (by assumption)).2.2.2.1
  ·split
   ·rfl
   ·exact (h4 (by assumption)).2.2.2.2.1
  ·split
   ·rfl
   ·exact (h4 (by assumption)).2.2.2.2.2
  ·split
   ·rfl
   ·exact h6 (by assumption)
  ·split
   ·rfl
   ·exact (h5 (by assumption)).2.1
  ·split
   ·rfl
   ·exact (h5 (by assumption)).2.2
 ·rintro ⟨h1, h2, h3, h4, h5, h6, h7, h8, h9, h10, h11, h12, h13⟩
  refine ⟨fun h => ?_, fun h => ?_, fun h => ?_, fun h => ?_, fun h => ?_, fun h => ?_⟩
  ·rwa [if_neg h] at h1
  ·rwa [if_neg h] at h2
  ·rwa [if_neg h] at h3
  ·rw [if_neg h] at h4 h5 h7 h8 h9 h10
   exact ⟨h4, h5, h7, h8, h9, h10⟩
  ·rw [if_neg h] at h6 h12 h13
   exact ⟨h6, h12, h13⟩
  ·rwa [if_neg h] at h11
set_option maxHeartbeats 8000000 in
theorem PBare (h : Base) (cs : List Value) (r : Recd) (hx : RecC h cs r) : TrV Tryz.prog 107 [.agg cs.toArray] h [] (.bool (decide (bareP r))) [] := by
 obtain ⟨hw, ad, ai, al, ay, cd, ci, cl, cy, rfl, hb, _, _, _⟩ := hx.cells
 have hu := PUsed h r ad ai al ay r.op.data.length cd r.images.length ci r.lives.length cl r.dirty.length cy
 have hbi := bare_iff r
 unfold usedV sl at hu
 generalize (if r.kind = 2 ∨ r.kind = 3 then r.op.data.length else 0) = nd at hbi hu
 generalize (if r.kind = 4 then r.images.length else 0) = ni at hbi hu
 generalize (if r.kind = 8 then r.lives.length else 0) = nl at hbi hu
 generalize (if r.kind = 8 then r.dirty.length else 0) = ny at hbi hu
 generalize (if r.kind = 2 ∨ r.kind = 3 then ad else none) = ad2 at hu
 generalize (if r.kind = 4 then ai else none) = ai2 at hu
 generalize (if r.kind = 8 then al else none) = al2 at hu
 generalize (if r.kind = 8 then ay else none) = ay2 at hu
 generalize (if r.kind = 2 ∨ r.kind = 3 then cd else 0) = cd2 at hu
 generalize (if r.kind = 4 then ci else 0) = ci2 at hu
 generalize (if r.kind = 8 then cl else 0) = cl2 at hu
 generalize (if r.kind = 8 then cy else 0) = cy2 at hu
 generalize usedQ r = x at hbi hu
 have hbd : decide (bareP r) = decide (r.txn = x.txn ∧ r.prev = x.prev ∧ r.undo = x.undo ∧ r.page = x.page ∧ r.root = x.root ∧ r.next = x.next ∧ r.op.kind = x.op.kind ∧ r.op.slot = x.op.slot ∧ r.op.txn = x.op.txn ∧ r.op.data.length = nd ∧ r.images.length = ni ∧ r.lives.length = nl ∧ r.dirty.length = ny) := decide_eq_decide.2 hbi
 rw [hbd]
 clear hbi hbd
 refine K.enter Tryz.func107 rfl (Nat.le_of_ble_eq_true rfl) (fun F => ?_)
 simp only [List.nil_append]
 (repeat' first | refine X.rq ?_ | refine X.rc ?_ ?_ <;> intro hc <;> try omega)
 refine K.l_box rfl rfl rfl (fun B1 => ?_)
 (repeat' first | refine X.rq ?_ | refine X.rc ?_ ?_ <;> intro hc <;> try omega)
 refine K.l_callV (Fx.cal rfl) rfl hu (K.pp [] rfl) rfl rfl ?_
 simp only [List.nil_append]
 refine K.l_alloc (Fx.zr rfl) rfl rfl (fun B3 => ?_)
 refine X.stw ?_
 simp only [Go.K.nmz]
 (repeat' first | refine X.rq ?_ | refine X.rc ?_ ?_ <;> intro hc <;> try omega)
 all_goals
  refine K.AT.sel [0, 0] rfl ?_
  refine K.done (by first | exact Or.inl rfl | exact Or.inr rfl) rfl (by first | exact K.Base.le.refl _ | assumption) (H' := []) rfl ⟨?_, rfl, rfl⟩
  refine congrArg Value.bool (Bool.eq_iff_iff.2 ?_)
  simp only [decide_eq_true_eq, Bool.false_eq_true, false_iff]
  omega
end Go.Proofs.YtmcdaegaopfihaaGreat.Rc
end

section
namespace Go.Proofs.YtmcdaegaopfihaaGreat.Wl
open Go Go.K Go.Proofs Go.Proofs.YtmcdaegaopfihaaGreat Go.Proofs.YtmcdaegaopfihaaGreat.Pg Go.Proofs.YtmcdaegaopfihaaGreat.Rc
set_option linter.unusedVariables false
set_option linter.unusedSimpArgs false
set_option maxRecDepth 10000

def RowsA {α : Type} (R : List Value → α → Prop) (es : List (List Value)) (l : List α) : Prop := es.length = l.length ∧ ∀ (j : Nat) c x, es[j]? = some c → l[j]? = some x → R c x
structure ReachR (r : Recd) : Prop where
 images : r.images.length ≤ 140737488351232
 lives : r.lives.length ≤ 140737488351232
 dirty : r.dirty.length ≤ 140737488351232
 data : r.op.data.length ≤ 140737488351232
 cells : ∀ m ∈ r.images, Pg.smallX m.to.cells
structure PAct where
 what : Int
 r : Recd
 n : Int
def ActC (h : Base) (c : List Value) (x : PAct) : Prop := in64 x.what ∧ in64 x.n ∧ ReachR x.r ∧ ∃ cs, c = .int .i64 x.what :: (cs ++ [.int .i64 x.n]) ∧ RecC h cs x.r
def ActsV (h : Base) (v : Value) (l : List PAct) : Prop := ∃ es, SL h 17 v es ∧ RowsA (ActC h) es l
structure PRnd where
 acts : List PAct
 trip : Int
 keep : List Bool
 opens : List Int
def RndC (h : Base) (c : List Value) (x : PRnd) : Prop := in64 x.trip ∧ (∀ n ∈ x.opens, in64 n) ∧ x.acts.length ≤ 9223372036854775807 ∧ x.keep.length ≤ 9223372036854775807 ∧ x.opens.length ≤ 9223372036854775807 ∧
 ∃ va vk vo, c = [va, .int .i64 x.trip, vk, vo] ∧ ActsV h va x.acts ∧ SL h 1 vk (x.keep.map fun b => [.bool b]) ∧ SL h 1 vo (x.opens.map fun n => [.int .i64 n])
def RndsV (h : Base) (v : Value) (l : List PRnd) : Prop := ∃ es, SL h 4 v es ∧ RowsA (RndC h) es l
theorem ActC.le {h h' : Base} (hle : h.le h') {c : List Value} {x : PAct} (hc : ActC h c x) : ActC h' c x := by
 obtain ⟨a, b, r, cs, e, d⟩ := hc
 exact ⟨a, b, r, cs, e, d.le hle⟩
theorem ActsV.le {h h' : Base} (hle : h.le h') {v : Value} {l : List PAct} (hc : ActsV h v l) : ActsV h' v l := by
 obtain ⟨es, a, b, c⟩ := hc
 exact ⟨es, a.le hle, b, fun j x y hx hy => (c j x y hx hy).le hle⟩
theorem RndC.le {h h' : Base} (hle : h.le h') {c : List Value} {x : PRnd} (hc : RndC h c x) : RndC h' c x := by
 obtain ⟨a, b, l1, l2, l3, va, vk, vo, e, h1, h2, h3⟩ := hc
 exact ⟨a, b, l1, l2, l3, va, vk, vo, e, h1.le hle, h2.le hle, h3.le hle⟩
end Go.Proofs.YtmcdaegaopfihaaGreat.Wl
end

section
namespace Go.Proofs.YtmcdaegaopfihaaGreat.Rd
open Go Go.K Go.Proofs Go.Proofs.YtmcdaegaopfihaaGreat Go.Proofs.YtmcdaegaopfihaaGreat.Pg Go.Proofs.YtmcdaegaopfihaaGreat.Rc Go.Proofs.YtmcdaegaopfihaaGreat.Wl
open Go.ChangeShapes Go.WideShapes Go.ChangeAt Go.RowKit
set_option linter.unusedVariables false
set_option linter.unusedSimpArgs false
set_option maxRecDepth 10000

section
variable {H : Type} {enc : TypeId × Value → H} {P : Program} {W : World} {base : Nat} {spare : Nat → Bool} {held : Bool}
theorem upto_len {t e : TypeId} {sz fuel la ca : Nat} {a : Option Addr} {x : DataW H × List MemPlace} (ht : P.underlying t = some (.slice e)) (hsz : P.cellsOf e = sz) (hpos : 0 < sz) (h : DataW.trod enc P W base spare held fuel t [.slice a la ca] = some x) (hR : Upto P t x.1) (hb : 1 ≤ P.bytesOf e) : la ≤ 140737488351232 := by
 obtain ⟨es, n, _, hsl, _, _, hn⟩ := slu_of (sz := sz) (v := .slice a la ca) ht hsz hpos h ⟨_, _, _, rfl⟩ hR
 obtain ⟨_, _, e⟩ := hsl.len
 injection e with _ e2 _
 have h2 := Nat.le_trans (Nat.le_mul_of_pos_right es.length hb) hn
 unfold reachBytes at h2
 omega
theorem record_all (cs : List Value) (n : Nat) (y : DataW H × List MemPlace) (h : DataW.trod enc Tryz.prog W base spare held n 45 cs = some y) (hR : Upto Tryz.prog 45 y.1) : ∃ r : Recd, RecC (Base.of W) cs r ∧ ReachR r := by
 obtain ⟨r, hr, hm⟩ := record_upto _ _ _ h hR
 refine ⟨r, hr, ?_⟩
 obtain ⟨xs, k, rfl, rfl, hl, hlen, hf⟩ := DataW.trod_struct Tryz.underlying45 h
 have hl4 : cs.length = 15 := hl.trans (by kernel_rfl)
 obtain ⟨hw, ao, ca, iv, lv, yv, rfl, hb, ⟨es, h1, h2, h3⟩, h4, h5⟩ := hr
 obtain ⟨ai, ci, rfl⟩ := h1.len
 obtain ⟨al, cl, rfl⟩ := h4.len
 obtain ⟨ay, cy, rfl⟩ := h5.len
 match xs, hlen with
 | [x0, x1, x2, x3, x4, x5, x6, x7, x8, x9, x10, x11], _ =>
  have c0 : Tryz.prog.cellsOf 3 = 1 := by kernel_rfl
  have c1 : Tryz.prog.cellsOf 27 = 1 := by kernel_rfl
  have c2 : Tryz.prog.cellsOf 28 = 1 := by kernel_rfl
  have c7 : Tryz.prog.cellsOf 40 = 4 := by kernel_rfl
  have c8 : Tryz.prog.cellsOf 41 = 1 := by kernel_rfl
  have c9 : Tryz.prog.cellsOf 42 = 1 := by kernel_rfl
  have c10 : Tryz.prog.cellsOf 43 = 1 := by kernel_rfl
  have f7 := hf 7 _ rfl
  have f8 := hf 8 _ rfl
  have f9 := hf 9 _ rfl
  have f10 := hf 10 _ rfl
  simp [c0, c1, c2, c7, c8, c9, c10, cR] at f7 f8 f9 f10
  obtain ⟨o, ⟨_, ao2, ca2, e7, _⟩, ho⟩ := op_upto _ _ _ f7 (upto_field (i := 7) (d := x7.1) Tryz.underlying45 hR rfl rfl)
  simp only [cO, List.cons.injEq, and_true] at e7
  obtain ⟨_, _, _, e7⟩ := e7
  injection e7 with _ e7 _
  refine ⟨?_, ?_, ?_, by omega, hm⟩
  ·rw [← h2]
   exact upto_len (sz := 5) Tryz.underlying41 (by kernel_rfl) (by decide) f8 (upto_field (i := 8) (d := x8.1) Tryz.underlying45 hR rfl rfl) (of_decide_eq_true (by kernel_rfl))
  ·have := upto_len (sz := 4) Tryz.underlying42 (by kernel_rfl) (by decide) f9 (upto_field (i := 9) (d := x9.1) Tryz.underlying45 hR rfl rfl) (of_decide_eq_true (by kernel_rfl))
   exact this
  ·have := upto_len (sz := 2) Tryz.underlying43 (by kernel_rfl) (by decide) f10 (upto_field (i := 10) (d := x10.1) Tryz.underlying45 hR rfl rfl) (of_decide_eq_true (by kernel_rfl))
   exact this
theorem act_of (cs : List Value) (n : Nat) (y : DataW H × List MemPlace) (h : DataW.trod enc Tryz.prog W base spare held n 47 cs = some y) (hR : Upto Tryz.prog 47 y.1) : ∃ x : PAct, ActC (Base.of W) cs x := by
 obtain ⟨xs, k, rfl, rfl, hl, hlen, hf⟩ := DataW.trod_struct Tryz.underlying47 h
 have hl4 : cs.length = 17 := hl.trans (by kernel_rfl)
 have c0 : Tryz.prog.cellsOf 3 = 1 := by kernel_rfl
 have c1 : Tryz.prog.cellsOf 45 = 15 := by kernel_rfl
 match cs, hl4, xs, hlen with
 | [v0, v1, v2, v3, v4, v5, v6, v7, v8, v9, v10, v11, v12, v13, v14, v15, v16], _, [x0, x1, x2], _ =>
  have f0 := hf 0 _ rfl
  have f1 := hf 1 _ rfl
  have f2 := hf 2 _ rfl
  simp [c0, c1] at f0 f1 f2
  obtain ⟨n0, e0, _, w0⟩ := DataW.trod_int Tryz.underlying3 f0
  obtain ⟨n2, e2, _, w2⟩ := DataW.trod_int Tryz.underlying3 f2
  obtain ⟨r, hr, hm⟩ := record_all _ _ _ f1 (upto_field (i := 1) (d := x1.1) Tryz.underlying47 hR rfl rfl)
  simp at e0 e2
  subst e0 e2
  exact ⟨⟨n0, r, n2⟩, bounds_i64 w0, bounds_i64 w2, hm, _, rfl, hr⟩
theorem acts_of {fuel : Nat} {a : Option Addr} {la ca : Nat} {x : DataW H × List MemPlace} (h : DataW.trod enc Tryz.prog W base spare held fuel 22 [.slice a la ca] = some x) (hR : Upto Tryz.prog 22 x.1) : ∃ l : List PAct, ActsV (Base.of W) (.slice a la ca) l ∧ l.length ≤ 9223372036854775807 := by
 obtain ⟨es, m, hm, hsl, hel, hlen, _⟩ := slu_of (sz := 17) (v := .slice a la ca) Tryz.underlying22 (by kernel_rfl) (by decide) h ⟨_, _, _, rfl⟩ hR
 obtain ⟨l, hl1, hl2⟩ := list_of (p := fun i (x : PAct) => ∀ c, es[i]? = some c → ActC (Base.of W) c x) es.length fun i hi => by
  obtain ⟨y, hy, hy2⟩ := hel _ (List.getElem_mem hi)
  obtain ⟨x, hx⟩ := act_of _ _ _ hy hy2
  exact ⟨x, fun c hc => by rw [List.getElem?_eq_getElem hi] at hc; cases hc; exact hx⟩
 refine ⟨l, ⟨es, hsl, hl1.symm, fun j c x hj hx => ?_⟩, by unfold maxLen at hlen; omega⟩
 obtain ⟨hlt, e⟩ := List.getElem?_eq_some_iff.1 hx
 rw [← e]; exact hl2 j hlt c hj
theorem round_of (cs : List Value) (n : Nat) (y : DataW H × List MemPlace) (h : DataW.trod enc Tryz.prog W base spare held n 68 cs = some y) (hR : Upto Tryz.prog 68 y.1) : ∃ x : PRnd, RndC (Base.of W) cs x := by
 obtain ⟨xs, k, rfl, rfl, hl, hlen, hf⟩ := DataW.trod_struct Tryz.underlying68 h
 have hl4 : cs.length = 4 := hl.trans (by kernel_rfl)
 have c0 : Tryz.prog.cellsOf 3 = 1 := by kernel_rfl
 have c1 : Tryz.prog.cellsOf 22 = 1 := by kernel_rfl
 have c2 : Tryz.prog.cellsOf 65 = 1 := by kernel_rfl
 have c3 : Tryz.prog.cellsOf 66 = 1 := by kernel_rfl
 match cs, hl4, xs, hlen with
 | [v0, v1, v2, v3], _, [x0, x1, x2, x3], _ =>
  have f0 := hf 0 _ rfl
  have f1 := hf 1 _ rfl
  have f2 := hf 2 _ rfl
  have f3 := hf 3 _ rfl
  simp [c0, c1, c2, c3] at f0 f1 f2 f3
  obtain ⟨n1, e1, _, w1⟩ := DataW.trod_int Tryz.underlying3 f1
  obtain ⟨a0, l0, q0, rfl⟩ := slice_form Tryz.underlying22 f0
  obtain ⟨a2, l2, q2, rfl⟩ := slice_form Tryz.underlying65 f2
  obtain ⟨a3, l3, q3, rfl⟩ := slice_form Tryz.underlying66 f3
  obtain ⟨la, ha, hal⟩ := acts_of f0 (upto_field (i := 0) (d := x0.1) Tryz.underlying68 hR rfl rfl)
  obtain ⟨lb, hb1, _, hb3⟩ := sl_of (f := fun b : Bool => [Value.bool b]) (wf := fun _ => True) (sz := 1) (v := .slice a2 l2 q2) Tryz.underlying65 (by kernel_rfl) (by decide) (fun cs n y hy => by
   obtain ⟨b, e, _⟩ := DataW.trod_bool Tryz.underlying4 hy
   exact ⟨b, e, trivial⟩) (fun x => rfl) f2 ⟨_, _, _, rfl⟩
  obtain ⟨lo, ho1, ho2, ho3⟩ := sl_of (f := fun b : Int => [Value.int .i64 b]) (wf := in64) (sz := 1) (v := .slice a3 l3 q3) Tryz.underlying66 (by kernel_rfl) (by decide) (fun cs n y hy => by
   obtain ⟨b, e, _, w⟩ := DataW.trod_int Tryz.underlying3 hy
   exact ⟨b, e, bounds_i64 w⟩) (fun x => rfl) f3 ⟨_, _, _, rfl⟩
  simp at e1
  subst e1
  unfold maxLen at hb3 ho3
  exact ⟨⟨la, n1, lb, lo⟩, bounds_i64 w1, ho2, hal, by show lb.length ≤ _; omega, by show lo.length ≤ _; omega, _, _, _, rfl, ha, hb1, ho1⟩
theorem rounds_val {fuel : Nat} {x : DataW H × List MemPlace} {v : Value} {w : World} {r : Reach} {b0 : Nat} (hval : Value.okWide Tryz.prog w r b0 59 v)
  (h : DataW.trod enc Tryz.prog W base spare held fuel 59 v.cells.toList = some x) (hR : Upto Tryz.prog 59 x.1) : ∃ l : List PRnd, RndsV (Base.of W) v l ∧ l.length ≤ 9223372036854775807 := by
 obtain ⟨a3, l3, q3, rfl⟩ := okWide_slice Tryz.underlying59 hval
 obtain ⟨es, m, hm, hsl, hel, hlen, _⟩ := slu_of (sz := 4) (v := .slice a3 l3 q3) Tryz.underlying59 (by kernel_rfl) (by decide) h ⟨_, _, _, rfl⟩ hR
 obtain ⟨l, hl1, hl2⟩ := list_of (p := fun i (x : PRnd) => ∀ c, es[i]? = some c → RndC (Base.of W) c x) es.length fun i hi => by
  obtain ⟨y, hy, hy2⟩ := hel _ (List.getElem_mem hi)
  obtain ⟨x, hx⟩ := round_of _ _ _ hy hy2
  exact ⟨x, fun c hc => by rw [List.getElem?_eq_getElem hi] at hc; cases hc; exact hx⟩
 refine ⟨l, ⟨es, hsl, hl1.symm, fun j c x hj hx => ?_⟩, by unfold maxLen at hlen; omega⟩
 obtain ⟨hlt, e⟩ := List.getElem?_eq_some_iff.1 hx
 rw [← e]; exact hl2 j hlt c hj
end
end Go.Proofs.YtmcdaegaopfihaaGreat.Rd
end

section
namespace Go.Proofs.YtmcdaegaopfihaaGreat.Pg
open Go Go.K Go.Proofs Go.Proofs.YtmcdaegaopfihaaGreat
set_option linter.unusedVariables false
set_option linter.unusedSimpArgs false
set_option maxRecDepth 10000

def freeQ (l : List PCell) : Bool := l.any (fun x => !x.used)
def freeAt (l : List PCell) (j : Nat) : Bool := match l[j]? with
 | some x => !x.used
 | none => false
def roomN (l : List PCell) : Int := if freeQ l = true then 508 - sizeQ l else if l.length = 60 then 0 else 506 - sizeQ l
def roomQ (p : Pag) : Int := if mayQ p = true ∧ p.kind ≠ 3 then max 0 (min (roomN p.cells) 180) else 0
end Go.Proofs.YtmcdaegaopfihaaGreat.Pg
end

section
namespace Go.Proofs.YtmcdaegaopfihaaGreat.Pg
open Go Go.K Go.Proofs Go.Proofs.YtmcdaegaopfihaaGreat
set_option linter.unusedVariables false
set_option linter.unusedSimpArgs false
set_option maxRecDepth 10000

structure OC where
 used : Bool
 killer : Nat
 a : Option Nat
 cap : Nat
 data : List UInt8
def OC.cell (c : OC) : PCell := ⟨c.used, c.killer, c.data⟩
def rowO (c : OC) : List Value := [.bool c.used, .int .u32 c.killer, bufV c.a c.data.length c.cap]
def datA (c : OC) : Asrt := bufA 5 1 c.a c.data.length c.cap (c.data.map u8)
def pgA (b : Option Nat) (cap : Nat) (l : List OC) : List Asrt := [bufA 90 3 b l.length cap (l.map rowO).flatten, all (l.map datA)]
def okO (l : List OC) : Prop := ∀ c ∈ l, c.killer < 4294967296
def OwnP (h0 : Base) (p : Pag) (v : Value) (h' : Base) (H' : List Asrt) : Prop := h' = h0 ∧ ∃ b cap l, p.cells = l.map OC.cell ∧ okO l ∧ v = .agg (cP p (bufV b p.cells.length cap)).toArray ∧ H' = pgA b cap l
section
variable {P : Program} {n : NN} {Q : Exit → Act → World → Prop} {E : Env} {h : Base} {H F : List Asrt} {ops : Array Oper}
end
/-! ### Rows that are made -/
def zrow : List Value := [.bool false, .int .u32 0, .slice none 0 0]
def fillR (l : List OC) (m : Nat) : List (List Value) := l.map rowO ++ List.replicate (m - l.length) zrow
end Go.Proofs.YtmcdaegaopfihaaGreat.Pg
end
