/-
  Texts joined: Fg R2. Conditions: each theorem's own.
-/
import Derived.Test.YtmcdaegaopfihaaGreatY7
import Derived.Test.YtmcdaegaopfihaaGreatY6
section
namespace Go.Proofs.YtmcdaegaopfihaaGreat.Pg
open Go Go.K Go.Proofs Go.Proofs.YtmcdaegaopfihaaGreat
set_option linter.unusedVariables false
set_option linter.unusedSimpArgs false
set_option maxRecDepth 10000

def longQ (l : List PCell) : Bool := (l.take 301).any (fun x => decide (2000 < x.data.length)) || decide (300 < l.length)
def RowC (h : Base) (es : List (List Value)) (l : List PCell) : Prop := es.length = l.length ∧ (∀ e ∈ es, e.length = 3) ∧ ∀ (j : Nat) c x, es[j]? = some c → l[j]? = some x → CellC h c x
theorem RowC.le {h h' : Base} (hle : h.le h') {es : List (List Value)} {l : List PCell} (hr : RowC h es l) : RowC h' es l := ⟨hr.1, hr.2.1, fun j c x a b => (hr.2.2 j c x a b).le hle⟩
theorem CellC.three {h : Base} {c : List Value} {x : PCell} (hc : CellC h c x) : c.length = 3 := by
 obtain ⟨_, _, _, _, e, _⟩ := hc
 rw [e]; rfl
theorem RowC.snoc {h : Base} {es : List (List Value)} {l : List PCell} {c : List Value} {x : PCell} (hr : RowC h es l) (hc : CellC h c x) : RowC h (es ++ [c]) (l ++ [x]) := by
 obtain ⟨h1, h2, h3⟩ := hr
 refine ⟨by simp [h1], fun e he => ?_, fun j c' x' hj hx => ?_⟩
 ·rcases List.mem_append.1 he with he | he
  ·exact h2 e he
  ·rw [List.mem_singleton.1 he]; exact hc.three
 ·by_cases hjl : j < l.length
  ·rw [List.getElem?_append_left (by omega)] at hj hx
   exact h3 j c' x' hj hx
  ·have hj2 : j = l.length := by
    have := (List.getElem?_eq_some_iff.1 hx).1
    simp at this; omega
   subst hj2
   rw [List.getElem?_append_right (by omega), h1, Nat.sub_self] at hj
   rw [List.getElem?_append_right (by omega), Nat.sub_self] at hx
   cases hj; cases hx; exact hc
def NewP (h0 : Base) (p : Pag) (v : Value) (h' : Base) (H' : List Asrt) : Prop := ∃ a cap es, v = .agg (cP p (bufV a p.cells.length cap)).toArray ∧ RowC h' es p.cells ∧ H' = [bufA 90 3 a p.cells.length cap es.flatten]
def smallX (l : List PCell) : Prop := l.length ≤ 4398046511104 ∧ ∀ x ∈ l, x.data.length ≤ 140737488351232
set_option maxHeartbeats 1000000 in
theorem CopyPageX (h : Base) (cs : List Value) (p : Pag) (hx : PagC h cs p) (hs : smallX p.cells) : Tr Tryz.prog 81 [.agg cs.toArray] h [] (NewP h p) := by
 obtain ⟨hw, cv, rfl, es, hv, hel, hr⟩ := hx
 have hlen := hw.len
 obtain ⟨ao, ca, rfl⟩ := hv.len
 rw [hel] at hv ⊢
 generalize hpl : p.cells = l at hv hel hr hlen hs ⊢
 have hl400 := hs.1
 refine K.enter Tryz.func81 rfl (Nat.le_of_ble_eq_true rfl) (fun F => ?_)
 (repeat' first | refine X.rq ?_ | refine X.rc ?_ ?_ <;> intro hc <;> try omega)
 refine K.l_box rfl rfl rfl (fun B1 => ?_)
 refine K.l_alloc (Fx.zr rfl) rfl rfl (fun B2 => ?_)
 (repeat' first | refine X.rq ?_ | refine X.rc ?_ ?_ <;> intro hc <;> try omega)
 refine K.WC.nilBuf 90 3 ?_
 refine K.c_loop (σ := Nat × Option Nat × Nat × List (List Value) × Base) (fun q => [(1, .pointer (some ⟨B1, 0, none⟩)), (2, .pointer (some ⟨B2, 0, none⟩)), (3, bufV q.2.1 q.1 q.2.2.1), (4, .int .i64 q.1)]) (fun q => q.2.2.2.2)
  (fun q => bufA 90 3 q.2.1 q.1 q.2.2.1 q.2.2.2.1.flatten :: blk B2 86 (cP ⟨0, 0, 0, []⟩ (.slice none 0 0)) :: blk B1 86 (cP p (.slice ao l.length ca)) :: F)
  (fun q => q.1 ≤ l.length ∧ h.le q.2.2.2.2 ∧ RowC q.2.2.2.2 q.2.2.2.1 (l.take q.1)) (fun q => l.length - q.1) (0, none, 0, [], h) ⟨Nat.zero_le _, K.Base.le.refl _, rfl, (fun e he => by cases he), fun j c x hj => by simp at hj⟩ (by repeat (first | exact K.Sub.nil _ | refine K.Sub.cons rfl ?_)) rfl rfl ?_
 rintro ⟨j, a, cap, fs, h1⟩ ⟨hj, hle, hrow⟩ KL hKL
 dsimp only at hj hle hrow ⊢
 have hv1 := hv.le hle
 have hfl : fs.length = j := by rw [hrow.1, List.length_take]; omega
 by_cases hjl : j < l.length
 ·have hc1 : es[j]? = some (es[j]'(by omega)) := List.getElem?_eq_getElem (by omega)
  have hc0 : es[((j : Nat) : Int).toNat]? = some (es[j]'(by omega)) := by rw [Int.toNat_natCast]; exact hc1
  have he1 : l[j]? = some l[j] := List.getElem?_eq_getElem hjl
  generalize es[j]'(by omega) = c at hc0 hc1
  have hmem : l[j] ∈ l := List.getElem_mem hjl
  generalize l[j] = x at he1 hmem
  have hd4 := hs.2 x hmem
  obtain ⟨hkl, hdl, ao3, ca3, rfl, hbv⟩ := (hr j c x hc1 he1).le hle
  (repeat' first | refine X.rq ?_ | refine X.rc ?_ ?_ <;> intro hc <;> try omega)
  refine K.s_pureE (K.p_indexL hv1 (Fx.und rfl) (Fx.sz rfl) rfl rfl (by omega) hc0) rfl ?_
  rintro v2 ⟨b, o, rfl, hcel⟩
  refine K.s_pure (K.p_loadM (Fx.agg rfl) rfl (Cels.up hcel) (Fx.sz rfl) rfl) rfl ?_
  refine K.l_alloc (Fx.zr rfl) rfl rfl (fun B5 => ?_)
  refine X.stw ?_
  simp only [Go.K.nmz]
  (repeat' first | refine X.rq ?_ | refine X.rc ?_ ?_ <;> intro hc <;> try omega)
  refine K.l_call (Fx.cal rfl) rfl (Copy h1 _ x.data hbv (by omega)) (K.pp [] rfl) rfl ?_
  rintro u h' H' - ⟨e, a2, cap2, rfl, rfl⟩
  obtain rfl := e.symm
  simp only [Go.K.nmz]
  refine K.WL.freezeBuf (fun h2 le2 hbv2 => ?_)
  obtain ⟨ao4, ca4, e4⟩ : ∃ ao4 ca4, bufV a2 x.data.length cap2 = .slice ao4 x.data.length ca4 := ⟨_, _, rfl⟩
  rw [e4] at hbv2 ⊢
  (repeat' first | refine X.rq ?_ | refine X.rc ?_ ?_ <;> intro hc <;> try omega)
  refine X.sto ?_
  simp only [Go.K.nmz]
  (repeat' first | refine X.rq ?_ | refine X.rc ?_ ?_ <;> intro hc <;> try omega)
  refine K.l_buildSlice (Fx.und rfl) (Fx.sz rfl) rfl (Fx.zr rfl) rfl rfl rfl (cs := [.bool x.used, .int .u32 x.killer, .slice ao4 x.data.length ca4]) rfl rfl (fun B6 => ?_)
  refine K.l_append_at 2 rfl (Fx.und rfl) (Fx.und rfl) rfl (Fx.sz rfl) (Fx.zr rfl) rfl (Fx.byt rfl) rfl rfl (K.src_cells (K.cels_own (pre := []) (cs := [.bool x.used, .int .u32 x.killer, .slice ao4 x.data.length ca4]) (post := []) 0 rfl rfl) rfl (by simp [oneCell])) (by omega) (by omega) rfl (fun a6 cap6 => ?_)
  simp only [Go.K.nmz]
  (repeat' first | refine X.rq ?_ | refine X.rc ?_ ?_ <;> intro hc <;> try omega)
  refine K.AT.sel [0, 0] rfl ?_
  refine K.a_round hKL (j + 1, a6, cap6, fs ++ [[.bool x.used, .int .u32 x.killer, .slice ao4 x.data.length ca4]], h2) ⟨by dsimp only; omega, hle.trans le2, ?_⟩ (by repeat (first | exact K.Sub.nil _ | refine K.Sub.cons rfl ?_)) rfl ?_ (by dsimp only; omega)
  ·dsimp only
   rw [List.take_add_one, he1]
   exact (hrow.le le2).snoc ⟨hkl, hdl, ao4, ca4, rfl, hbv2⟩
  ·simp
 ·obtain rfl : j = l.length := by omega
  rw [List.take_length] at hrow
  (repeat' first | refine X.rq ?_ | refine X.rc ?_ ?_ <;> intro hc <;> try omega)
  refine X.sto ?_
  (repeat' first | refine X.rq ?_ | refine X.rc ?_ ?_ <;> intro hc <;> try omega)
  refine X.stw ?_
  simp only [Go.K.nmz]
  (repeat' first | refine X.rq ?_ | refine X.rc ?_ ?_ <;> intro hc <;> try omega)
  refine K.AT.perm (K.pp [1, 1, 0] rfl) ?_
  simp only [Go.K.nmz]
  refine K.doneC (vs := [.agg (cP p (bufV a l.length cap)).toArray]) (by first | exact Or.inl rfl | exact Or.inr rfl) (.cell rfl (Fx.agg rfl) (Fx.sz rfl) (by first | exact K.cels_own (pre := []) (post := []) 0 rfl rfl | exact K.cels_own (pre := []) (post := []) 1 rfl rfl) .nil) hle (D := [_, _]) (H' := [bufA 90 3 a l.length cap fs.flatten]) rfl ⟨a, cap, fs, ?_, ?_, ?_⟩
  ·rw [hpl]; rfl
  ·rw [hpl]; exact hrow
  ·rw [hpl]
end Go.Proofs.YtmcdaegaopfihaaGreat.Pg
end

section
namespace Go.Proofs.YtmcdaegaopfihaaGreat.Rd
open Go Go.K Go.Proofs Go.Proofs.YtmcdaegaopfihaaGreat Go.Proofs.YtmcdaegaopfihaaGreat.Pg Go.Proofs.YtmcdaegaopfihaaGreat.Rc
open Go.ChangeShapes Go.WideShapes Go.ChangeAt Go.RowKit
set_option linter.unusedVariables false
set_option linter.unusedSimpArgs false
set_option maxRecDepth 10000

section
variable {H : Type} {enc : TypeId × Value → H} {P : Program} {W : World} {base : Nat} {spare : Nat → Bool} {held : Bool}
theorem cell_upto (cs : List Value) (n : Nat) (y : DataW H × List MemPlace) (h : DataW.trod enc Tryz.prog W base spare held n 90 cs = some y) (hR : Upto Tryz.prog 90 y.1) : ∃ x : PCell, CellC (Base.of W) cs x ∧ x.data.length ≤ 140737488351232 := by
 have h0 := h
 obtain ⟨xs, k, rfl, rfl, hl, hlen, hf⟩ := DataW.trod_struct Tryz.underlying90 h
 have c2 : Tryz.prog.cellsOf 31 = 1 := by kernel_rfl
 have hl4 : cs.length = 3 := hl.trans (by kernel_rfl)
 obtain ⟨o, ho⟩ := cell_of _ _ _ h0
 refine ⟨o, ho, ?_⟩
 obtain ⟨_, _, ao, ca, rfl, hb⟩ := ho
 match xs, hlen with
 | [x0, x1, x2], _ =>
  have f2 := hf 2 _ rfl
  simp [c2] at f2
  have hu := upto_field (i := 2) (d := x2.1) Tryz.underlying90 hR rfl rfl
  obtain ⟨l, ao2, ca2, e, _, hm⟩ := bytes_upto f2 hu
  injection e with _ e2 _
  omega
theorem page_upto (cs : List Value) (n : Nat) (y : DataW H × List MemPlace) (h : DataW.trod enc Tryz.prog W base spare held n 86 cs = some y) (hR : Upto Tryz.prog 86 y.1) : ∃ p : Pag, PagC (Base.of W) cs p ∧ smallX p.cells := by
 obtain ⟨xs, k, rfl, rfl, hl, hlen, hf⟩ := DataW.trod_struct Tryz.underlying86 h
 have hl4 : cs.length = 4 := hl.trans (by kernel_rfl)
 have c0 : Tryz.prog.cellsOf 3 = 1 := by kernel_rfl
 have c1 : Tryz.prog.cellsOf 27 = 1 := by kernel_rfl
 have c2 : Tryz.prog.cellsOf 28 = 1 := by kernel_rfl
 have c3 : Tryz.prog.cellsOf 84 = 1 := by kernel_rfl
 match cs, hl4, xs, hlen with
 | [v0, v1, v2, v3], _, [x0, x1, x2, x3], _ =>
  have f0 := hf 0 _ rfl
  have f1 := hf 1 _ rfl
  have f2 := hf 2 _ rfl
  have f3 := hf 3 _ rfl
  simp [c0, c1, c2, c3] at f0 f1 f2 f3
  have hu := upto_field (i := 3) (d := x3.1) Tryz.underlying86 hR rfl rfl
  obtain ⟨n0, e0, _, w0⟩ := DataW.trod_int Tryz.underlying3 f0
  obtain ⟨n1, e1, _, w1⟩ := DataW.trod_int Tryz.underlying27 f1
  obtain ⟨n2, e2, _, w2⟩ := DataW.trod_int Tryz.underlying28 f2
  obtain ⟨a3, l3, q3, rfl⟩ := slice_form Tryz.underlying84 f3
  obtain ⟨es, m, hm, hsl, hel, hlen, hby⟩ := slu_of (sz := 3) (v := .slice a3 l3 q3) Tryz.underlying84 (by kernel_rfl) (by decide) f3 ⟨_, _, _, rfl⟩ hu
  obtain ⟨l, hl1, hl2⟩ := list_of (p := fun i (x : PCell) => ∀ c, es[i]? = some c → CellC (Base.of W) c x ∧ x.data.length ≤ 140737488351232) es.length fun i hi => by
   obtain ⟨y, hy, hy2⟩ := hel _ (List.getElem_mem hi)
   obtain ⟨x, hx⟩ := cell_upto _ _ _ hy hy2
   exact ⟨x, fun c hc => by rw [List.getElem?_eq_getElem hi] at hc; cases hc; exact hx⟩
  simp at e0 e1 e2
  subst e0 e1 e2
  have b0 := bounds_i64 w0
  have b1 := bounds_u64 w1
  have b2 := bounds_u32 w2
  rw [show Tryz.prog.bytesOf 90 = 32 from by kernel_rfl] at hby
  unfold reachBytes at hby
  unfold maxLen at hlen
  refine ⟨⟨n0, n1.toNat, n2.toNat, l⟩, ⟨⟨b0, by show n1.toNat < _; omega, by show n2.toNat < _; omega, by show l.length ≤ _; omega⟩, .slice a3 l3 q3, ?_, es, hsl, hl1.symm, fun j c x hj hx => ?_⟩, by show l.length ≤ _; omega, fun x hx => ?_⟩
  ·simp only [cP]
   rw [Int.toNat_of_nonneg b1.1, Int.toNat_of_nonneg b2.1]
  ·obtain ⟨hlt, e⟩ := List.getElem?_eq_some_iff.1 hx
   rw [← e]; exact (hl2 j hlt c hj).1
  ·obtain ⟨j, hj, rfl⟩ := List.mem_iff_getElem.1 hx
   have hj : j < l.length := hj
   exact (hl2 j (by omega) _ (List.getElem?_eq_getElem (by omega))).2
theorem image_upto (cs : List Value) (n : Nat) (y : DataW H × List MemPlace) (h : DataW.trod enc Tryz.prog W base spare held n 88 cs = some y) (hR : Upto Tryz.prog 88 y.1) : ∃ x : PImg, ImgC (Base.of W) cs x ∧ smallX x.to.cells := by
 obtain ⟨xs, k, rfl, rfl, hl, hlen, hf⟩ := DataW.trod_struct Tryz.underlying88 h
 have hl4 : cs.length = 5 := hl.trans (by kernel_rfl)
 have c0 : Tryz.prog.cellsOf 28 = 1 := by kernel_rfl
 have c1 : Tryz.prog.cellsOf 86 = 4 := by kernel_rfl
 match cs, hl4, xs, hlen with
 | [v0, v1, v2, v3, v4], _, [x0, x1], _ =>
  have f0 := hf 0 _ rfl
  have f1 := hf 1 _ rfl
  simp [c0, c1] at f0 f1
  obtain ⟨n0, e0, _, w0⟩ := DataW.trod_int Tryz.underlying28 f0
  have hu := upto_field (i := 1) (d := x1.1) Tryz.underlying88 hR rfl rfl
  obtain ⟨p, hp, hps⟩ := page_upto _ _ _ f1 hu
  simp at e0
  subst e0
  have b0 := bounds_u32 w0
  exact ⟨⟨n0.toNat, p⟩, ⟨by show n0.toNat < 4294967296; omega, _, by rw [Int.toNat_of_nonneg b0.1], hp⟩, hps⟩
theorem record_upto (cs : List Value) (n : Nat) (y : DataW H × List MemPlace) (h : DataW.trod enc Tryz.prog W base spare held n 45 cs = some y) (hR : Upto Tryz.prog 45 y.1) : ∃ r : Recd, RecC (Base.of W) cs r ∧ ∀ m ∈ r.images, smallX m.to.cells := by
 have h0 := h
 obtain ⟨xs, k, rfl, rfl, hl, hlen, hf⟩ := DataW.trod_struct Tryz.underlying45 h
 have hl4 : cs.length = 15 := hl.trans (by kernel_rfl)
 obtain ⟨r, hr⟩ := record_of _ _ _ h0
 obtain ⟨hw, ao, ca, iv, lv, yv, rfl, hb, ⟨es, h1, h2, h3⟩, h4, h5⟩ := hr
 match xs, hlen with
 | [x0, x1, x2, x3, x4, x5, x6, x7, x8, x9, x10, x11], _ =>
  have c8 : Tryz.prog.cellsOf 41 = 1 := by kernel_rfl
  have f8 := hf 8 _ rfl
  simp [c8, cR] at f8
  have hu := upto_field (i := 8) (d := x8.1) Tryz.underlying45 hR rfl rfl
  have f8 : DataW.trod enc Tryz.prog W base spare held k 41 [iv] = some x8 := f8
  obtain ⟨a8, l8, q8, rfl⟩ := slice_form Tryz.underlying41 f8
  obtain ⟨es2, m, hm, hsl, hel, hlen8, _⟩ := slu_of (sz := 5) (v := .slice a8 l8 q8) Tryz.underlying41 (by kernel_rfl) (by decide) f8 ⟨_, _, _, rfl⟩ hu
  obtain ⟨il, hi1, hi2⟩ := list_of (p := fun i (x : PImg) => ∀ c, es2[i]? = some c → ImgC (Base.of W) c x ∧ smallX x.to.cells) es2.length fun i hi => by
   obtain ⟨y, hy, hy2⟩ := hel _ (List.getElem_mem hi)
   obtain ⟨x, hx⟩ := image_upto _ _ _ hy hy2
   exact ⟨x, fun c hc => by rw [List.getElem?_eq_getElem hi] at hc; cases hc; exact hx⟩
  unfold maxLen at hlen8
  refine ⟨{ r with images := il }, ⟨⟨hw.kind, hw.lsn, hw.txn, hw.prev, hw.undo, hw.page, hw.root, hw.op, hw.next, by show il.length ≤ _; omega, hw.lives, hw.dirty, hw.live, hw.dirt⟩, ao, ca, .slice a8 l8 q8, lv, yv, rfl, hb, ⟨es2, hsl, hi1.symm, fun j c x hj hx => ?_⟩, h4, h5⟩, fun x hx => ?_⟩
  ·obtain ⟨hlt, e⟩ := List.getElem?_eq_some_iff.1 hx
   rw [← e]; exact (hi2 j hlt c hj).1
  ·obtain ⟨j, hj, rfl⟩ := List.mem_iff_getElem.1 hx
   have hj : j < il.length := hj
   exact (hi2 j (by omega) _ (List.getElem?_eq_getElem (by omega))).2
end
end Go.Proofs.YtmcdaegaopfihaaGreat.Rd
end
