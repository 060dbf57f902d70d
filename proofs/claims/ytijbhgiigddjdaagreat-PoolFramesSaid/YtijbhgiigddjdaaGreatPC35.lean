/-
 A record's fields read, by the code. Conditions: each theorem's own.
-/
import Derived.Test.YtijbhgiigddjdaaGreatPC34
set_option linter.unusedVariables false
set_option linter.unusedSimpArgs false
set_option maxRecDepth 10000
set_option maxHeartbeats 16000000
namespace Go.Proofs.YtijbhgiigddjdaaGreat.Rc
open Go.K Pg Cc Rb

def wfX (y : Recd) : Prop := wfR y ∧ ∀ x ∈ y.images, x.page < 4294967296 ∧ x.to.next < 4294967296 ∧ ∀ z ∈ x.to.cells, z.killer < 4294967296
def validR (y : Recd) : Prop := mayR y = true ∧ y.lsn = 0 ∧ wfX y
theorem pagC_wf {h : Base} {cs : List Value} {x : Pag} (hx : PagC h cs x) : x.next < 4294967296 ∧ ∀ z ∈ x.cells, z.killer < 4294967296 := by
 obtain ⟨hw, cv, _, es, _, hel, hr⟩ := hx
 refine ⟨hw.next, fun z hz => ?_⟩
 obtain ⟨i, hi, rfl⟩ := List.mem_iff_getElem.1 hz
 exact (hr i (es[i]'(by omega)) x.cells[i] (List.getElem?_eq_getElem (by omega)) (List.getElem?_eq_getElem hi)).1
theorem RecC.wfX {h : Base} {cs : List Value} {y : Recd} (hx : RecC h cs y) : wfX y := by
 obtain ⟨hw, ad, ai, al, ay, cd, ci, cl, cy, rfl, hb, ⟨es, hi1, hi2, hi3⟩, _⟩ := hx.cells
 refine ⟨hw, fun x hx => ?_⟩
 obtain ⟨i, hi, rfl⟩ := List.mem_iff_getElem.1 hx
 obtain ⟨hp, cs, _, hpc⟩ := hi3 i (es[i]'(by omega)) y.images[i] (List.getElem?_eq_getElem (by omega)) (List.getElem?_eq_getElem hi)
 exact ⟨hp, pagC_wf hpc⟩
theorem eq_1 {y : Recd} (hb : bareP y) (hk : y.kind = 1) : y = ⟨1, y.lsn, y.txn, 0, 0, 0, 0, zO, [], [], [], 0⟩ := by
 obtain ⟨b1, b2, b3, b4, b5, b6⟩ := hb
 obtain ⟨_, _, _, _, _, _, _, ⟨_, _, _, _⟩, _, _, _, _⟩ := y
 dsimp only at *
 simp_all [hasT, zO]
theorem eq_5 {y : Recd} (hb : bareP y) (hk : y.kind = 5 ∨ y.kind = 6 ∨ y.kind = 7) : y = ⟨y.kind, y.lsn, y.txn, y.prev, 0, 0, 0, zO, [], [], [], 0⟩ := by
 obtain ⟨b1, b2, b3, b4, b5, b6⟩ := hb
 obtain ⟨_, _, _, _, _, _, _, ⟨_, _, _, _⟩, _, _, _, _⟩ := y
 dsimp only at *
 rcases hk with rfl | rfl | rfl <;> simp_all [hasT, zO]
theorem eq_2 {y : Recd} (hb : bareP y) (hk : y.kind = 2) : y = ⟨2, y.lsn, y.txn, y.prev, 0, y.page, y.root, y.op, [], [], [], 0⟩ := by
 obtain ⟨b1, b2, b3, b4, b5, b6⟩ := hb
 obtain ⟨_, _, _, _, _, _, _, ⟨_, _, _, _⟩, _, _, _, _⟩ := y
 dsimp only at *
 simp_all [hasT, zO]
theorem eq_3 {y : Recd} (hb : bareP y) (hk : y.kind = 3) : y = ⟨3, y.lsn, y.txn, y.prev, y.undo, y.page, y.root, y.op, [], [], [], 0⟩ := by
 obtain ⟨b1, b2, b3, b4, b5, b6⟩ := hb
 obtain ⟨_, _, _, _, _, _, _, ⟨_, _, _, _⟩, _, _, _, _⟩ := y
 dsimp only at *
 simp_all [hasT, zO]
theorem eq_4 {y : Recd} (hb : bareP y) (hk : y.kind = 4) : y = ⟨4, y.lsn, 0, 0, 0, 0, 0, zO, y.images, [], [], 0⟩ := by
 obtain ⟨b1, b2, b3, b4, b5, b6⟩ := hb
 obtain ⟨_, _, _, _, _, _, _, ⟨_, _, _, _⟩, _, _, _, _⟩ := y
 dsimp only at *
 simp_all [hasT, zO]
theorem eq_8 {y : Recd} (hb : bareP y) (hk : y.kind = 8) : y = ⟨8, y.lsn, 0, 0, 0, 0, 0, zO, [], y.lives, y.dirty, y.next⟩ := by
 obtain ⟨b1, b2, b3, b4, b5, b6⟩ := hb
 obtain ⟨_, _, _, _, _, _, _, ⟨_, _, _, _⟩, _, _, _, _⟩ := y
 dsimp only at *
 simp_all [hasT, zO]
def ImgG (h0 h : Base) (c : List Value) (x : PImg) : Prop := x.page < 4294967296 ∧ ∃ cs, c = .int .u32 x.page :: cs ∧ PagF h0 h cs x.to
theorem ImgG.c {h0 h : Base} {c : List Value} {x : PImg} (hc : ImgG h0 h c x) : ImgC h c x := by
 obtain ⟨h1, cs, h2, h3⟩ := hc
 exact ⟨h1, cs, h2, h3.c⟩
theorem ImgG.le {h0 h0' h h' : Base} (l1 : h0'.le h0) (l2 : h.le h') {c : List Value} {x : PImg} (hc : ImgG h0 h c x) : ImgG h0' h' c x := by
 obtain ⟨h1, cs, h2, h3⟩ := hc
 exact ⟨h1, cs, h2, h3.le l1 l2⟩
def ImgsF (h0 h : Base) (iv : Value) (l : List PImg) : Prop := ∃ es, SL h 5 iv es ∧ es.length = l.length ∧ Fsh h0 h 5 iv ∧ ∀ (j : Nat) c x, es[j]? = some c → l[j]? = some x → ImgG h0 h c x
def RecF (h0 h : Base) (cs : List Value) (r : Recd) : Prop := wfR r ∧ ∃ ao ca iv lv yv, cs = cR r (.slice ao r.op.data.length ca) iv lv yv ∧ (BV h (.slice ao r.op.data.length ca) r.op.data ∧ Fsh h0 h 1 (.slice ao r.op.data.length ca)) ∧ ImgsF h0 h iv r.images ∧ (SL h 4 lv (r.lives.map cL) ∧ Fsh h0 h 4 lv) ∧ (SL h 2 yv (r.dirty.map cD) ∧ Fsh h0 h 2 yv)
theorem RecF.c {h0 h : Base} {cs : List Value} {r : Recd} (hx : RecF h0 h cs r) : RecC h cs r := by
 obtain ⟨h1, ao, ca, iv, lv, yv, h2, h3, ⟨es, i1, i2, _, i4⟩, h5, h6⟩ := hx
 exact ⟨h1, ao, ca, iv, lv, yv, h2, h3.1, ⟨es, i1, i2, fun j c x a b => (i4 j c x a b).c⟩, h5.1, h6.1⟩
theorem RecF.le {h0 h0' h h' : Base} {cs : List Value} {r : Recd} (hx : RecF h0 h cs r) (l1 : h0'.le h0) (l2 : h.le h') : RecF h0' h' cs r := by
 obtain ⟨h1, ao, ca, iv, lv, yv, h2, h3, ⟨es, i1, i2, i3, i4⟩, h5, h6⟩ := hx
 exact ⟨h1, ao, ca, iv, lv, yv, h2, ⟨h3.1.le l2, h3.2.le l1 l2⟩, ⟨es, i1.le l2, i2, i3.le l1 l2, fun j c x a b => (i4 j c x a b).le l1 l2⟩, ⟨h5.1.le l2, h5.2.le l1 l2⟩, ⟨h6.1.le l2, h6.2.le l1 l2⟩⟩
structure RdS where
 b : Base
 q : Bool × Value × Bool
 ok : Bool
 rem : List UInt8
 c : Bool
 r : Recd
 ad : Option Addr
 cd : Nat
 ai : Option Addr
 ci : Nat
 al : Option Addr
 cl : Nat
 ay : Option Addr
 cy : Nat
def RdS.cs (s : RdS) : List Value := cR s.r (.slice s.ad s.r.op.data.length s.cd) (.slice s.ai s.r.images.length s.ci) (.slice s.al s.r.lives.length s.cl) (.slice s.ay s.r.dirty.length s.cy)
theorem ImgsV.nil {h : Base} : ImgsV h (.slice none 0 0) [] := ⟨[], .inl ⟨_, _, rfl, rfl⟩, rfl, fun j c x h1 => by simp at h1⟩
theorem SL.nil {h : Base} {sz : Nat} : SL h sz (.slice none 0 0) [] := .inl ⟨_, _, rfl, rfl⟩
def RowsG {α : Type} (R : List Value → α → Prop) (es : List (List Value)) (l : List α) : Prop := es.length = l.length ∧ ∀ (j : Nat) c x, es[j]? = some c → l[j]? = some x → R c x
theorem RowsG.mono {α : Type} {R R' : List Value → α → Prop} (hR : ∀ c x, R c x → R' c x) {es : List (List Value)} {l : List α} (hr : RowsG R es l) : RowsG R' es l := ⟨hr.1, fun j c x a b => hR _ _ (hr.2 j c x a b)⟩
theorem RowsG.push {α : Type} {R : List Value → α → Prop} {es : List (List Value)} {l : List α} (hr : RowsG R es l) {c : List Value} {x : α} (hc : R c x) : RowsG R (es ++ [c]) (l ++ [x]) := by
 refine ⟨by rw [List.length_append, List.length_append, hr.1]; rfl, fun j c' x' h1 h2 => ?_⟩
 by_cases hj : j < es.length
 ·rw [List.getElem?_append_left hj] at h1
  rw [List.getElem?_append_left (by rw [← hr.1]; exact hj)] at h2
  exact hr.2 j c' x' h1 h2
 ·rw [List.getElem?_append_right (by omega)] at h1
  rw [List.getElem?_append_right (by rw [← hr.1]; omega)] at h2
  have h0 : j - es.length = 0 := by
   have := (List.getElem?_eq_some_iff.1 h1).1
   simp only [List.length_singleton] at this
   omega
  rw [h0] at h1
  rw [← hr.1, h0] at h2
  cases h1; cases h2
  exact hc
theorem RowsG.sz {α : Type} {R : List Value → α → Prop} {n : Nat} (hn : ∀ c x, R c x → c.length = n) {es : List (List Value)} {l : List α} (hr : RowsG R es l) : ∀ e ∈ es, e.length = n := fun e he => by
 obtain ⟨i, hi, rfl⟩ := List.mem_iff_getElem.1 he
 exact hn _ _ (hr.2 i es[i] (l[i]'(by rw [← hr.1]; exact hi)) (List.getElem?_eq_getElem hi) (List.getElem?_eq_getElem (by rw [← hr.1]; exact hi)))
theorem RowsG.map {α : Type} {R : List Value → α → Prop} {f : α → List Value} (hf : ∀ c x, R c x → c = f x) {es : List (List Value)} {l : List α} (hr : RowsG R es l) : es = l.map f := by
 refine List.ext_getElem (by rw [List.length_map]; exact hr.1) fun i h1 h2 => ?_
 rw [List.getElem_map]
 exact hf _ _ (hr.2 i es[i] (l[i]'(by rw [← hr.1]; exact h1)) (List.getElem?_eq_getElem h1) (List.getElem?_eq_getElem (by rw [← hr.1]; exact h1)))
theorem RowsG.all {α : Type} {R : List Value → α → Prop} {S : α → Prop} (hS : ∀ c x, R c x → S x) {es : List (List Value)} {l : List α} (hr : RowsG R es l) : ∀ x ∈ l, S x := fun x hx => by
 obtain ⟨i, hi, rfl⟩ := List.mem_iff_getElem.1 hx
 exact hS _ _ (hr.2 i (es[i]'(by rw [hr.1]; exact hi)) l[i] (List.getElem?_eq_getElem (by rw [hr.1]; exact hi)) (List.getElem?_eq_getElem hi))
theorem RowsG.nil {α : Type} {R : List Value → α → Prop} : RowsG R [] [] := ⟨rfl, fun j c x h => by simp at h⟩
structure LoS (α : Type) where
 b : Base
 q : Bool × Value × Bool
 ok : Bool
 rem : List UInt8
 c : Bool
 es : List (List Value)
 l : List α
 a : Option Nat
 cap : Nat
 n : Nat
theorem recC_of {h : Base} {r : Recd} {ad ai al ay : Option Addr} {cd ci cl cy : Nat} (hw : wfR r) (hb : BV h (.slice ad r.op.data.length cd) r.op.data) (hi : ImgsV h (.slice ai r.images.length ci) r.images) (hl : SL h 4 (.slice al r.lives.length cl) (r.lives.map cL)) (hd : SL h 2 (.slice ay r.dirty.length cy) (r.dirty.map cD)) :
  RecC h (cR r (.slice ad r.op.data.length cd) (.slice ai r.images.length ci) (.slice al r.lives.length cl) (.slice ay r.dirty.length cy)) r := ⟨hw, ad, cd, _, _, _, rfl, hb, hi, hl, hd⟩
theorem ImgsF.nil {h0 h : Base} : ImgsF h0 h (.slice none 0 0) [] := ⟨[], .inl ⟨_, _, rfl, rfl⟩, rfl, Fsh.nil, fun j c x h1 => by simp at h1⟩
theorem BF.nil {h0 h : Base} : BV h (.slice none 0 0) [] ∧ Fsh h0 h 1 (.slice none 0 0) := ⟨BV.nil, Fsh.nil⟩
theorem SF.nil {h0 h : Base} {sz : Nat} : SL h sz (.slice none 0 0) [] ∧ Fsh h0 h sz (.slice none 0 0) := ⟨SL.nil, Fsh.nil⟩
theorem ImgG.five {h0 h : Base} {c : List Value} {x : PImg} (hc : ImgG h0 h c x) : c.length = 5 := hc.c.five
theorem recF_of {h0 h : Base} {r : Recd} {ad ai al ay : Option Addr} {cd ci cl cy : Nat} (hw : wfR r) (hb : BV h (.slice ad r.op.data.length cd) r.op.data ∧ Fsh h0 h 1 (.slice ad r.op.data.length cd)) (hi : ImgsF h0 h (.slice ai r.images.length ci) r.images) (hl : SL h 4 (.slice al r.lives.length cl) (r.lives.map cL) ∧ Fsh h0 h 4 (.slice al r.lives.length cl)) (hd : SL h 2 (.slice ay r.dirty.length cy) (r.dirty.map cD) ∧ Fsh h0 h 2 (.slice ay r.dirty.length cy)) :
  RecF h0 h (cR r (.slice ad r.op.data.length cd) (.slice ai r.images.length ci) (.slice al r.lives.length cl) (.slice ay r.dirty.length cy)) r := ⟨hw, ad, cd, _, _, _, rfl, hb, hi, hl, hd⟩
theorem in64n {k : Nat} (h : k < 4294967296) : in64 (k : Int) := by unfold in64; omega
theorem wfR_mk {k tx pv un pg rt nx : Nat} {op : POp} {im : List PImg} {li : List PLive} {di : List PDirty} (h1 : k < 4294967296) (h2 : tx < 4294967296) (h3 : pv < 18446744073709551616) (h4 : un < 18446744073709551616) (h5 : pg < 4294967296) (h6 : rt < 4294967296) (h7 : wfO op) (h8 : nx < 4294967296)
  (h9 : im.length ≤ 20000) (h10 : li.length ≤ 20000) (h11 : di.length ≤ 20000) (h12 : ∀ x ∈ li, wfL x) (h13 : ∀ x ∈ di, wfD x) : wfR ⟨(k : Nat), 0, tx, pv, un, pg, rt, op, im, li, di, nx⟩ :=
 ⟨in64n h1, (by decide : (0 : Nat) < 18446744073709551616), h2, h3, h4, h5, h6, h7, h8, Nat.le_trans h9 (by decide), Nat.le_trans h10 (by decide), Nat.le_trans h11 (by decide), h12, h13⟩
theorem wf_zO : wfO zO := ⟨by decide, by decide, by decide, by decide⟩
theorem N_read (h : Base) (p : Nat) (q : Bool × Value × Bool) (rem : List UInt8) (hr : RdQ h q true rem) (hl20 : rem.length ≤ 16390) :
  Tr Tryz.prog 130 [rp p] h [rA (rq p q)] (fun u h' H' => ∃ cs r ok, u = .tuple #[.agg cs.toArray, .bool ok] ∧ H' = [] ∧ RecF h h' cs r ∧ smallR r ∧ r.lsn = 0 ∧ ∀ y, validR y → rem = bodyN y → r = y ∧ ok = true) := by
 have hl : rem.length ≤ big := by unfold big; omega
 refine K.en Tryz.func130 fun F => ?_
 simp only [Go.K.cna]
 (repeat' first | refine X.rq ?_ | refine X.rc ?_ ?_ <;> intro hc <;> try omega)
 refine K.l_alloc (Fx.zr rfl) rfl rfl (fun B2 => ?_)
 refine K.l_alloc (Fx.zr rfl) rfl rfl (fun B3 => ?_)
 (repeat' first | refine X.rq ?_ | refine X.rc ?_ ?_ <;> intro hc <;> try omega)
 refine X.sto ?_
 simp only [Go.K.nmz]
 (repeat' first | refine X.rq ?_ | refine X.rc ?_ ?_ <;> intro hc <;> try omega)
 refine K.l_call (Fx.cal rfl) rfl (N_U8 h p q true rem hr hl) (K.pp [2] rfl) rfl ?_
 rintro u h' H' - ⟨e, k, q1, ok1, rem1, rfl, hk, hr1, rfl, f1⟩
 obtain rfl := e.symm
 simp only [Go.K.nmz]
 have g1 : rem1.length ≤ big := Nat.le_trans f1.1 hl
 have fB : ∀ y, validR y → rem = bodyN y → okR y ∧ y.lsn = 0 ∧ wfX y ∧ y.kind = k ∧ ok1 = true ∧ rem1 = fieldsN y := fun y hy he => by
  obtain ⟨hm, hl0, hwx⟩ := hy
  obtain ⟨hok, _⟩ := may_okR hm
  have hk18 := hok.1
  obtain ⟨e1, e2, e3⟩ := f1.2 y.kind.toNat (fieldsN y) (show y.kind.toNat < 256 by omega) rfl (by rw [he]; rfl)
  exact ⟨hok, hl0, hwx, by omega, e2, e3⟩
 (repeat' first | refine X.rq ?_ | refine X.rc ?_ ?_ <;> intro hc <;> try omega)
 refine X.sto ?_
 simp only [Go.K.nmz]
 (repeat' first | refine X.rk ?_ | refine X.rd ?_ ?_ <;> intro hc <;> try omega)
 refine X.w ?_
 (repeat' first | refine X.rk ?_ | refine X.rd ?_ ?_ <;> intro hc <;> try omega)
 refine K.c_join (β := RdS) (fun s => [(0, rp p), (2, rp B2), (3, rp B3)]) (fun s => s.b) (fun s => rA (rq p s.q) :: blk B3 4 [.bool s.c] :: blk B2 92 s.cs :: F)
  (fun s => h.le s.b ∧ RdQ s.b s.q s.ok s.rem ∧ s.rem.length ≤ rem.length ∧ RecF h s.b s.cs s.r ∧ smallR s.r ∧ s.r.lsn = 0 ∧ ∀ y, validR y → rem = bodyN y → s.ok = true ∧ s.c = true ∧ s.r = y ∧ s.rem = []) (fun KJ hJ => ?_) ?_
 ·have hkk : k = 1 ∨ (k = 5 ∨ k = 6 ∨ k = 7) ∨ k = 2 ∨ k = 3 ∨ k = 4 ∨ k = 8 ∨ ¬ (1 ≤ k ∧ k ≤ 8) := by omega
  rcases hkk with hk0 | hk0 | hk0 | hk0 | hk0 | hk0 | hk0
  ·(repeat' first | refine X.rq ?_ | refine X.rc ?_ ?_ <;> intro hc <;> try omega)
   refine K.l_call (Fx.cal rfl) rfl (N_narrow h p q1 ok1 rem1 B3 true hr1 g1) (K.pp [0, 0] rfl) rfl ?_
   rintro u h' H' - ⟨e, tx, q2, ok2, rem2, c2, rfl, htx, hr2, rfl, f2⟩
   obtain rfl := e.symm
   simp only [Go.K.nmz]
   have g2 : rem2.length ≤ big := Nat.le_trans f2.1 g1
   (repeat' first | refine X.rq ?_ | refine X.rc ?_ ?_ <;> intro hc <;> try omega)
   refine X.sto ?_
   simp only [Go.K.nmz]
   have gl : rem2.length ≤ rem.length := by
    have := f1.1
    have := f2.1
    omega
   (repeat' first | refine X.rq ?_ | refine X.rc ?_ ?_ <;> intro hc <;> try omega)
   skip
   refine K.a_join hJ ⟨h, q2, ok2, rem2, c2, ⟨(k : Nat), 0, tx, 0, 0, 0, 0, zO, [], [], [], 0⟩, none, 0, none, 0, none, 0, none, 0⟩ ⟨K.Base.le.refl _, hr2, gl, ?_, ?_, rfl, fun y hv he => ?_⟩ (by repeat (first | exact K.Sub.nil _ | refine K.Sub.cons rfl ?_)) rfl rfl
   ·exact recF_of (wfR_mk (by omega) (by omega) (by omega) (by omega) (by omega) (by omega) wf_zO (by omega) (Nat.zero_le _) (Nat.zero_le _) (Nat.zero_le _) (fun x hx => by cases hx) (fun x hx => by cases hx)) BF.nil ImgsF.nil SF.nil SF.nil
   ·exact ⟨Nat.zero_le _, Nat.zero_le _, Nat.zero_le _, by first | exact Nat.zero_le _ | (show _ ≤ 66000; omega)⟩
   ·obtain ⟨hok, hl0, hwx, hky, e1, e2⟩ := fB y hv he
    have hf : fieldsN y = cu y.txn := by unfold fieldsN; rw [if_pos (by omega)]
    rw [hf] at e2
    obtain ⟨d1, d2, d3, d4⟩ := f2.2 y.txn [] hwx.1.txn e1 (by rw [e2, List.append_nil])
    refine ⟨d2, d4, ?_, d3⟩
    rw [eq_1 hok.2.1 (by omega), hl0, d1, hk0]
    rfl
  ·rcases hk0 with hk0 | hk0 | hk0
   all_goals
    (repeat' first | refine X.rq ?_ | refine X.rc ?_ ?_ <;> intro hc <;> try omega)
    refine K.l_call (Fx.cal rfl) rfl (N_narrow h p q1 ok1 rem1 B3 true hr1 g1) (K.pp [0, 0] rfl) rfl ?_
    rintro u h' H' - ⟨e, tx, q2, ok2, rem2, c2, rfl, htx, hr2, rfl, f2⟩
    obtain rfl := e.symm
    simp only [Go.K.nmz]
    have g2 : rem2.length ≤ big := Nat.le_trans f2.1 g1
    (repeat' first | refine X.rq ?_ | refine X.rc ?_ ?_ <;> intro hc <;> try omega)
    refine X.sto ?_
    simp only [Go.K.nmz]
    (repeat' first | refine X.rq ?_ | refine X.rc ?_ ?_ <;> intro hc <;> try omega)
    refine K.l_call (Fx.cal rfl) rfl (N_Uint h p q2 ok2 rem2 hr2 g2) (K.pp [0] rfl) rfl ?_
    rintro u h' H' - ⟨e, pv, q3, ok3, rem3, rfl, hpv, hr3, rfl, f3⟩
    obtain rfl := e.symm
    simp only [Go.K.nmz]
    have g3 : rem3.length ≤ big := Nat.le_trans f3.1 g2
    (repeat' first | refine X.rq ?_ | refine X.rc ?_ ?_ <;> intro hc <;> try omega)
    refine X.sto ?_
    simp only [Go.K.nmz]
    have gl : rem3.length ≤ rem.length := by
     have := f1.1
     have := f2.1
     have := f3.1
     omega
    (repeat' first | refine X.rq ?_ | refine X.rc ?_ ?_ <;> intro hc <;> try omega)
    skip
    refine K.a_join hJ ⟨h, q3, ok3, rem3, c2, ⟨(k : Nat), 0, tx, pv, 0, 0, 0, zO, [], [], [], 0⟩, none, 0, none, 0, none, 0, none, 0⟩ ⟨K.Base.le.refl _, hr3, gl, ?_, ?_, rfl, fun y hv he => ?_⟩ (by repeat (first | exact K.Sub.nil _ | refine K.Sub.cons rfl ?_)) rfl rfl
    ·exact recF_of (wfR_mk (by omega) (by omega) (by omega) (by omega) (by omega) (by omega) wf_zO (by omega) (Nat.zero_le _) (Nat.zero_le _) (Nat.zero_le _) (fun x hx => by cases hx) (fun x hx => by cases hx)) BF.nil ImgsF.nil SF.nil SF.nil
    ·exact ⟨Nat.zero_le _, Nat.zero_le _, Nat.zero_le _, by first | exact Nat.zero_le _ | (show _ ≤ 66000; omega)⟩
    ·obtain ⟨hok, hl0, hwx, hky, e1, e2⟩ := fB y hv he
     have hf : fieldsN y = cu y.txn ++ cu y.prev := by unfold fieldsN; rw [if_neg (by omega), if_pos (by omega)]
     rw [hf] at e2
     obtain ⟨d1, d2, d3, d4⟩ := f2.2 y.txn _ hwx.1.txn e1 e2
     obtain ⟨b1, b2, b3⟩ := f3.2 y.prev [] hwx.1.prev d2 (by rw [d3, List.append_nil])
     refine ⟨b2, d4, ?_, b3⟩
     rw [eq_5 hok.2.1 (by omega), hl0, d1, b1, hky]
  ·(repeat' first | refine X.rq ?_ | refine X.rc ?_ ?_ <;> intro hc <;> try omega)
   refine K.l_call (Fx.cal rfl) rfl (N_narrow h p q1 ok1 rem1 B3 true hr1 g1) (K.pp [0, 0] rfl) rfl ?_
   rintro u h' H' - ⟨e, tx, q2, ok2, rem2, c2, rfl, htx, hr2, rfl, f2⟩
   obtain rfl := e.symm
   simp only [Go.K.nmz]
   have g2 : rem2.length ≤ big := Nat.le_trans f2.1 g1
   (repeat' first | refine X.rq ?_ | refine X.rc ?_ ?_ <;> intro hc <;> try omega)
   refine X.sto ?_
   simp only [Go.K.nmz]
   (repeat' first | refine X.rq ?_ | refine X.rc ?_ ?_ <;> intro hc <;> try omega)
   refine K.l_call (Fx.cal rfl) rfl (N_Uint h p q2 ok2 rem2 hr2 g2) (K.pp [0] rfl) rfl ?_
   rintro u h' H' - ⟨e, pv, q3, ok3, rem3, rfl, hpv, hr3, rfl, f3⟩
   obtain rfl := e.symm
   simp only [Go.K.nmz]
   have g3 : rem3.length ≤ big := Nat.le_trans f3.1 g2
   (repeat' first | refine X.rq ?_ | refine X.rc ?_ ?_ <;> intro hc <;> try omega)
   refine X.sto ?_
   simp only [Go.K.nmz]
   (repeat' first | refine X.rq ?_ | refine X.rc ?_ ?_ <;> intro hc <;> try omega)
   refine K.l_call (Fx.cal rfl) rfl (N_narrow h p q3 ok3 rem3 B3 c2 hr3 g3) (K.pp [0, 0] rfl) rfl ?_
   rintro u h' H' - ⟨e, pg, q4, ok4, rem4, c4, rfl, hpg, hr4, rfl, f4⟩
   obtain rfl := e.symm
   simp only [Go.K.nmz]
   have g4 : rem4.length ≤ big := Nat.le_trans f4.1 g3
   (repeat' first | refine X.rq ?_ | refine X.rc ?_ ?_ <;> intro hc <;> try omega)
   refine K.l_call (Fx.cal rfl) rfl (N_narrow h p q4 ok4 rem4 B3 c4 hr4 g4) (K.pp [0, 0] rfl) rfl ?_
   rintro u h' H' - ⟨e, rt, q5, ok5, rem5, c5, rfl, hrt, hr5, rfl, f5⟩
   obtain rfl := e.symm
   simp only [Go.K.nmz]
   have g5 : rem5.length ≤ big := Nat.le_trans f5.1 g4
   (repeat' first | refine X.rq ?_ | refine X.rc ?_ ?_ <;> intro hc <;> try omega)
   refine X.sto ?_
   simp only [Go.K.nmz]
   (repeat' first | refine X.rq ?_ | refine X.rc ?_ ?_ <;> intro hc <;> try omega)
   refine X.sto ?_
   simp only [Go.K.nmz]
   (repeat' first | refine X.rq ?_ | refine X.rc ?_ ?_ <;> intro hc <;> try omega)
   refine K.l_call (Fx.cal rfl) rfl (N_U8 h p q5 ok5 rem5 hr5 g5) (K.pp [0] rfl) rfl ?_
   rintro u h' H' - ⟨e, kd, q6, ok6, rem6, rfl, hkd, hr6, rfl, f6⟩
   obtain rfl := e.symm
   simp only [Go.K.nmz]
   have g6 : rem6.length ≤ big := Nat.le_trans f6.1 g5
   (repeat' first | refine X.rq ?_ | refine X.rc ?_ ?_ <;> intro hc <;> try omega)
   refine K.l_call (Fx.cal rfl) rfl (N_narrow h p q6 ok6 rem6 B3 c5 hr6 g6) (K.pp [0, 0] rfl) rfl ?_
   rintro u h' H' - ⟨e, sl, q7, ok7, rem7, c7, rfl, hsl, hr7, rfl, f7⟩
   obtain rfl := e.symm
   simp only [Go.K.nmz]
   have g7 : rem7.length ≤ big := Nat.le_trans f7.1 g6
   (repeat' first | refine X.rq ?_ | refine X.rc ?_ ?_ <;> intro hc <;> try omega)
   refine X.sto ?_
   simp only [Go.K.nmz]
   (repeat' first | refine X.rq ?_ | refine X.rc ?_ ?_ <;> intro hc <;> try omega)
   refine X.sto ?_
   simp only [Go.K.nmz]
   (repeat' first | refine X.rq ?_ | refine X.rc ?_ ?_ <;> intro hc <;> try omega)
   refine K.l_call (Fx.cal rfl) rfl (N_narrow h p q7 ok7 rem7 B3 c7 hr7 g7) (K.pp [0, 0] rfl) rfl ?_
   rintro u h' H' - ⟨e, ot, q8, ok8, rem8, c8, rfl, hot, hr8, rfl, f8⟩
   obtain rfl := e.symm
   simp only [Go.K.nmz]
   have g8 : rem8.length ≤ big := Nat.le_trans f8.1 g7
   (repeat' first | refine X.rq ?_ | refine X.rc ?_ ?_ <;> intro hc <;> try omega)
   refine K.l_call (vals := [rp p, .int .i64 (180 : Nat)]) (Fx.cal rfl) rfl (N_Text h p q8 ok8 rem8 180 hr8 g8 (by decide)) (K.pp [0] rfl) rfl ?_
   rintro u h' H' - ⟨e, dt, q9, ok9, rem9, rfl, hdt, hr9, rfl, f9⟩
   obtain rfl := e.symm
   simp only [Go.K.nmz]
   have g9 : rem9.length ≤ big := Nat.le_trans f9.1 g8
   refine K.l_toBytes (Fx.und rfl) (Fx.und rfl) (Fx.und rfl) rfl (by unfold maxLen; show dt.length ≤ _; omega) rfl (fun Bt capt => ?_)
   refine K.WL.freezeBufF (l := dt) (a := some Bt) (fun hb2 hle2 hbv hfs => ?_)
   obtain ⟨ao9, ca9, e9⟩ := hbv.len
   rw [show bufV (some Bt) (ByteArray.size ⟨dt.toArray⟩) capt = .slice ao9 dt.length ca9 from e9]
   rw [e9] at hbv hfs
   (repeat' first | refine X.rq ?_ | refine X.rc ?_ ?_ <;> intro hc <;> try omega)
   refine X.sto ?_
   simp only [Go.K.nmz]
   (repeat' first | refine X.rq ?_ | refine X.rc ?_ ?_ <;> intro hc <;> try omega)
   refine X.sto ?_
   simp only [Go.K.nmz]
   skip
   (repeat' first | refine X.rq ?_ | refine X.rc ?_ ?_ <;> intro hc <;> try omega)
   have gl : rem9.length ≤ rem.length := by
    have := f1.1
    have := f2.1
    have := f3.1
    have := f4.1
    have := f5.1
    have := f6.1
    have := f7.1
    have := f8.1
    have := f9.1
    omega
   refine K.a_join hJ ⟨hb2, q9, ok9, rem9, c8, ⟨(k : Nat), 0, tx, pv, 0, pg, rt, ⟨(kd : Nat), (sl : Nat), ot, dt⟩, [], [], [], 0⟩, ao9, ca9, none, 0, none, 0, none, 0⟩ ⟨hle2, hr9.le hle2, gl, ?_, ?_, rfl, fun y hv he => ?_⟩ (by repeat (first | exact K.Sub.nil _ | refine K.Sub.cons rfl ?_)) rfl rfl
   ·exact recF_of (wfR_mk (by omega) (by omega) (by omega) (by omega) (by omega) (by omega) ⟨in64n (by omega), in64n (by omega), by omega, show dt.length ≤ _ by omega⟩ (by omega) (Nat.zero_le _) (Nat.zero_le _) (Nat.zero_le _) (fun x hx => by cases hx) (fun x hx => by cases hx)) ⟨hbv, hfs⟩ ImgsF.nil SF.nil SF.nil
   ·exact ⟨Nat.zero_le _, Nat.zero_le _, Nat.zero_le _, show dt.length ≤ 66000 by omega⟩
   ·obtain ⟨hok, hl0, hwx, hky, o1, e1⟩ := fB y hv he
    have hd := hok.2.2.2.1 (by omega)
    obtain ⟨hd1, hd2, hd3, hd4, hd5⟩ := hd
    have hkd : 1 ≤ y.op.kind ∧ y.op.kind ≤ 4 := hd3.2.1
    have hdl : y.op.data.length ≤ 180 := by
     have h1 := hd3.2.2.2.2.1
     have h2 := hd3.2.2.2.2.2
     omega
    have hf : fieldsN y = cu y.txn ++ cu y.prev ++ (if y.kind = 3 then cu y.undo else []) ++ cu y.page ++ cu y.root ++ opN y.op := by unfold fieldsN; rw [if_neg (by omega), if_neg (by omega), if_pos (by omega)]
    rw [hf, if_neg (by omega), opN] at e1
    simp only [List.append_assoc, List.nil_append] at e1
    obtain ⟨v2, o2, e2, c102⟩ := f2.2 y.txn _ hwx.1.txn o1 e1
    obtain ⟨v3, o3, e3⟩ := f3.2 y.prev _ hwx.1.prev o2 e2
    obtain ⟨v4, o4, e4, c104⟩ := f4.2 y.page _ hwx.1.page o3 e3
    obtain ⟨v5, o5, e5, c105⟩ := f5.2 y.root _ hwx.1.root o4 e4
    obtain ⟨v6, o6, e6⟩ := f6.2 y.op.kind.toNat _ (show y.op.kind.toNat < 256 by omega) o5 e5
    obtain ⟨v7, o7, e7, c107⟩ := f7.2 y.op.slot.toNat _ (show y.op.slot.toNat < 4294967296 by omega) o6 e6
    obtain ⟨v8, o8, e8, c108⟩ := f8.2 y.op.txn _ hwx.1.op.txn o7 e7
    obtain ⟨v9, o9, e9⟩ := f9.2 y.op.data [] (show y.op.data.length ≤ 180 from hdl) o8 (by rw [e8, List.append_nil])
    refine ⟨o9, ((((c108).trans c107).trans c105).trans c104).trans c102, ?_, e9⟩
    have hop : (⟨(kd : Nat), (sl : Nat), ot, dt⟩ : POp) = y.op := by
     have h1 : ((kd : Nat) : Int) = y.op.kind := by omega
     have h2 : ((sl : Nat) : Int) = y.op.slot := by omega
     rw [h1, h2, v8, v9]
    rw [eq_2 hok.2.1 (by omega), hl0, hk0]
    dsimp only
    rw [hop, v2, v3, v4, v5]
    rfl
  ·(repeat' first | refine X.rq ?_ | refine X.rc ?_ ?_ <;> intro hc <;> try omega)
   refine K.l_call (Fx.cal rfl) rfl (N_narrow h p q1 ok1 rem1 B3 true hr1 g1) (K.pp [0, 0] rfl) rfl ?_
   rintro u h' H' - ⟨e, tx, q2, ok2, rem2, c2, rfl, htx, hr2, rfl, f2⟩
   obtain rfl := e.symm
   simp only [Go.K.nmz]
   have g2 : rem2.length ≤ big := Nat.le_trans f2.1 g1
   (repeat' first | refine X.rq ?_ | refine X.rc ?_ ?_ <;> intro hc <;> try omega)
   refine X.sto ?_
   simp only [Go.K.nmz]
   (repeat' first | refine X.rq ?_ | refine X.rc ?_ ?_ <;> intro hc <;> try omega)
   refine K.l_call (Fx.cal rfl) rfl (N_Uint h p q2 ok2 rem2 hr2 g2) (K.pp [0] rfl) rfl ?_
   rintro u h' H' - ⟨e, pv, q3, ok3, rem3, rfl, hpv, hr3, rfl, f3⟩
   obtain rfl := e.symm
   simp only [Go.K.nmz]
   have g3 : rem3.length ≤ big := Nat.le_trans f3.1 g2
   (repeat' first | refine X.rq ?_ | refine X.rc ?_ ?_ <;> intro hc <;> try omega)
   refine X.sto ?_
   simp only [Go.K.nmz]
   (repeat' first | refine X.rq ?_ | refine X.rc ?_ ?_ <;> intro hc <;> try omega)
   refine K.l_call (Fx.cal rfl) rfl (N_Uint h p q3 ok3 rem3 hr3 g3) (K.pp [0] rfl) rfl ?_
   rintro u h' H' - ⟨e, un, q4, ok4, rem4, rfl, hun, hr4, rfl, f4⟩
   obtain rfl := e.symm
   simp only [Go.K.nmz]
   have g4 : rem4.length ≤ big := Nat.le_trans f4.1 g3
   (repeat' first | refine X.rq ?_ | refine X.rc ?_ ?_ <;> intro hc <;> try omega)
   refine X.sto ?_
   simp only [Go.K.nmz]
   (repeat' first | refine X.rq ?_ | refine X.rc ?_ ?_ <;> intro hc <;> try omega)
   refine K.l_call (Fx.cal rfl) rfl (N_narrow h p q4 ok4 rem4 B3 c2 hr4 g4) (K.pp [0, 0] rfl) rfl ?_
   rintro u h' H' - ⟨e, pg, q5, ok5, rem5, c5, rfl, hpg, hr5, rfl, f5⟩
   obtain rfl := e.symm
   simp only [Go.K.nmz]
   have g5 : rem5.length ≤ big := Nat.le_trans f5.1 g4
   (repeat' first | refine X.rq ?_ | refine X.rc ?_ ?_ <;> intro hc <;> try omega)
   refine K.l_call (Fx.cal rfl) rfl (N_narrow h p q5 ok5 rem5 B3 c5 hr5 g5) (K.pp [0, 0] rfl) rfl ?_
   rintro u h' H' - ⟨e, rt, q6, ok6, rem6, c6, rfl, hrt, hr6, rfl, f6⟩
   obtain rfl := e.symm
   simp only [Go.K.nmz]
   have g6 : rem6.length ≤ big := Nat.le_trans f6.1 g5
   (repeat' first | refine X.rq ?_ | refine X.rc ?_ ?_ <;> intro hc <;> try omega)
   refine X.sto ?_
   simp only [Go.K.nmz]
   (repeat' first | refine X.rq ?_ | refine X.rc ?_ ?_ <;> intro hc <;> try omega)
   refine X.sto ?_
   simp only [Go.K.nmz]
   (repeat' first | refine X.rq ?_ | refine X.rc ?_ ?_ <;> intro hc <;> try omega)
   refine K.l_call (Fx.cal rfl) rfl (N_U8 h p q6 ok6 rem6 hr6 g6) (K.pp [0] rfl) rfl ?_
   rintro u h' H' - ⟨e, kd, q7, ok7, rem7, rfl, hkd, hr7, rfl, f7⟩
   obtain rfl := e.symm
   simp only [Go.K.nmz]
   have g7 : rem7.length ≤ big := Nat.le_trans f7.1 g6
   (repeat' first | refine X.rq ?_ | refine X.rc ?_ ?_ <;> intro hc <;> try omega)
   refine K.l_call (Fx.cal rfl) rfl (N_narrow h p q7 ok7 rem7 B3 c6 hr7 g7) (K.pp [0, 0] rfl) rfl ?_
   rintro u h' H' - ⟨e, sl, q8, ok8, rem8, c8, rfl, hsl, hr8, rfl, f8⟩
   obtain rfl := e.symm
   simp only [Go.K.nmz]
   have g8 : rem8.length ≤ big := Nat.le_trans f8.1 g7
   (repeat' first | refine X.rq ?_ | refine X.rc ?_ ?_ <;> intro hc <;> try omega)
   refine X.sto ?_
   simp only [Go.K.nmz]
   (repeat' first | refine X.rq ?_ | refine X.rc ?_ ?_ <;> intro hc <;> try omega)
   refine X.sto ?_
   simp only [Go.K.nmz]
   (repeat' first | refine X.rq ?_ | refine X.rc ?_ ?_ <;> intro hc <;> try omega)
   refine K.l_call (Fx.cal rfl) rfl (N_narrow h p q8 ok8 rem8 B3 c8 hr8 g8) (K.pp [0, 0] rfl) rfl ?_
   rintro u h' H' - ⟨e, ot, q9, ok9, rem9, c9, rfl, hot, hr9, rfl, f9⟩
   obtain rfl := e.symm
   simp only [Go.K.nmz]
   have g9 : rem9.length ≤ big := Nat.le_trans f9.1 g8
   (repeat' first | refine X.rq ?_ | refine X.rc ?_ ?_ <;> intro hc <;> try omega)
   refine K.l_call (vals := [rp p, .int .i64 (180 : Nat)]) (Fx.cal rfl) rfl (N_Text h p q9 ok9 rem9 180 hr9 g9 (by decide)) (K.pp [0] rfl) rfl ?_
   rintro u h' H' - ⟨e, dt, q10, ok10, rem10, rfl, hdt, hr10, rfl, f10⟩
   obtain rfl := e.symm
   simp only [Go.K.nmz]
   have g10 : rem10.length ≤ big := Nat.le_trans f10.1 g9
   refine K.l_toBytes (Fx.und rfl) (Fx.und rfl) (Fx.und rfl) rfl (by unfold maxLen; show dt.length ≤ _; omega) rfl (fun Bt capt => ?_)
   refine K.WL.freezeBufF (l := dt) (a := some Bt) (fun hb2 hle2 hbv hfs => ?_)
   obtain ⟨ao9, ca9, e9⟩ := hbv.len
   rw [show bufV (some Bt) (ByteArray.size ⟨dt.toArray⟩) capt = .slice ao9 dt.length ca9 from e9]
   rw [e9] at hbv hfs
   (repeat' first | refine X.rq ?_ | refine X.rc ?_ ?_ <;> intro hc <;> try omega)
   refine X.sto ?_
   simp only [Go.K.nmz]
   (repeat' first | refine X.rq ?_ | refine X.rc ?_ ?_ <;> intro hc <;> try omega)
   refine X.sto ?_
   simp only [Go.K.nmz]
   skip
   (repeat' first | refine X.rq ?_ | refine X.rc ?_ ?_ <;> intro hc <;> try omega)
   have gl : rem10.length ≤ rem.length := by
    have := f1.1
    have := f2.1
    have := f3.1
    have := f4.1
    have := f5.1
    have := f6.1
    have := f7.1
    have := f8.1
    have := f9.1
    have := f10.1
    omega
   refine K.a_join hJ ⟨hb2, q10, ok10, rem10, c9, ⟨(k : Nat), 0, tx, pv, un, pg, rt, ⟨(kd : Nat), (sl : Nat), ot, dt⟩, [], [], [], 0⟩, ao9, ca9, none, 0, none, 0, none, 0⟩ ⟨hle2, hr10.le hle2, gl, ?_, ?_, rfl, fun y hv he => ?_⟩ (by repeat (first | exact K.Sub.nil _ | refine K.Sub.cons rfl ?_)) rfl rfl
   ·exact recF_of (wfR_mk (by omega) (by omega) (by omega) (by omega) (by omega) (by omega) ⟨in64n (by omega), in64n (by omega), by omega, show dt.length ≤ _ by omega⟩ (by omega) (Nat.zero_le _) (Nat.zero_le _) (Nat.zero_le _) (fun x hx => by cases hx) (fun x hx => by cases hx)) ⟨hbv, hfs⟩ ImgsF.nil SF.nil SF.nil
   ·exact ⟨Nat.zero_le _, Nat.zero_le _, Nat.zero_le _, show dt.length ≤ 66000 by omega⟩
   ·obtain ⟨hok, hl0, hwx, hky, o1, e1⟩ := fB y hv he
    have hd := hok.2.2.2.1 (by omega)
    obtain ⟨hd1, hd2, hd3, hd4, hd5⟩ := hd
    have hkd : 1 ≤ y.op.kind ∧ y.op.kind ≤ 4 := hd3.2.1
    have hdl : y.op.data.length ≤ 180 := by
     have h1 := hd3.2.2.2.2.1
     have h2 := hd3.2.2.2.2.2
     omega
    have hf : fieldsN y = cu y.txn ++ cu y.prev ++ (if y.kind = 3 then cu y.undo else []) ++ cu y.page ++ cu y.root ++ opN y.op := by unfold fieldsN; rw [if_neg (by omega), if_neg (by omega), if_pos (by omega)]
    rw [hf, if_pos (by omega), opN] at e1
    simp only [List.append_assoc, List.nil_append] at e1
    obtain ⟨v2, o2, e2, c102⟩ := f2.2 y.txn _ hwx.1.txn o1 e1
    obtain ⟨v3, o3, e3⟩ := f3.2 y.prev _ hwx.1.prev o2 e2
    obtain ⟨v4, o4, e4⟩ := f4.2 y.undo _ hwx.1.undo o3 e3
    obtain ⟨v5, o5, e5, c105⟩ := f5.2 y.page _ hwx.1.page o4 e4
    obtain ⟨v6, o6, e6, c106⟩ := f6.2 y.root _ hwx.1.root o5 e5
    obtain ⟨v7, o7, e7⟩ := f7.2 y.op.kind.toNat _ (show y.op.kind.toNat < 256 by omega) o6 e6
    obtain ⟨v8, o8, e8, c108⟩ := f8.2 y.op.slot.toNat _ (show y.op.slot.toNat < 4294967296 by omega) o7 e7
    obtain ⟨v9, o9, e9, c109⟩ := f9.2 y.op.txn _ hwx.1.op.txn o8 e8
    obtain ⟨v10, o10, e10⟩ := f10.2 y.op.data [] (show y.op.data.length ≤ 180 from hdl) o9 (by rw [e9, List.append_nil])
    refine ⟨o10, ((((c109).trans c108).trans c106).trans c105).trans c102, ?_, e10⟩
    have hop : (⟨(kd : Nat), (sl : Nat), ot, dt⟩ : POp) = y.op := by
     have h1 : ((kd : Nat) : Int) = y.op.kind := by omega
     have h2 : ((sl : Nat) : Int) = y.op.slot := by omega
     rw [h1, h2, v9, v10]
    rw [eq_3 hok.2.1 (by omega), hl0, hk0]
    dsimp only
    rw [hop, v2, v3, v5, v6, v4]
    rfl
  ·(repeat' first | refine X.rq ?_ | refine X.rc ?_ ?_ <;> intro hc <;> try omega)
   refine K.l_call (Fx.cal rfl) rfl (N_count h p q1 ok1 rem1 hr1 g1) (K.pp [0] rfl) rfl ?_
   rintro u h' H' - ⟨e, N2, q2, ok2, rem2, rfl, hr2, rfl, f2⟩
   obtain rfl := e.symm
   simp only [Go.K.nmz]
   have g2 : rem2.length ≤ big := Nat.le_trans f2.1.1 g1
   have hN2 : N2 ≤ 16390 := Nat.le_trans f2.1.2 (Nat.le_trans f2.1.1 (Nat.le_trans f1.1 hl20))
   have hl2 : rem2.length ≤ 16390 := Nat.le_trans f2.1.1 (Nat.le_trans f1.1 hl20)
   have fw2 : ∀ y, validR y → rem = bodyN y → ok2 = true ∧ true = true ∧ N2 = y.images.length ∧ rem2 = y.images.flatMap imgN := fun y hv he => by
    obtain ⟨hok, hl0, hwx, hky, e1, e2⟩ := fB y hv he
    have hf : fieldsN y = cu y.images.length ++ y.images.flatMap imgN := by unfold fieldsN; rw [if_neg (by omega), if_neg (by omega), if_neg (by omega), if_pos (by omega)]
    rw [hf] at e2
    have hlen := flat_pos imgN y.images fun x hx => by
     have h1 := cu_pos (x := x.page) (by have := (hwx.2 x hx).1; omega)
     unfold imgN
     rw [List.length_append]; omega
    have hbl := (may_okR hv.1).2
    have hbl2 : (y.images.flatMap imgN).length ≤ 16384 := by
     have : (bodyN y).length = 1 + (fieldsN y).length := by unfold bodyN; rw [List.length_append, lebs_length]
     rw [hf, List.length_append] at this
     omega
    obtain ⟨d1, d2, d3⟩ := f2.2 y.images.length _ (by omega) hlen e1 e2
    exact ⟨d2, rfl, d1, d3⟩
   (repeat' first | refine X.rk ?_ | refine X.rd ?_ ?_ <;> intro hc <;> try omega)
   refine K.WC.nilBuf 209 5 ?_
   refine K.c_join (β := LoS PImg) (fun q => [(0, rp p), (2, rp B2), (3, rp B3)]) (fun q => q.b) (fun q => bufA 209 5 q.a q.es.length q.cap q.es.flatten :: rA (rq p q.q) :: blk B3 4 [.bool q.c] :: blk B2 92 (cR ⟨(k : Nat), 0, 0, 0, 0, 0, 0, zO, [], [], [], 0⟩ (.slice none 0 0) (bufV q.a q.es.length q.cap) (.slice none 0 0) (.slice none 0 0)) :: F)
    (fun q => h.le q.b ∧ RdQ q.b q.q q.ok q.rem ∧ q.rem.length ≤ rem2.length ∧ RowsG (ImgG h q.b) q.es q.l ∧ q.l.length + q.n ≤ N2 ∧ ∀ y, validR y → rem = bodyN y → q.ok = true ∧ q.c = true ∧ q.l = y.images ∧ q.rem = []) (fun KI hI => ?_) ?_
   ·(repeat' first | refine X.rq ?_ | refine X.rc ?_ ?_ <;> intro hc <;> try omega)
    refine K.c_loop (σ := LoS PImg) (fun q => [(0, rp p), (2, rp B2), (3, rp B3), (4, .int .i64 q.n)]) (fun q => q.b) (fun q => bufA 209 5 q.a q.es.length q.cap q.es.flatten :: rA (rq p q.q) :: blk B3 4 [.bool q.c] :: blk B2 92 (cR ⟨(k : Nat), 0, 0, 0, 0, 0, 0, zO, [], [], [], 0⟩ (.slice none 0 0) (bufV q.a q.es.length q.cap) (.slice none 0 0) (.slice none 0 0)) :: F)
     (fun q => h.le q.b ∧ RdQ q.b q.q q.ok q.rem ∧ q.rem.length ≤ rem2.length ∧ RowsG (ImgG h q.b) q.es q.l ∧ q.l.length + q.n ≤ N2 ∧ ∀ y, validR y → rem = bodyN y → q.ok = true ∧ q.c = true ∧ q.l = (y.images).take q.l.length ∧ q.l.length + q.n = (y.images).length ∧ q.rem = ((y.images).drop q.l.length).flatMap imgN ++ []) (fun q => q.n)
     ⟨h, q2, ok2, rem2, true, [], [], none, 0, N2⟩ ⟨K.Base.le.refl _, hr2, Nat.le_refl _, RowsG.nil, by simp, fun y hv he => by
      obtain ⟨e4, e3, e5, e6⟩ := fw2 y hv he
      exact ⟨e4, e3, by simp, by simp [e5], by simpa using e6⟩⟩ (by repeat (first | exact K.Sub.nil _ | refine K.Sub.cons rfl ?_)) rfl rfl ?_
    rintro ⟨hb, qL, okL, remL, cL, es, l, a, cap, n⟩ ⟨hle, hrL, hlL, hrow, hn, fw⟩ KL hKL
    dsimp only at hle hrL hlL hrow hn fw ⊢
    have gL : remL.length ≤ big := Nat.le_trans hlL g2
    have hel := hrow.1
    by_cases hn0 : n = 0
    ·subst hn0
     (repeat' first | refine X.rq ?_ | refine X.rc ?_ ?_ <;> intro hc <;> try omega)
     refine K.a_join hI ⟨hb, qL, okL, remL, cL, es, l, a, cap, 0⟩ ⟨hle, hrL, hlL, hrow, hn, fun y hv he => ?_⟩ (by repeat (first | exact K.Sub.nil _ | refine K.Sub.cons rfl ?_)) rfl rfl
     obtain ⟨e1, e2, e3, e4, e5⟩ := fw y hv he
     dsimp only
     rw [Nat.add_zero] at e4
     rw [e4, List.take_length] at e3
     rw [e4, List.drop_length] at e5
     exact ⟨e1, e2, e3, by simpa using e5⟩
    ·obtain ⟨m, rfl⟩ : ∃ m, n = m + 1 := ⟨n - 1, by omega⟩
     (repeat' first | refine X.rq ?_ | refine X.rc ?_ ?_ <;> intro hc <;> try omega)
     refine K.l_callV (Fx.cal rfl) rfl (N_Err hb p qL okL remL hrL) (K.pp [1] rfl) rfl rfl ?_
     simp only [Go.K.nmz]
     cases okL with
     | false =>
      (repeat' first | refine X.rq ?_ | refine X.rc ?_ ?_ <;> intro hc <;> try omega)
      refine K.AT.perm (K.pp [1] rfl) ?_
      simp only [Go.K.nmz]
      refine K.a_join hI ⟨hb, qL, false, remL, cL, es, l, a, cap, m + 1⟩ ⟨hle, hrL, hlL, hrow, hn, fun y hv he => ?_⟩ (by repeat (first | exact K.Sub.nil _ | refine K.Sub.cons rfl ?_)) rfl rfl
      exact absurd (fw y hv he).1 (by decide)
     | true =>
      (repeat' first | refine X.rq ?_ | refine X.rc ?_ ?_ <;> intro hc <;> try omega)
      refine K.l_call (Fx.cal rfl) rfl (N_narrow hb p qL true remL B3 cL hrL gL) (K.pp [0, 1] rfl) rfl ?_
      rintro u h' H' - ⟨e, nb, q5, ok5, rem5, c5, rfl, hnb, hr5, rfl, f5⟩
      obtain rfl := e.symm
      simp only [Go.K.nmz]
      have g5 : rem5.length ≤ 20000 := Nat.le_trans f5.1 (Nat.le_trans hlL (Nat.le_trans hl2 (by decide)))
      (repeat' first | refine X.rq ?_ | refine X.rc ?_ ?_ <;> intro hc <;> try omega)
      refine X.draw ([blk B2 92 (cR ⟨(k : Nat), 0, 0, 0, 0, 0, 0, zO, [], [], [], 0⟩ (.slice none 0 0) (bufV a es.length cap) (.slice none 0 0) (.slice none 0 0))]) [9] (.pu 0 (.pu 2 (.pu 3 (.st 1 (.on 4 (.pu 5 (.on 6 (.on 7 (.pu 8 (.cl 9 .nil)))))))))) ?_
      refine X.u_fa ?_
      refine X.u_mv ?_
      refine X.u_mv ?_
      refine X.s_ld ?_
      refine K.d_on rfl (fun KK hKK => ?_)
      refine K.l_call (Fx.cal rfl) rfl (N_image hb p q5 ok5 rem5 B3 c5 hr5 g5) (K.pp [0, 0] rfl) rfl ?_
      rintro u hb2 H' hle2 ⟨cs, x, q6, ok6, rem6, c6, rfl, hpc, hxl, hr6, rfl, f6⟩
      have hpc0 := hpc.le hle (K.Base.le.refl _)
      obtain ⟨hwp, cv5, rfl, es5, hv5, hel5, hrr5⟩ := hpc.c
      obtain ⟨ao5, ca5, rfl⟩ := hv5.len
      simp only [Go.K.nmz]
      refine K.l_nil ?_
      refine X.onE hKK ?_
      refine X.u_bd ?_
      refine K.d_on rfl (fun KK hKK => ?_)
      refine K.l_buildSlice (Fx.und rfl) (Fx.sz rfl) rfl (Fx.zr rfl) rfl rfl rfl (cs := [.int .u32 (nb : Nat), .int .i64 x.kind, .int .u64 x.lsn, .int .u32 x.next, .slice ao5 es5.length ca5]) rfl rfl (fun B10 => ?_)
      refine K.l_nil ?_
      refine X.onE hKK ?_
      refine K.d_on rfl (fun KK hKK => ?_)
      refine K.l_append_at 3 rfl (Fx.und rfl) (Fx.und rfl) rfl (Fx.sz rfl) (Fx.zr rfl) rfl (Fx.byt rfl) rfl rfl (K.src_cells (K.cels_own (pre := []) (cs := [.int .u32 (nb : Nat), .int .i64 x.kind, .int .u64 x.lsn, .int .u32 x.next, .slice ao5 es5.length ca5]) (post := []) 0 rfl rfl) rfl (List.all_eq_true.1 (show ones [.int .u32 (nb : Nat), .int .i64 x.kind, .int .u64 x.lsn, .int .u32 x.next, .slice ao5 es5.length ca5] = true from rfl))) (by omega) (by omega) rfl (fun a6 cap6 => ?_)
      simp only [Go.K.nmz]
      refine K.l_nil ?_
      refine X.onE hKK ?_
      refine X.u_fa ?_
      refine K.d_cl rfl (fun KK hKK => ?_)
      refine X.sto ?_
      try simp only [Go.K.nmz]
      refine K.l_nil ?_
      refine K.d_clE hKK ?_
      refine K.d_nil ?_
      have hrow2 := (hrow.mono fun c x hc => ImgG.le (K.Base.le.refl _) hle2 hc).push (c := [.int .u32 (nb : Nat), .int .i64 x.kind, .int .u64 x.lsn, .int .u32 x.next, .slice ao5 es5.length ca5]) (x := ⟨nb, x⟩) ⟨hnb, _, rfl, hpc0⟩
      try simp only [Go.K.nmz]
      (repeat' first | refine X.rq ?_ | refine X.rc ?_ ?_ <;> intro hc <;> try omega)
      refine K.AT.sel [0] rfl ?_
      refine K.AT.perm (K.pp [2] rfl) ?_
      simp only [Go.K.nmz]
      rw [show (((m + 1 : Nat) : Int) - 1) = (m : Int) by omega]
      refine K.a_round hKL ⟨hb2, q6, ok6, rem6, c6, es ++ [[.int .u32 (nb : Nat), .int .i64 x.kind, .int .u64 x.lsn, .int .u32 x.next, .slice ao5 es5.length ca5]], l ++ [⟨nb, x⟩], a6, cap6, m⟩ ⟨hle.trans hle2, hr6, Nat.le_trans f6.1 (Nat.le_trans f5.1 hlL), hrow2, by dsimp only; rw [List.length_append, List.length_singleton]; omega, fun y hv he => ?_⟩ (by repeat (first | exact K.Sub.nil _ | refine K.Sub.cons rfl ?_)) rfl ?_ (by dsimp only; omega)
      ·obtain ⟨e1, e2, e3, e4, e5⟩ := fw y hv he
       obtain ⟨hok, hl0, hwx, hky, _⟩ := fB y hv he
       dsimp only
       obtain ⟨z, hz1, hz2, hz3⟩ := drop_at e4
       have hzm := List.mem_of_getElem? hz1
       have hzq := hok.2.2.2.2.2.2.1 z hzm
       unfold imgQ at hzq
       rw [Bool.and_eq_true, decide_eq_true_eq] at hzq
       have hzw := hwx.2 z hzm
       rw [hz2, List.append_nil, List.flatMap_cons, imgN, List.append_assoc] at e5
       obtain ⟨d1, d2, d3, d4⟩ := f5.2 z.page _ hzw.1 rfl e5
       obtain ⟨b1, b2, b3, b4⟩ := f6.2 z.to _ ⟨hzq.1, hzq.2, hzw.2.1, hzw.2.2⟩ d2 d3
       rw [List.length_append, List.length_singleton]
       refine ⟨b2, b4.trans (d4.trans e2), ?_, by omega, by rw [b3, List.append_nil]⟩
       rw [hz3, ← e3, d1, b1]
      ·dsimp only
       rw [List.length_append, List.length_singleton, List.flatten_append]
       simp only [List.flatten_cons, List.flatten_nil, List.append_nil]
       rfl
   ·rintro ⟨hb, qL, okL, remL, cL, es, l, a, cap, n⟩ ⟨hle, hrL, hlL, hrow, hn, fw⟩
    dsimp only at hle hrL hlL hrow hn fw ⊢
    have gL : remL.length ≤ big := Nat.le_trans hlL g2
    have hel := hrow.1
    refine K.AT.freezeRowF (hrow.sz fun c x hc => ImgG.five hc) (fun hb2 hle2 hsl hcap hfs => ?_)
    have hle3 := hle.trans hle2
    have hrL2 := hrL.le hle2
    rw [hel] at hsl hfs ⊢
    obtain ⟨ao9, ca9, e9⟩ := hsl.len
    rw [hel] at e9
    rw [e9] at hsl hfs ⊢
    have hfs := hfs.le (hle) (K.Base.le.refl _)
    (repeat' first | refine X.rq ?_ | refine X.rc ?_ ?_ <;> intro hc <;> try omega)
    skip
    refine K.a_join hJ ⟨hb2, qL, okL, remL, cL, ⟨(k : Nat), 0, 0, 0, 0, 0, 0, zO, l, [], [], 0⟩, none, 0, ao9, ca9, none, 0, none, 0⟩ ⟨hle3, hrL2, Nat.le_trans hlL (Nat.le_trans f2.1.1 f1.1), ?_, ?_, rfl, fun y hv he => ?_⟩ (by repeat (first | exact K.Sub.nil _ | refine K.Sub.cons rfl ?_)) rfl rfl
    ·exact recF_of (wfR_mk (by omega) (by omega) (by omega) (by omega) (by omega) (by omega) wf_zO (by omega) (by omega) (Nat.zero_le _) (Nat.zero_le _) (fun x hx => by cases hx) (fun x hx => by cases hx)) BF.nil ⟨es, hsl, hel, hfs, fun j c x a b => ImgG.le (K.Base.le.refl _) hle2 (hrow.2 j c x a b)⟩ SF.nil SF.nil
    ·exact ⟨show l.length ≤ 66000 by omega, Nat.zero_le _, Nat.zero_le _, Nat.zero_le _⟩
    ·obtain ⟨hok, hl0, hwx, hky, _⟩ := fB y hv he
     obtain ⟨e1, e2, e3, e4⟩ := fw y hv he
     refine ⟨e1, e2, ?_, e4⟩
     rw [eq_4 hok.2.1 (by omega), hl0, hk0]
     dsimp only
     rw [e3]
     rfl
  ·(repeat' first | refine X.rq ?_ | refine X.rc ?_ ?_ <;> intro hc <;> try omega)
   refine K.l_call (Fx.cal rfl) rfl (N_count h p q1 ok1 rem1 hr1 g1) (K.pp [0] rfl) rfl ?_
   rintro u h' H' - ⟨e, N2, q2, ok2, rem2, rfl, hr2, rfl, f2⟩
   obtain rfl := e.symm
   simp only [Go.K.nmz]
   have g2 : rem2.length ≤ big := Nat.le_trans f2.1.1 g1
   have hN2 : N2 ≤ 16390 := Nat.le_trans f2.1.2 (Nat.le_trans f2.1.1 (Nat.le_trans f1.1 hl20))
   have hl2 : rem2.length ≤ 16390 := Nat.le_trans f2.1.1 (Nat.le_trans f1.1 hl20)
   have fw2 : ∀ y, validR y → rem = bodyN y → ok2 = true ∧ true = true ∧ N2 = y.lives.length ∧ rem2 = y.lives.flatMap liveN ++ (cu y.dirty.length ++ (y.dirty.flatMap dirtN ++ cu y.next)) := fun y hv he => by
    obtain ⟨hok, hl0, hwx, hky, e1, e2⟩ := fB y hv he
    have hf : fieldsN y = cu y.lives.length ++ y.lives.flatMap liveN ++ cu y.dirty.length ++ y.dirty.flatMap dirtN ++ cu y.next := by unfold fieldsN; rw [if_neg (by omega), if_neg (by omega), if_neg (by omega), if_neg (by omega), if_pos (by omega)]
    rw [hf] at e2
    simp only [List.append_assoc] at e2
    have hlen := flat_pos liveN y.lives fun x hx => by
     have h1 := cu_pos (x := x.txn) (by have := (hwx.1.live x hx).txn; omega)
     unfold liveN
     rw [List.length_append, List.length_append, List.length_append]; omega
    have hbl := (may_okR hv.1).2
    have hbl2 : (y.lives.flatMap liveN).length ≤ 16384 := by
     have : (bodyN y).length = 1 + (fieldsN y).length := by unfold bodyN; rw [List.length_append, lebs_length]
     rw [hf] at this
     simp only [List.length_append] at this
     omega
    obtain ⟨d1, d2, d3⟩ := f2.2 y.lives.length _ (by omega) (by rw [List.length_append]; omega) e1 e2
    exact ⟨d2, rfl, d1, d3⟩
   (repeat' first | refine X.rk ?_ | refine X.rd ?_ ?_ <;> intro hc <;> try omega)
   refine K.WC.nilBuf 212 4 ?_
   refine K.c_join (β := LoS PLive) (fun q => [(0, rp p), (2, rp B2), (3, rp B3)]) (fun q => q.b) (fun q => bufA 212 4 q.a q.es.length q.cap q.es.flatten :: rA (rq p q.q) :: blk B3 4 [.bool q.c] :: blk B2 92 (cR ⟨(k : Nat), 0, 0, 0, 0, 0, 0, zO, [], [], [], 0⟩ (.slice none 0 0) (.slice none 0 0) (bufV q.a q.es.length q.cap) (.slice none 0 0)) :: F)
    (fun q => h.le q.b ∧ RdQ q.b q.q q.ok q.rem ∧ q.rem.length ≤ rem2.length ∧ RowsG (fun c x => c = Rc.cL x ∧ wfL x) q.es q.l ∧ q.l.length + q.n ≤ N2 ∧ ∀ y, validR y → rem = bodyN y → q.ok = true ∧ q.c = true ∧ q.l = y.lives ∧ q.rem = (cu y.dirty.length ++ (y.dirty.flatMap dirtN ++ cu y.next))) (fun KI hI => ?_) ?_
   ·(repeat' first | refine X.rq ?_ | refine X.rc ?_ ?_ <;> intro hc <;> try omega)
    refine K.c_loop (σ := LoS PLive) (fun q => [(0, rp p), (2, rp B2), (3, rp B3), (6, .int .i64 q.n)]) (fun q => q.b) (fun q => bufA 212 4 q.a q.es.length q.cap q.es.flatten :: rA (rq p q.q) :: blk B3 4 [.bool q.c] :: blk B2 92 (cR ⟨(k : Nat), 0, 0, 0, 0, 0, 0, zO, [], [], [], 0⟩ (.slice none 0 0) (.slice none 0 0) (bufV q.a q.es.length q.cap) (.slice none 0 0)) :: F)
     (fun q => h.le q.b ∧ RdQ q.b q.q q.ok q.rem ∧ q.rem.length ≤ rem2.length ∧ RowsG (fun c x => c = Rc.cL x ∧ wfL x) q.es q.l ∧ q.l.length + q.n ≤ N2 ∧ ∀ y, validR y → rem = bodyN y → q.ok = true ∧ q.c = true ∧ q.l = (y.lives).take q.l.length ∧ q.l.length + q.n = (y.lives).length ∧ q.rem = ((y.lives).drop q.l.length).flatMap liveN ++ (cu y.dirty.length ++ (y.dirty.flatMap dirtN ++ cu y.next))) (fun q => q.n)
     ⟨h, q2, ok2, rem2, true, [], [], none, 0, N2⟩ ⟨K.Base.le.refl _, hr2, Nat.le_refl _, RowsG.nil, by simp, fun y hv he => by
      obtain ⟨e4, e3, e5, e6⟩ := fw2 y hv he
      exact ⟨e4, e3, by simp, by simp [e5], by simpa using e6⟩⟩ (by repeat (first | exact K.Sub.nil _ | refine K.Sub.cons rfl ?_)) rfl rfl ?_
    rintro ⟨hb, qL, okL, remL, cL, es, l, a, cap, n⟩ ⟨hle, hrL, hlL, hrow, hn, fw⟩ KL hKL
    dsimp only at hle hrL hlL hrow hn fw ⊢
    have gL : remL.length ≤ big := Nat.le_trans hlL g2
    have hel := hrow.1
    by_cases hn0 : n = 0
    ·subst hn0
     (repeat' first | refine X.rq ?_ | refine X.rc ?_ ?_ <;> intro hc <;> try omega)
     refine K.a_join hI ⟨hb, qL, okL, remL, cL, es, l, a, cap, 0⟩ ⟨hle, hrL, hlL, hrow, hn, fun y hv he => ?_⟩ (by repeat (first | exact K.Sub.nil _ | refine K.Sub.cons rfl ?_)) rfl rfl
     obtain ⟨e1, e2, e3, e4, e5⟩ := fw y hv he
     dsimp only
     rw [Nat.add_zero] at e4
     rw [e4, List.take_length] at e3
     rw [e4, List.drop_length] at e5
     exact ⟨e1, e2, e3, by simpa using e5⟩
    ·obtain ⟨m, rfl⟩ : ∃ m, n = m + 1 := ⟨n - 1, by omega⟩
     (repeat' first | refine X.rq ?_ | refine X.rc ?_ ?_ <;> intro hc <;> try omega)
     refine K.l_callV (Fx.cal rfl) rfl (N_Err hb p qL okL remL hrL) (K.pp [1] rfl) rfl rfl ?_
     simp only [Go.K.nmz]
     cases okL with
     | false =>
      (repeat' first | refine X.rq ?_ | refine X.rc ?_ ?_ <;> intro hc <;> try omega)
      refine K.AT.perm (K.pp [1] rfl) ?_
      simp only [Go.K.nmz]
      refine K.a_join hI ⟨hb, qL, false, remL, cL, es, l, a, cap, m + 1⟩ ⟨hle, hrL, hlL, hrow, hn, fun y hv he => ?_⟩ (by repeat (first | exact K.Sub.nil _ | refine K.Sub.cons rfl ?_)) rfl rfl
      exact absurd (fw y hv he).1 (by decide)
     | true =>
      (repeat' first | refine X.rq ?_ | refine X.rc ?_ ?_ <;> intro hc <;> try omega)
      refine X.draw ([blk B2 92 (cR ⟨(k : Nat), 0, 0, 0, 0, 0, 0, zO, [], [], [], 0⟩ (.slice none 0 0) (.slice none 0 0) (bufV a es.length cap) (.slice none 0 0))]) [15] (.pu 0 (.pu 2 (.pu 4 (.pu 6 (.pu 8 (.st 1 (.on 3 (.on 5 (.on 7 (.on 9 (.pu 10 (.pu 11 (.on 12 (.on 13 (.pu 14 (.cl 15 .nil)))))))))))))))) ?_
      refine X.u_fa ?_
      refine X.u_mv ?_
      refine X.u_mv ?_
      refine X.u_mv ?_
      refine X.u_mv ?_
      refine X.s_ld ?_
      refine K.d_on rfl (fun KK hKK => ?_)
      refine K.l_call (Fx.cal rfl) rfl (N_narrow hb p qL true remL B3 cL hrL gL) (K.pp [0, 1] rfl) rfl ?_
      rintro u h' H' - ⟨e, ta, q5, ok5, rem5, c5, rfl, hta, hr5, rfl, f5⟩
      obtain rfl := e.symm
      simp only [Go.K.nmz]
      have g5 : rem5.length ≤ big := Nat.le_trans f5.1 gL
      refine K.l_nil ?_
      refine X.onE hKK ?_
      refine K.d_on rfl (fun KK hKK => ?_)
      refine K.l_call (Fx.cal rfl) rfl (N_Uint hb p q5 ok5 rem5 hr5 g5) (K.pp [0] rfl) rfl ?_
      rintro u h' H' - ⟨e, la, q6, ok6, rem6, rfl, hla, hr6, rfl, f6⟩
      obtain rfl := e.symm
      simp only [Go.K.nmz]
      have g6 : rem6.length ≤ big := Nat.le_trans f6.1 g5
      refine K.l_nil ?_
      refine X.onE hKK ?_
      refine K.d_on rfl (fun KK hKK => ?_)
      refine K.l_call (Fx.cal rfl) rfl (N_Uint hb p q6 ok6 rem6 hr6 g6) (K.pp [0] rfl) rfl ?_
      rintro u h' H' - ⟨e, un, q7, ok7, rem7, rfl, hun, hr7, rfl, f7⟩
      obtain rfl := e.symm
      simp only [Go.K.nmz]
      have g7 : rem7.length ≤ big := Nat.le_trans f7.1 g6
      refine K.l_nil ?_
      refine X.onE hKK ?_
      refine K.d_on rfl (fun KK hKK => ?_)
      refine K.l_call (Fx.cal rfl) rfl (N_U8 hb p q7 ok7 rem7 hr7 g7) (K.pp [0] rfl) rfl ?_
      rintro u h' H' - ⟨e, lo, q8, ok8, rem8, rfl, hlo, hr8, rfl, f8⟩
      obtain rfl := e.symm
      simp only [Go.K.nmz]
      have g8 : rem8.length ≤ big := Nat.le_trans f8.1 g7
      refine K.l_nil ?_
      refine X.onE hKK ?_
      refine X.u_bneq ?_
      refine X.u_bd ?_
      refine K.d_on rfl (fun KK hKK => ?_)
      refine K.l_buildSlice (Fx.und rfl) (Fx.sz rfl) rfl (Fx.zr rfl) rfl rfl rfl (cs := [.int .u32 (ta : Nat), .int .u64 (la : Nat), .int .u64 (un : Nat), .bool (decide ((lo : Int) ≠ 0))]) rfl rfl (fun B10 => ?_)
      refine K.l_nil ?_
      refine X.onE hKK ?_
      refine K.d_on rfl (fun KK hKK => ?_)
      refine K.l_append_at 3 rfl (Fx.und rfl) (Fx.und rfl) rfl (Fx.sz rfl) (Fx.zr rfl) rfl (Fx.byt rfl) rfl rfl (K.src_cells (K.cels_own (pre := []) (cs := [.int .u32 (ta : Nat), .int .u64 (la : Nat), .int .u64 (un : Nat), .bool (decide ((lo : Int) ≠ 0))]) (post := []) 0 rfl rfl) rfl (List.all_eq_true.1 (show ones [.int .u32 (ta : Nat), .int .u64 (la : Nat), .int .u64 (un : Nat), .bool (decide ((lo : Int) ≠ 0))] = true from rfl))) (by omega) (by omega) rfl (fun a6 cap6 => ?_)
      simp only [Go.K.nmz]
      refine K.l_nil ?_
      refine X.onE hKK ?_
      refine X.u_fa ?_
      refine K.d_cl rfl (fun KK hKK => ?_)
      refine X.sto ?_
      try simp only [Go.K.nmz]
      refine K.l_nil ?_
      refine K.d_clE hKK ?_
      refine K.d_nil ?_
      have hrow2 := hrow.push (c := [.int .u32 (ta : Nat), .int .u64 (la : Nat), .int .u64 (un : Nat), .bool (decide ((lo : Int) ≠ 0))]) (x := ⟨ta, la, un, decide ((lo : Int) ≠ 0)⟩) ⟨rfl, hta, hla, hun⟩
      try simp only [Go.K.nmz]
      (repeat' first | refine X.rq ?_ | refine X.rc ?_ ?_ <;> intro hc <;> try omega)
      refine K.AT.sel [0] rfl ?_
      refine K.AT.perm (K.pp [2] rfl) ?_
      simp only [Go.K.nmz]
      rw [show (((m + 1 : Nat) : Int) - 1) = (m : Int) by omega]
      refine K.a_round hKL ⟨hb, q8, ok8, rem8, c5, es ++ [[.int .u32 (ta : Nat), .int .u64 (la : Nat), .int .u64 (un : Nat), .bool (decide ((lo : Int) ≠ 0))]], l ++ [⟨ta, la, un, decide ((lo : Int) ≠ 0)⟩], a6, cap6, m⟩ ⟨hle, hr8, Nat.le_trans f8.1 (Nat.le_trans f7.1 (Nat.le_trans f6.1 (Nat.le_trans f5.1 hlL))), hrow2, by dsimp only; rw [List.length_append, List.length_singleton]; omega, fun y hv he => ?_⟩ (by repeat (first | exact K.Sub.nil _ | refine K.Sub.cons rfl ?_)) rfl ?_ (by dsimp only; omega)
      ·obtain ⟨e1, e2, e3, e4, e5⟩ := fw y hv he
       obtain ⟨hok, hl0, hwx, hky, _⟩ := fB y hv he
       dsimp only
       obtain ⟨z, hz1, hz2, hz3⟩ := drop_at e4
       have hzm := List.mem_of_getElem? hz1
       have hzw := hwx.1.live z hzm
       rw [hz2, List.flatMap_cons, liveN] at e5
       simp only [List.append_assoc] at e5
       obtain ⟨d1, d2, d3, d4⟩ := f5.2 z.txn _ hzw.txn rfl e5
       obtain ⟨i1, i2, i3⟩ := f6.2 z.last _ hzw.last d2 d3
       obtain ⟨j1, j2, j3⟩ := f7.2 z.undo _ hzw.undo i2 i3
       obtain ⟨k1, k2, k3⟩ := f8.2 (if z.lost = true then 1 else 0) _ (by show (if _ then _ else _) < 256; split <;> decide) j2 (by rw [j3]; cases z.lost <;> rfl)
       rw [List.length_append, List.length_singleton]
       refine ⟨k2, d4.trans e2, ?_, by omega, k3⟩
       have hlo : decide ((lo : Int) ≠ 0) = z.lost := by rw [k1]; cases z.lost <;> rfl
       rw [hz3, ← e3, d1, i1, j1, hlo]
      ·dsimp only
       rw [List.length_append, List.length_singleton, List.flatten_append]
       simp only [List.flatten_cons, List.flatten_nil, List.append_nil]
       rfl
   ·rintro ⟨hb, qL, okL, remL, cL, es, l, a, cap, n⟩ ⟨hle, hrL, hlL, hrow, hn, fw⟩
    dsimp only at hle hrL hlL hrow hn fw ⊢
    have gL : remL.length ≤ big := Nat.le_trans hlL g2
    have hel := hrow.1
    refine K.AT.freezeRowF (hrow.sz (fun c x hc => by rw [hc.1]; rfl)) (fun hb2 hle2 hsl hcap hfs => ?_)
    have hle3 := hle.trans hle2
    have hrL2 := hrL.le hle2
    rw [hel] at hsl hfs ⊢
    obtain ⟨ao9, ca9, e9⟩ := hsl.len
    rw [hel] at e9
    rw [e9] at hsl hfs ⊢
    have hfs := hfs.le (hle) (K.Base.le.refl _)
    have hem := hrow.map (f := Rc.cL) fun c x hc => hc.1
    rw [hem] at hsl
    have hwl : ∀ x ∈ l, wfL x := hrow.all fun c x hc => hc.2
    (repeat' first | refine X.rq ?_ | refine X.rc ?_ ?_ <;> intro hc <;> try omega)
    refine K.l_call (Fx.cal rfl) rfl (N_count hb2 p qL okL remL hrL2 gL) (K.pp [0] rfl) rfl ?_
    rintro u h' H' - ⟨e, N12, q12, ok12, rem12, rfl, hr12, rfl, f12⟩
    obtain rfl := e.symm
    simp only [Go.K.nmz]
    have g12 : rem12.length ≤ big := Nat.le_trans f12.1.1 gL
    have hN12 : N12 ≤ 16390 := Nat.le_trans f12.1.2 (Nat.le_trans f12.1.1 (Nat.le_trans hlL hl2))
    have hl12 : rem12.length ≤ 16390 := Nat.le_trans f12.1.1 (Nat.le_trans hlL hl2)
    have fw12 : ∀ y, validR y → rem = bodyN y → ok12 = true ∧ cL = true ∧ N12 = y.dirty.length ∧ rem12 = y.dirty.flatMap dirtN ++ cu y.next := fun y hv he => by
     obtain ⟨hok, hl0, hwx, hky, _, _⟩ := fB y hv he
     obtain ⟨e1, e2, e3, e4⟩ := fw y hv he
     have hlen := flat_pos dirtN y.dirty fun x hx => by
      have h1 := cu_pos (x := x.page) (by have := (hwx.1.dirt x hx).page; omega)
      unfold dirtN
      rw [List.length_append]; omega
     have hf : fieldsN y = cu y.lives.length ++ y.lives.flatMap liveN ++ cu y.dirty.length ++ y.dirty.flatMap dirtN ++ cu y.next := by unfold fieldsN; rw [if_neg (by omega), if_neg (by omega), if_neg (by omega), if_neg (by omega), if_pos (by omega)]
     have hbl := (may_okR hv.1).2
     have hbl2 : (y.dirty.flatMap dirtN).length ≤ 16384 := by
      have : (bodyN y).length = 1 + (fieldsN y).length := by unfold bodyN; rw [List.length_append, lebs_length]
      rw [hf] at this
      simp only [List.length_append] at this
      omega
     obtain ⟨d1, d2, d3⟩ := f12.2 y.dirty.length _ (by omega) (by rw [List.length_append]; omega) e1 e4
     exact ⟨d2, e2, d1, d3⟩
    (repeat' first | refine X.rk ?_ | refine X.rd ?_ ?_ <;> intro hc <;> try omega)
    refine K.WC.nilBuf 94 2 ?_
    refine K.c_join (β := LoS PDirty) (fun q => [(0, rp p), (2, rp B2), (3, rp B3)]) (fun q => q.b) (fun q => bufA 94 2 q.a q.es.length q.cap q.es.flatten :: rA (rq p q.q) :: blk B3 4 [.bool q.c] :: blk B2 92 (cR ⟨(k : Nat), 0, 0, 0, 0, 0, 0, zO, [], [], [], 0⟩ (.slice none 0 0) (.slice none 0 0) (.slice ao9 l.length ca9) (bufV q.a q.es.length q.cap)) :: F)
     (fun q => hb2.le q.b ∧ RdQ q.b q.q q.ok q.rem ∧ q.rem.length ≤ rem12.length ∧ RowsG (fun c x => c = Rc.cD x ∧ wfD x) q.es q.l ∧ q.l.length + q.n ≤ N12 ∧ ∀ y, validR y → rem = bodyN y → q.ok = true ∧ q.c = true ∧ q.l = y.dirty ∧ q.rem = cu y.next) (fun KI hI => ?_) ?_
    ·(repeat' first | refine X.rq ?_ | refine X.rc ?_ ?_ <;> intro hc <;> try omega)
     refine K.c_loop (σ := LoS PDirty) (fun q => [(0, rp p), (2, rp B2), (3, rp B3), (7, .int .i64 q.n)]) (fun q => q.b) (fun q => bufA 94 2 q.a q.es.length q.cap q.es.flatten :: rA (rq p q.q) :: blk B3 4 [.bool q.c] :: blk B2 92 (cR ⟨(k : Nat), 0, 0, 0, 0, 0, 0, zO, [], [], [], 0⟩ (.slice none 0 0) (.slice none 0 0) (.slice ao9 l.length ca9) (bufV q.a q.es.length q.cap)) :: F)
      (fun q => hb2.le q.b ∧ RdQ q.b q.q q.ok q.rem ∧ q.rem.length ≤ rem12.length ∧ RowsG (fun c x => c = Rc.cD x ∧ wfD x) q.es q.l ∧ q.l.length + q.n ≤ N12 ∧ ∀ y, validR y → rem = bodyN y → q.ok = true ∧ q.c = true ∧ q.l = (y.dirty).take q.l.length ∧ q.l.length + q.n = (y.dirty).length ∧ q.rem = ((y.dirty).drop q.l.length).flatMap dirtN ++ cu y.next) (fun q => q.n)
      ⟨hb2, q12, ok12, rem12, cL, [], [], none, 0, N12⟩ ⟨K.Base.le.refl _, hr12, Nat.le_refl _, RowsG.nil, by simp, fun y hv he => by
       obtain ⟨e4, e3, e5, e6⟩ := fw12 y hv he
       exact ⟨e4, e3, by simp, by simp [e5], by simpa using e6⟩⟩ (by repeat (first | exact K.Sub.nil _ | refine K.Sub.cons rfl ?_)) rfl rfl ?_
     rintro ⟨hb', qL', okL', remL', cL', es', l', a', cap', n'⟩ ⟨hle', hrL', hlL', hrow', hn', fw'⟩ KL hKL
     dsimp only at hle' hrL' hlL' hrow' hn' fw' ⊢
     have gL' : remL'.length ≤ big := Nat.le_trans hlL' g12
     have hel' := hrow'.1
     by_cases hn0 : n' = 0
     ·subst hn0
      (repeat' first | refine X.rq ?_ | refine X.rc ?_ ?_ <;> intro hc <;> try omega)
      refine K.a_join hI ⟨hb', qL', okL', remL', cL', es', l', a', cap', 0⟩ ⟨hle', hrL', hlL', hrow', hn', fun y hv he => ?_⟩ (by repeat (first | exact K.Sub.nil _ | refine K.Sub.cons rfl ?_)) rfl rfl
      obtain ⟨e1, e2, e3, e4, e5⟩ := fw' y hv he
      dsimp only
      rw [Nat.add_zero] at e4
      rw [e4, List.take_length] at e3
      rw [e4, List.drop_length] at e5
      exact ⟨e1, e2, e3, by simpa using e5⟩
     ·obtain ⟨m', rfl⟩ : ∃ m', n' = m' + 1 := ⟨n' - 1, by omega⟩
      (repeat' first | refine X.rq ?_ | refine X.rc ?_ ?_ <;> intro hc <;> try omega)
      refine K.l_callV (Fx.cal rfl) rfl (N_Err hb' p qL' okL' remL' hrL') (K.pp [1] rfl) rfl rfl ?_
      simp only [Go.K.nmz]
      cases okL' with
      | false =>
       (repeat' first | refine X.rq ?_ | refine X.rc ?_ ?_ <;> intro hc <;> try omega)
       refine K.AT.perm (K.pp [1] rfl) ?_
       simp only [Go.K.nmz]
       refine K.a_join hI ⟨hb', qL', false, remL', cL', es', l', a', cap', m' + 1⟩ ⟨hle', hrL', hlL', hrow', hn', fun y hv he => ?_⟩ (by repeat (first | exact K.Sub.nil _ | refine K.Sub.cons rfl ?_)) rfl rfl
       exact absurd (fw' y hv he).1 (by decide)
      | true =>
       (repeat' first | refine X.rq ?_ | refine X.rc ?_ ?_ <;> intro hc <;> try omega)
       refine X.draw ([blk B2 92 (cR ⟨(k : Nat), 0, 0, 0, 0, 0, 0, zO, [], [], [], 0⟩ (.slice none 0 0) (.slice none 0 0) (.slice ao9 l.length ca9) (bufV a' es'.length cap'))]) [10] (.pu 0 (.pu 2 (.pu 4 (.st 1 (.on 3 (.on 5 (.pu 6 (.on 7 (.on 8 (.pu 9 (.cl 10 .nil))))))))))) ?_
       refine X.u_fa ?_
       refine X.u_mv ?_
       refine X.u_mv ?_
       refine X.s_ld ?_
       refine K.d_on rfl (fun KK hKK => ?_)
       refine K.l_call (Fx.cal rfl) rfl (N_narrow hb' p qL' true remL' B3 cL' hrL' gL') (K.pp [0, 1] rfl) rfl ?_
       rintro u h' H' - ⟨e, pa, q5, ok5, rem5, c5, rfl, hpa, hr5, rfl, f5⟩
       obtain rfl := e.symm
       simp only [Go.K.nmz]
       have g5 : rem5.length ≤ big := Nat.le_trans f5.1 gL'
       refine K.l_nil ?_
       refine X.onE hKK ?_
       refine K.d_on rfl (fun KK hKK => ?_)
       refine K.l_call (Fx.cal rfl) rfl (N_Uint hb' p q5 ok5 rem5 hr5 g5) (K.pp [0] rfl) rfl ?_
       rintro u h' H' - ⟨e, fr, q6, ok6, rem6, rfl, hfr, hr6, rfl, f6⟩
       obtain rfl := e.symm
       simp only [Go.K.nmz]
       have g6 : rem6.length ≤ big := Nat.le_trans f6.1 g5
       refine K.l_nil ?_
       refine X.onE hKK ?_
       refine X.u_bd ?_
       refine K.d_on rfl (fun KK hKK => ?_)
       refine K.l_buildSlice (Fx.und rfl) (Fx.sz rfl) rfl (Fx.zr rfl) rfl rfl rfl (cs := [.int .u32 (pa : Nat), .int .u64 (fr : Nat)]) rfl rfl (fun B10 => ?_)
       refine K.l_nil ?_
       refine X.onE hKK ?_
       refine K.d_on rfl (fun KK hKK => ?_)
       refine K.l_append_at 3 rfl (Fx.und rfl) (Fx.und rfl) rfl (Fx.sz rfl) (Fx.zr rfl) rfl (Fx.byt rfl) rfl rfl (K.src_cells (K.cels_own (pre := []) (cs := [.int .u32 (pa : Nat), .int .u64 (fr : Nat)]) (post := []) 0 rfl rfl) rfl (List.all_eq_true.1 (show ones [.int .u32 (pa : Nat), .int .u64 (fr : Nat)] = true from rfl))) (by omega) (by omega) rfl (fun a6 cap6 => ?_)
       simp only [Go.K.nmz]
       refine K.l_nil ?_
       refine X.onE hKK ?_
       refine X.u_fa ?_
       refine K.d_cl rfl (fun KK hKK => ?_)
       refine X.sto ?_
       try simp only [Go.K.nmz]
       refine K.l_nil ?_
       refine K.d_clE hKK ?_
       refine K.d_nil ?_
       have hrow2' := hrow'.push (c := [.int .u32 (pa : Nat), .int .u64 (fr : Nat)]) (x := ⟨pa, fr⟩) ⟨rfl, hpa, hfr⟩
       try simp only [Go.K.nmz]
       (repeat' first | refine X.rq ?_ | refine X.rc ?_ ?_ <;> intro hc <;> try omega)
       refine K.AT.sel [0] rfl ?_
       refine K.AT.perm (K.pp [2] rfl) ?_
       simp only [Go.K.nmz]
       rw [show (((m' + 1 : Nat) : Int) - 1) = (m' : Int) by omega]
       refine K.a_round hKL ⟨hb', q6, ok6, rem6, c5, es' ++ [[.int .u32 (pa : Nat), .int .u64 (fr : Nat)]], l' ++ [⟨pa, fr⟩], a6, cap6, m'⟩ ⟨hle', hr6, Nat.le_trans f6.1 (Nat.le_trans f5.1 hlL'), hrow2', by dsimp only; rw [List.length_append, List.length_singleton]; omega, fun y hv he => ?_⟩ (by repeat (first | exact K.Sub.nil _ | refine K.Sub.cons rfl ?_)) rfl ?_ (by dsimp only; omega)
       ·obtain ⟨e1, e2, e3, e4, e5⟩ := fw' y hv he
        obtain ⟨hok, hl0, hwx, hky, _⟩ := fB y hv he
        dsimp only
        obtain ⟨z, hz1, hz2, hz3⟩ := drop_at e4
        have hzm := List.mem_of_getElem? hz1
        have hzw := hwx.1.dirt z hzm
        rw [hz2, List.flatMap_cons, dirtN] at e5
        simp only [List.append_assoc] at e5
        obtain ⟨d1, d2, d3, d4⟩ := f5.2 z.page _ hzw.page rfl e5
        obtain ⟨i1, i2, i3⟩ := f6.2 z.frm _ hzw.frm d2 d3
        rw [List.length_append, List.length_singleton]
        refine ⟨i2, d4.trans e2, ?_, by omega, i3⟩
        rw [hz3, ← e3, d1, i1]
       ·dsimp only
        rw [List.length_append, List.length_singleton, List.flatten_append]
        simp only [List.flatten_cons, List.flatten_nil, List.append_nil]
        rfl
    ·rintro ⟨hb', qL', okL', remL', cL', es', l', a', cap', n'⟩ ⟨hle', hrL', hlL', hrow', hn', fw'⟩
     dsimp only at hle' hrL' hlL' hrow' hn' fw' ⊢
     have gL' : remL'.length ≤ big := Nat.le_trans hlL' g12
     have hel' := hrow'.1
     refine K.AT.freezeRowF (hrow'.sz (fun c x hc => by rw [hc.1]; rfl)) (fun hb2' hle2' hsl' hcap' hfs' => ?_)
     have hle3' := hle'.trans hle2'
     have hrL2' := hrL'.le hle2'
     rw [hel'] at hsl' hfs' ⊢
     obtain ⟨ao9', ca9', e9'⟩ := hsl'.len
     rw [hel'] at e9'
     rw [e9'] at hsl' hfs' ⊢
     have hfs' := hfs'.le (hle3.trans hle') (K.Base.le.refl _)
     have hem := hrow'.map (f := Rc.cD) fun c x hc => hc.1
     rw [hem] at hsl'
     have hwd : ∀ x ∈ l', wfD x := hrow'.all fun c x hc => hc.2
     (repeat' first | refine X.rq ?_ | refine X.rc ?_ ?_ <;> intro hc <;> try omega)
     refine K.l_call (Fx.cal rfl) rfl (N_narrow hb2' p qL' okL' remL' B3 cL' hrL2' gL') (K.pp [0, 0] rfl) rfl ?_
     rintro u h' H' - ⟨e, nx, q15, ok15, rem15, c15, rfl, hnx, hr15, rfl, f15⟩
     obtain rfl := e.symm
     simp only [Go.K.nmz]
     (repeat' first | refine X.rq ?_ | refine X.rc ?_ ?_ <;> intro hc <;> try omega)
     refine X.sto ?_
     simp only [Go.K.nmz]
     (repeat' first | refine X.rq ?_ | refine X.rc ?_ ?_ <;> intro hc <;> try omega)
     skip
     refine K.a_join hJ ⟨hb2', q15, ok15, rem15, c15, ⟨(k : Nat), 0, 0, 0, 0, 0, 0, zO, [], l, l', nx⟩, none, 0, none, 0, ao9, ca9, ao9', ca9'⟩ ⟨hle3.trans hle3', hr15, Nat.le_trans f15.1 (Nat.le_trans hlL' (Nat.le_trans f12.1.1 (Nat.le_trans hlL (Nat.le_trans f2.1.1 f1.1)))), ?_, ?_, rfl, fun y hv he => ?_⟩ (by repeat (first | exact K.Sub.nil _ | refine K.Sub.cons rfl ?_)) rfl rfl
     ·exact recF_of (wfR_mk (by omega) (by omega) (by omega) (by omega) (by omega) (by omega) wf_zO (by omega) (Nat.zero_le _) (by omega) (by omega) hwl hwd) BF.nil ImgsF.nil ⟨hsl.le hle3', hfs.le (K.Base.le.refl _) hle3'⟩ ⟨hsl', hfs'⟩
     ·exact ⟨Nat.zero_le _, show l.length ≤ 66000 by omega, show l'.length ≤ 100000 by omega, Nat.zero_le _⟩
     ·obtain ⟨hok, hl0, hwx, hky, _⟩ := fB y hv he
      obtain ⟨e1, e2, e3, e4⟩ := fw' y hv he
      obtain ⟨_, _, u3, _⟩ := fw y hv he
      obtain ⟨d1, d2, d3, d4⟩ := f15.2 y.next [] hwx.1.next e1 (by rw [e4, List.append_nil])
      refine ⟨d2, d4.trans e2, ?_, d3⟩
      rw [eq_8 hok.2.1 (by omega), hl0, hk0]
      dsimp only
      rw [e3, u3, d1]
      rfl
  ·have gl : rem1.length ≤ rem.length := by
    have := f1.1
    omega
   (repeat' first | refine X.rq ?_ | refine X.rc ?_ ?_ <;> intro hc <;> try omega)
   skip
   refine K.a_join hJ ⟨h, q1, ok1, rem1, true, ⟨(k : Nat), 0, 0, 0, 0, 0, 0, zO, [], [], [], 0⟩, none, 0, none, 0, none, 0, none, 0⟩ ⟨K.Base.le.refl _, hr1, gl, ?_, ?_, rfl, fun y hv he => ?_⟩ (by repeat (first | exact K.Sub.nil _ | refine K.Sub.cons rfl ?_)) rfl rfl
   ·exact recF_of (wfR_mk (by omega) (by omega) (by omega) (by omega) (by omega) (by omega) wf_zO (by omega) (Nat.zero_le _) (Nat.zero_le _) (Nat.zero_le _) (fun x hx => by cases hx) (fun x hx => by cases hx)) BF.nil ImgsF.nil SF.nil SF.nil
   ·exact ⟨Nat.zero_le _, Nat.zero_le _, Nat.zero_le _, by first | exact Nat.zero_le _ | (show _ ≤ 66000; omega)⟩
   ·obtain ⟨hok, hl0, hwx, hky, e1, e2⟩ := fB y hv he
    have := hok.1
    omega
 ·rintro ⟨b1, q2, ok2, rem2, c2, r, ad, cd, ai, ci, al, cl, ay, cy⟩ ⟨hle, hr2, gl, hrc, hsm, hls, fw⟩
  dsimp only [RdS.cs] at hle hr2 gl hrc hsm hls fw ⊢
  have g2 : rem2.length ≤ big := Nat.le_trans gl hl
  cases c2 with
  | false =>
   (repeat' first | refine X.rq ?_ | refine X.rc ?_ ?_ <;> intro hc <;> try omega)
   refine X.draw ([blk B3 4 [.bool false], blk B2 92 (cR r (.slice ad r.op.data.length cd) (.slice ai r.images.length ci) (.slice al r.lives.length cl) (.slice ay r.dirty.length cy))]) [8] (.st 0 (.st 1 (.pu 2 (.pu 3 (.on 4 (.pu 5 (.pu 6 (.on 7 (.cl 8 .nil))))))))) ?_
   refine X.s_ld ?_
   refine X.s_ld ?_
   refine X.u_mv ?_
   refine X.g_mv ?_
   refine K.d_on rfl (fun KK hKK => ?_)
   first | refine K.s_skip rfl rfl rfl ?_ | refine K.s_skipU rfl rfl rfl rfl ?_
   refine K.l_nil ?_
   refine X.onE hKK ?_
   refine X.g_beql ?_
   refine X.u_pk ?_
   refine K.d_on rfl (fun KK hKK => ?_)
   refine X.stw ?_
   simp only [Go.K.nmz]
   refine K.l_nil ?_
   refine X.onE hKK ?_
   refine K.d_cl rfl (fun KK hKK => ?_)
   refine X.sto ?_
   simp only [Go.K.nmz]
   refine K.l_nil ?_
   refine K.d_clE hKK ?_
   refine K.d_nil ?_
   (repeat' first | refine X.rq ?_ | refine X.rc ?_ ?_ <;> intro hc <;> try omega)
   refine K.doneD (vs := [.agg (cR r (.slice ad r.op.data.length cd) (.slice ai r.images.length ci) (.slice al r.lives.length cl) (.slice ay r.dirty.length cy)).toArray, .bool false]) (by first | exact Or.inl rfl | exact Or.inr rfl) (.cell rfl (Fx.agg rfl) (Fx.sz rfl) (K.cels_own (pre := []) (post := []) 2 rfl rfl) (.one rfl (Fx.agg rfl) (K.cel_own 1 rfl rfl) .nil)) hle (D := [_, _, _]) (H' := []) rfl ⟨_, r, _, rfl, rfl, hrc, hsm, hls, fun y hv he => ?_⟩
   exact absurd (fw y hv he).2.1 (by decide)
  | true =>
   (repeat' first | refine X.rq ?_ | refine X.rc ?_ ?_ <;> intro hc <;> try omega)
   refine X.draw ([blk B3 4 [.bool true], blk B2 92 (cR r (.slice ad r.op.data.length cd) (.slice ai r.images.length ci) (.slice al r.lives.length cl) (.slice ay r.dirty.length cy))]) [8] (.st 0 (.st 1 (.pu 2 (.pu 3 (.on 4 (.pu 5 (.pu 6 (.on 7 (.cl 8 .nil))))))))) ?_
   refine X.s_ld ?_
   refine X.s_ld ?_
   refine X.u_mv ?_
   refine X.g_mv ?_
   refine K.d_on rfl (fun KK hKK => ?_)
   refine K.s_take rfl rfl ?_
   refine K.l_call (Fx.cal rfl) rfl (N_End b1 p q2 ok2 rem2 hr2 g2) (K.pp [0] rfl) rfl ?_
   rintro u h' H' - ⟨e, q3, rfl, rfl⟩
   obtain rfl := e.symm
   simp only [Go.K.cna]
   refine K.l_nil ?_
   refine X.onE hKK ?_
   refine X.g_beql ?_
   refine X.u_pk ?_
   refine K.d_on rfl (fun KK hKK => ?_)
   refine X.stw ?_
   simp only [Go.K.nmz]
   refine K.l_nil ?_
   refine X.onE hKK ?_
   refine K.d_cl rfl (fun KK hKK => ?_)
   refine X.sto ?_
   simp only [Go.K.nmz]
   refine K.l_nil ?_
   refine K.d_clE hKK ?_
   refine K.d_nil ?_
   (repeat' first | refine X.rq ?_ | refine X.rc ?_ ?_ <;> intro hc <;> try omega)
   refine K.doneD (vs := [.agg (cR r (.slice ad r.op.data.length cd) (.slice ai r.images.length ci) (.slice al r.lives.length cl) (.slice ay r.dirty.length cy)).toArray, .bool (decide ((if (ok2 && decide (rem2 = [])) = true then 0 else 5) = 0))]) (by first | exact Or.inl rfl | exact Or.inr rfl) (.cell rfl (Fx.agg rfl) (Fx.sz rfl) (K.cels_own (pre := []) (post := []) 2 rfl rfl) (.one rfl (Fx.agg rfl) (K.cel_own 1 rfl rfl) .nil)) hle (D := [_, _, _]) (H' := []) rfl ⟨_, r, _, rfl, rfl, hrc, hsm, hls, fun y hv he => ?_⟩
   obtain ⟨o1, _, o3, o4⟩ := fw y hv he
   exact ⟨o3, by rw [o1, o4]; rfl⟩
end Go.Proofs.YtijbhgiigddjdaaGreat.Rc
