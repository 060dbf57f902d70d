/-
  Texts joined: Hd Ac R3 KZ KNa. Conditions: each theorem's own.
-/
import Derived.Test.YtmcdaegaopfihaaGreatZ9
import Derived.Test.YtmcdaegaopfihaaGreatZ8
import Derived.Test.YtmcdaegaopfihaaGreatZ1
import Derived.Maps.RangeRun
section
namespace Go.Proofs.YtmcdaegaopfihaaGreat.Rc
open Go Go.K Go.Proofs Go.Proofs.YtmcdaegaopfihaaGreat Go.Proofs.YtmcdaegaopfihaaGreat.Pg
set_option linter.unusedVariables false
set_option linter.unusedSimpArgs false
set_option maxRecDepth 10000

theorem RecC.cells {h : Base} {cs : List Value} {r : Recd} (hx : RecC h cs r) : wfR r ∧ ∃ ad ai al ay cd ci cl cy, cs = cR r (.slice ad r.op.data.length cd) (.slice ai r.images.length ci) (.slice al r.lives.length cl) (.slice ay r.dirty.length cy) ∧ BV h (.slice ad r.op.data.length cd) r.op.data ∧ ImgsV h (.slice ai r.images.length ci) r.images ∧ SL h 4 (.slice al r.lives.length cl) (r.lives.map cL) ∧ SL h 2 (.slice ay r.dirty.length cy) (r.dirty.map cD) := by
 obtain ⟨hw, ad, cd, iv, lv, yv, rfl, hb, ⟨es, h1, h2, h3⟩, h4, h5⟩ := hx
 obtain ⟨ai, ci, rfl⟩ := h1.len
 obtain ⟨al, cl, rfl⟩ := h4.len
 obtain ⟨ay, cy, rfl⟩ := h5.len
 rw [List.length_map] at h4 ⊢
 rw [List.length_map] at h5 ⊢
 rw [h2] at h1 ⊢
 exact ⟨hw, ad, ai, al, ay, cd, ci, cl, cy, rfl, hb, ⟨es, h1, h2, h3⟩, h4, h5⟩
theorem bare_iff (r : Recd) : bareP r ↔ r.txn = (usedQ r).txn ∧ r.prev = (usedQ r).prev ∧ r.undo = (usedQ r).undo ∧ r.page = (usedQ r).page ∧ r.root = (usedQ r).root ∧ r.next = (usedQ r).next ∧ r.op.kind = (usedQ r).op.kind ∧ r.op.slot = (usedQ r).op.slot ∧ r.op.txn = (usedQ r).op.txn ∧
  r.op.data.length = (if r.kind = 2 ∨ r.kind = 3 then r.op.data.length else 0) ∧ r.images.length = (if r.kind = 4 then r.images.length else 0) ∧ r.lives.length = (if r.kind = 8 then r.lives.length else 0) ∧ r.dirty.length = (if r.kind = 8 then r.dirty.length else 0) := by
 rw [bareP_iff]
 unfold usedQ
 dsimp only
 constructor
 ·rintro ⟨h1, h2, h3, h4, h5, h6⟩
  refine ⟨?_, ?_, ?_, ?_, ?_, ?_, ?_, ?_, ?_, ?_, ?_, ?_, ?_⟩
  ·split
   ·rfl
   ·exact h1 (by assumption)
  ·split
   ·rfl
   ·exact h2 (by assumption)
  ·split
   ·rfl
   ·exact h3 (by assumption)
  ·split
   ·rfl
   ·exact (h4 (by assumption)).1
  ·split
   ·rfl
   ·exact (h4 (by assumption)).2.1
  ·split
   ·rfl
   ·exact (h5 (by assumption)).1
  ·split
   ·rfl
   ·exact (h4 (by assumption)).2.2.1
  ·split
   ·rfl
   ·exact (h4 (by assumption)).2.2.2.1
  ·split
   ·rfl
   ·exact (h4 (by assumption)).2.2.2.2.1
  ·split
   ·rfl
   ·exact (h4 (by assumption)).2.2.2.2.2
  ·split
   ·rfl
   ·exact h6 (by assumption)
  ·split
   ·rfl
   ·exact (h5 (by assumption)).2.1
  ·split
   ·rfl
   ·exact (h5 (by assumption)).2.2
 ·rintro ⟨h1, h2, h3, h4, h5, h6, h7, h8, h9, h10, h11, h12, h13⟩
  refine ⟨fun h => ?_, fun h => ?_, fun h => ?_, fun h => ?_, fun h => ?_, fun h => ?_⟩
  ·rwa [if_neg h] at h1
  ·rwa [if_neg h] at h2
  ·rwa [if_neg h] at h3
  ·rw [if_neg h] at h4 h5 h7 h8 h9 h10
   exact ⟨h4, h5, h7, h8, h9, h10⟩
  ·rw [if_neg h] at h6 h12 h13
   exact ⟨h6, h12, h13⟩
  ·rwa [if_neg h] at h11
set_option maxHeartbeats 8000000 in
theorem PBare (h : Base) (cs : List Value) (r : Recd) (hx : RecC h cs r) : TrV Tryz.prog 107 [.agg cs.toArray] h [] (.bool (decide (bareP r))) [] := by
 obtain ⟨hw, ad, ai, al, ay, cd, ci, cl, cy, rfl, hb, _, _, _⟩ := hx.cells
 have hu := PUsed h r ad ai al ay r.op.data.length cd r.images.length ci r.lives.length cl r.dirty.length cy
 have hbi := bare_iff r
 unfold usedV sl at hu
 generalize (if r.kind = 2 ∨ r.kind = 3 then r.op.data.length else 0) = nd at hbi hu
 generalize (if r.kind = 4 then r.images.length else 0) = ni at hbi hu
 generalize (if r.kind = 8 then r.lives.length else 0) = nl at hbi hu
 generalize (if r.kind = 8 then r.dirty.length else 0) = ny at hbi hu
 generalize (if r.kind = 2 ∨ r.kind = 3 then ad else none) = ad2 at hu
 generalize (if r.kind = 4 then ai else none) = ai2 at hu
 generalize (if r.kind = 8 then al else none) = al2 at hu
 generalize (if r.kind = 8 then ay else none) = ay2 at hu
 generalize (if r.kind = 2 ∨ r.kind = 3 then cd else 0) = cd2 at hu
 generalize (if r.kind = 4 then ci else 0) = ci2 at hu
 generalize (if r.kind = 8 then cl else 0) = cl2 at hu
 generalize (if r.kind = 8 then cy else 0) = cy2 at hu
 generalize usedQ r = x at hbi hu
 have hbd : decide (bareP r) = decide (r.txn = x.txn ∧ r.prev = x.prev ∧ r.undo = x.undo ∧ r.page = x.page ∧ r.root = x.root ∧ r.next = x.next ∧ r.op.kind = x.op.kind ∧ r.op.slot = x.op.slot ∧ r.op.txn = x.op.txn ∧ r.op.data.length = nd ∧ r.images.length = ni ∧ r.lives.length = nl ∧ r.dirty.length = ny) := decide_eq_decide.2 hbi
 rw [hbd]
 clear hbi hbd
 refine K.enter Tryz.func107 rfl (Nat.le_of_ble_eq_true rfl) (fun F => ?_)
 simp only [List.nil_append]
 (repeat' first | refine X.rq ?_ | refine X.rc ?_ ?_ <;> intro hc <;> try omega)
 refine K.l_box rfl rfl rfl (fun B1 => ?_)
 (repeat' first | refine X.rq ?_ | refine X.rc ?_ ?_ <;> intro hc <;> try omega)
 refine K.l_callV (Fx.cal rfl) rfl hu (K.pp [] rfl) rfl rfl ?_
 simp only [List.nil_append]
 refine K.l_alloc (Fx.zr rfl) rfl rfl (fun B3 => ?_)
 refine X.stw ?_
 simp only [Go.K.nmz]
 (repeat' first | refine X.rq ?_ | refine X.rc ?_ ?_ <;> intro hc <;> try omega)
 all_goals
  refine K.AT.sel [0, 0] rfl ?_
  refine K.done (by first | exact Or.inl rfl | exact Or.inr rfl) rfl (by first | exact K.Base.le.refl _ | assumption) (H' := []) rfl ⟨?_, rfl, rfl⟩
  refine congrArg Value.bool (Bool.eq_iff_iff.2 ?_)
  simp only [decide_eq_true_eq, Bool.false_eq_true, false_iff]
  omega
end Go.Proofs.YtmcdaegaopfihaaGreat.Rc
end

section
namespace Go.Proofs.YtmcdaegaopfihaaGreat.Wl
open Go Go.K Go.Proofs Go.Proofs.YtmcdaegaopfihaaGreat Go.Proofs.YtmcdaegaopfihaaGreat.Pg Go.Proofs.YtmcdaegaopfihaaGreat.Rc
set_option linter.unusedVariables false
set_option linter.unusedSimpArgs false
set_option maxRecDepth 10000

def RowsA {α : Type} (R : List Value → α → Prop) (es : List (List Value)) (l : List α) : Prop := es.length = l.length ∧ ∀ (j : Nat) c x, es[j]? = some c → l[j]? = some x → R c x
structure ReachR (r : Recd) : Prop where
 images : r.images.length ≤ 140737488351232
 lives : r.lives.length ≤ 140737488351232
 dirty : r.dirty.length ≤ 140737488351232
 data : r.op.data.length ≤ 140737488351232
 cells : ∀ m ∈ r.images, Pg.smallX m.to.cells
structure PAct where
 what : Int
 r : Recd
 n : Int
def ActC (h : Base) (c : List Value) (x : PAct) : Prop := in64 x.what ∧ in64 x.n ∧ ReachR x.r ∧ ∃ cs, c = .int .i64 x.what :: (cs ++ [.int .i64 x.n]) ∧ RecC h cs x.r
def ActsV (h : Base) (v : Value) (l : List PAct) : Prop := ∃ es, SL h 17 v es ∧ RowsA (ActC h) es l
structure PRnd where
 acts : List PAct
 trip : Int
 keep : List Bool
 opens : List Int
def RndC (h : Base) (c : List Value) (x : PRnd) : Prop := in64 x.trip ∧ (∀ n ∈ x.opens, in64 n) ∧ x.acts.length ≤ 9223372036854775807 ∧ x.keep.length ≤ 9223372036854775807 ∧ x.opens.length ≤ 9223372036854775807 ∧
 ∃ va vk vo, c = [va, .int .i64 x.trip, vk, vo] ∧ ActsV h va x.acts ∧ SL h 1 vk (x.keep.map fun b => [.bool b]) ∧ SL h 1 vo (x.opens.map fun n => [.int .i64 n])
def RndsV (h : Base) (v : Value) (l : List PRnd) : Prop := ∃ es, SL h 4 v es ∧ RowsA (RndC h) es l
theorem ActC.le {h h' : Base} (hle : h.le h') {c : List Value} {x : PAct} (hc : ActC h c x) : ActC h' c x := by
 obtain ⟨a, b, r, cs, e, d⟩ := hc
 exact ⟨a, b, r, cs, e, d.le hle⟩
end Go.Proofs.YtmcdaegaopfihaaGreat.Wl
end

section
namespace Go.Proofs.YtmcdaegaopfihaaGreat.Rd
open Go Go.K Go.Proofs Go.Proofs.YtmcdaegaopfihaaGreat Go.Proofs.YtmcdaegaopfihaaGreat.Pg Go.Proofs.YtmcdaegaopfihaaGreat.Rc Go.Proofs.YtmcdaegaopfihaaGreat.Wl
open Go.ChangeShapes Go.WideShapes Go.ChangeAt Go.RowKit
set_option linter.unusedVariables false
set_option linter.unusedSimpArgs false
set_option maxRecDepth 10000

section
variable {H : Type} {enc : TypeId × Value → H} {P : Program} {W : World} {base : Nat} {spare : Nat → Bool} {held : Bool}
theorem upto_len {t e : TypeId} {sz fuel la ca : Nat} {a : Option Addr} {x : DataW H × List MemPlace} (ht : P.underlying t = some (.slice e)) (hsz : P.cellsOf e = sz) (hpos : 0 < sz) (h : DataW.trod enc P W base spare held fuel t [.slice a la ca] = some x) (hR : Upto P t x.1) (hb : 1 ≤ P.bytesOf e) : la ≤ 140737488351232 := by
 obtain ⟨es, n, _, hsl, _, _, hn⟩ := slu_of (sz := sz) (v := .slice a la ca) ht hsz hpos h ⟨_, _, _, rfl⟩ hR
 obtain ⟨_, _, e⟩ := hsl.len
 injection e with _ e2 _
 have h2 := Nat.le_trans (Nat.le_mul_of_pos_right es.length hb) hn
 unfold reachBytes at h2
 omega
theorem record_all (cs : List Value) (n : Nat) (y : DataW H × List MemPlace) (h : DataW.trod enc Tryz.prog W base spare held n 45 cs = some y) (hR : Upto Tryz.prog 45 y.1) : ∃ r : Recd, RecC (Base.of W) cs r ∧ ReachR r := by
 obtain ⟨r, hr, hm⟩ := record_upto _ _ _ h hR
 refine ⟨r, hr, ?_⟩
 obtain ⟨xs, k, rfl, rfl, hl, hlen, hf⟩ := DataW.trod_struct Tryz.underlying45 h
 have hl4 : cs.length = 15 := hl.trans (by kernel_rfl)
 obtain ⟨hw, ao, ca, iv, lv, yv, rfl, hb, ⟨es, h1, h2, h3⟩, h4, h5⟩ := hr
 obtain ⟨ai, ci, rfl⟩ := h1.len
 obtain ⟨al, cl, rfl⟩ := h4.len
 obtain ⟨ay, cy, rfl⟩ := h5.len
 match xs, hlen with
 | [x0, x1, x2, x3, x4, x5, x6, x7, x8, x9, x10, x11], _ =>
  have c0 : Tryz.prog.cellsOf 3 = 1 := by kernel_rfl
  have c1 : Tryz.prog.cellsOf 27 = 1 := by kernel_rfl
  have c2 : Tryz.prog.cellsOf 28 = 1 := by kernel_rfl
  have c7 : Tryz.prog.cellsOf 40 = 4 := by kernel_rfl
  have c8 : Tryz.prog.cellsOf 41 = 1 := by kernel_rfl
  have c9 : Tryz.prog.cellsOf 42 = 1 := by kernel_rfl
  have c10 : Tryz.prog.cellsOf 43 = 1 := by kernel_rfl
  have f7 := hf 7 _ rfl
  have f8 := hf 8 _ rfl
  have f9 := hf 9 _ rfl
  have f10 := hf 10 _ rfl
  simp [c0, c1, c2, c7, c8, c9, c10, cR] at f7 f8 f9 f10
  obtain ⟨o, ⟨_, ao2, ca2, e7, _⟩, ho⟩ := op_upto _ _ _ f7 (upto_field (i := 7) (d := x7.1) Tryz.underlying45 hR rfl rfl)
  simp only [cO, List.cons.injEq, and_true] at e7
  obtain ⟨_, _, _, e7⟩ := e7
  injection e7 with _ e7 _
  refine ⟨?_, ?_, ?_, by omega, hm⟩
  ·rw [← h2]
   exact upto_len (sz := 5) Tryz.underlying41 (by kernel_rfl) (by decide) f8 (upto_field (i := 8) (d := x8.1) Tryz.underlying45 hR rfl rfl) (of_decide_eq_true (by kernel_rfl))
  ·have := upto_len (sz := 4) Tryz.underlying42 (by kernel_rfl) (by decide) f9 (upto_field (i := 9) (d := x9.1) Tryz.underlying45 hR rfl rfl) (of_decide_eq_true (by kernel_rfl))
   exact this
  ·have := upto_len (sz := 2) Tryz.underlying43 (by kernel_rfl) (by decide) f10 (upto_field (i := 10) (d := x10.1) Tryz.underlying45 hR rfl rfl) (of_decide_eq_true (by kernel_rfl))
   exact this
theorem act_of (cs : List Value) (n : Nat) (y : DataW H × List MemPlace) (h : DataW.trod enc Tryz.prog W base spare held n 47 cs = some y) (hR : Upto Tryz.prog 47 y.1) : ∃ x : PAct, ActC (Base.of W) cs x := by
 obtain ⟨xs, k, rfl, rfl, hl, hlen, hf⟩ := DataW.trod_struct Tryz.underlying47 h
 have hl4 : cs.length = 17 := hl.trans (by kernel_rfl)
 have c0 : Tryz.prog.cellsOf 3 = 1 := by kernel_rfl
 have c1 : Tryz.prog.cellsOf 45 = 15 := by kernel_rfl
 match cs, hl4, xs, hlen with
 | [v0, v1, v2, v3, v4, v5, v6, v7, v8, v9, v10, v11, v12, v13, v14, v15, v16], _, [x0, x1, x2], _ =>
  have f0 := hf 0 _ rfl
  have f1 := hf 1 _ rfl
  have f2 := hf 2 _ rfl
  simp [c0, c1] at f0 f1 f2
  obtain ⟨n0, e0, _, w0⟩ := DataW.trod_int Tryz.underlying3 f0
  obtain ⟨n2, e2, _, w2⟩ := DataW.trod_int Tryz.underlying3 f2
  obtain ⟨r, hr, hm⟩ := record_all _ _ _ f1 (upto_field (i := 1) (d := x1.1) Tryz.underlying47 hR rfl rfl)
  simp at e0 e2
  subst e0 e2
  exact ⟨⟨n0, r, n2⟩, bounds_i64 w0, bounds_i64 w2, hm, _, rfl, hr⟩
theorem acts_of {fuel : Nat} {a : Option Addr} {la ca : Nat} {x : DataW H × List MemPlace} (h : DataW.trod enc Tryz.prog W base spare held fuel 22 [.slice a la ca] = some x) (hR : Upto Tryz.prog 22 x.1) : ∃ l : List PAct, ActsV (Base.of W) (.slice a la ca) l ∧ l.length ≤ 9223372036854775807 := by
 obtain ⟨es, m, hm, hsl, hel, hlen, _⟩ := slu_of (sz := 17) (v := .slice a la ca) Tryz.underlying22 (by kernel_rfl) (by decide) h ⟨_, _, _, rfl⟩ hR
 obtain ⟨l, hl1, hl2⟩ := list_of (p := fun i (x : PAct) => ∀ c, es[i]? = some c → ActC (Base.of W) c x) es.length fun i hi => by
  obtain ⟨y, hy, hy2⟩ := hel _ (List.getElem_mem hi)
  obtain ⟨x, hx⟩ := act_of _ _ _ hy hy2
  exact ⟨x, fun c hc => by rw [List.getElem?_eq_getElem hi] at hc; cases hc; exact hx⟩
 refine ⟨l, ⟨es, hsl, hl1.symm, fun j c x hj hx => ?_⟩, by unfold maxLen at hlen; omega⟩
 obtain ⟨hlt, e⟩ := List.getElem?_eq_some_iff.1 hx
 rw [← e]; exact hl2 j hlt c hj
theorem acts_val {fuel : Nat} {x : DataW H × List MemPlace} {v : Value} {w : World} {r : Reach} {b0 : Nat} (hval : Value.okWide Tryz.prog w r b0 22 v)
  (h : DataW.trod enc Tryz.prog W base spare held fuel 22 v.cells.toList = some x) (hR : Upto Tryz.prog 22 x.1) : ∃ l : List PAct, ActsV (Base.of W) v l ∧ l.length ≤ 9223372036854775807 := by
 obtain ⟨a3, l3, q3, rfl⟩ := okWide_slice Tryz.underlying22 hval
 exact acts_of h hR
end
end Go.Proofs.YtmcdaegaopfihaaGreat.Rd
end

section
namespace Go.K
set_option linter.unusedVariables false
set_option linter.unusedSimpArgs false

theorem Ok.forget {h h1 : Base} {F : List Asrt} {w : World} (hle : h.le h1) (ok : Ok h1 F w) : Ok h F w :=
 ⟨ok.os.trans hle.os, ok.tape.trans hle.tape, ok.output.trans hle.output, ⟨fun b o hb => ok.sat.imm b o (hle.mem b o hb), ok.sat.own⟩, ok.nd, fun b hb => by
  cases hm : h.mem b with
  | none => rfl
  | some o => have := hle.mem b o hm; rw [ok.dj b hb] at this; cases this⟩
section
variable {P : Program} {n : NN} {Q : Exit → Act → World → Prop} {E : Env} {h h1 : Base} {A R F : List Asrt} {ops : Array Oper}
theorem Tr.give {f : FuncId} {args : List Value} {Q : Value → List Asrt → Prop} (ht : ∀ h', h.le h' → Says h' A → Tr P f args h' R (fun u h1 H1 => Q u H1)) :
  Tr P f args h (A ++ R) (fun u h1 H1 => h1 = h ∧ Q u H1) := fun F w ok => by
 rw [List.append_assoc] at ok
 obtain ⟨h', hle, hs, ok', _⟩ := ok.freezeA
 refine Calls.mono (ht h' hle hs F w ok') fun e w' ⟨u, he, h1, H1, hle1, q2, ok1⟩ => ⟨u, he, h, H1, .refl _, ⟨rfl, q2⟩, ?_⟩
 exact Ok.forget (hle.trans hle1) ok1
end
theorem says_blk {h : Base} {T b : Nat} {cs : List Value} (hs : Says h [blk b T cs]) : Cels h [] b 0 cs := cels_of fun j u hj => ⟨fun w hw => by
 have e := hs.2 w hw _ (List.mem_singleton.2 rfl)
 rw [Nat.zero_add]
 exact (cel_own (K := [blk b T cs]) (h := h) 0 rfl hj).run w ⟨hw.imm, fun A hA => by
  rw [List.mem_singleton] at hA; subst hA; exact e⟩⟩
abbrev n64 (x : Nat) : Value := .int .u64 (x : Int)
def U64s (h : Base) (v : Value) (xs : List Nat) : Prop := SL h 1 v (xs.map fun x => [n64 x])
theorem says_nums {h : Base} {T b : Nat} {xs : List Nat} (hs : Says h [blk b T (xs.map n64)]) : U64s h (.slice (some ⟨b, 0, none⟩) xs.length xs.length) xs := by
 have hc := says_blk hs
 refine .inr ⟨b, 0, xs.length, by rw [List.length_map], by rw [List.length_map]; exact Nat.le_refl _, fun j hj => ?_⟩
 rw [List.length_map] at hj
 rw [List.getElem_map]
 refine ⟨rfl, ?_⟩
 have := hc.get j (n64 xs[j]) (by rw [List.getElem?_map, List.getElem?_eq_getElem hj]; rfl)
 rw [Nat.zero_add, Nat.mul_one]
 rw [Nat.zero_add] at this
 exact ⟨this, trivial⟩
end Go.K
end

section
/-! KM: maps with whole numbers for keys, owned by the call: made, looked up, written, deleted from, ranged over. Generic over the program. Conditions: none. -/
namespace Go.K
set_option linter.unusedSimpArgs false
def objA (b : Nat) (o : Obj) : Asrt where
 ids := [b]
 holds w := w.heap[b]? = some o
 live w h x hx := by
  simp at hx; subst hx
  rcases Nat.lt_or_ge x w.heap.size with h' | h'
  ·exact h'
  ·rw [Array.getElem?_eq_none h'] at h; cases h
 loc w w' hb h := by rw [hb b (by simp)]; exact h
abbrev ME := Int × Value × Nat
def entE (kk : IntKind) (e : ME) : MapEntry := ⟨.int kk e.1, e.2.1, e.2.2⟩
def mapO (kk : IntKind) (l : List ME) (clock : Nat) : Obj := .map (l.map (entE kk)).toArray clock
def iterO (b since : Nat) (seen : List Nat) (last : Nat) : Obj := .mapIter (some b) since seen.toArray last
abbrev mapA (b : Nat) (kk : IntKind) (l : List ME) (clock : Nat) : Asrt := objA b (mapO kk l clock)
abbrev iterA (r b since : Nat) (seen : List Nat) (last : Nat) : Asrt := objA r (iterO b since seen last)
structure MapOk (l : List ME) (clock : Nat) : Prop where
 keys : (l.map (·.1)).Nodup
 born : (l.map (·.2.2)).Nodup
 clock : ∀ e ∈ l, e.2.2 < clock
def look (l : List ME) (a : Int) : Option Value := (l.find? fun e => e.1 == a).map (·.2.1)
def putM (l : List ME) (clock : Nat) (a : Int) (v : Value) : List ME := if (look l a).isSome then l.map (fun e => if e.1 = a then (a, v, e.2.2) else e) else l ++ [(a, v, clock)]
def putC (l : List ME) (clock : Nat) (a : Int) : Nat := if (look l a).isSome then clock else clock + 1
def delM (l : List ME) (a : Int) : List ME := l.filter fun e => !(e.1 == a)
section
variable {P : Program}
end
section
variable {P : Program} {n : NN} {Q : Exit → Act → World → Prop} {E : Env} {h h' h0 : Base} {H K R F : List Asrt} {ops : Array Oper} {rest : List Oper}
variable {op : Op} {t t' kt et ty : TypeId} {ps : String} {af : Array Edge} {d i b : Nat} {v z : Value} {x y : Operand} {dst : Option Nat} {g : Option (Nat × Bool)} {kk : IntKind} {m : List ME} {clock : Nat} {a : Int}
theorem set_perm {H : List Asrt} {i : Nat} {A A' : Asrt} (hi : H[i]? = some A) : (A' :: H.eraseIdx i).Perm (H.set i A') := by
 have hlt : i < H.length := (List.getElem?_eq_some_iff.1 hi).1
 have := at_perm (l := H.set i A') (i := i) (A := A') (by rw [List.getElem?_set_self hlt])
 rw [List.eraseIdx_set_eq] at this
 exact this.symm
end
end Go.K

/-! KQ: a part of a row of the base; numbers of lists. Generic over the program. Conditions: none. -/
namespace Go.K
set_option linter.unusedVariables false
section
variable {P : Program} {n : NN} {E : Env} {h : Base} {K : List Asrt}
variable {t ty : TypeId} {ps : String} {af : Array Edge} {v : Value} {x y : Operand} {dst : Option Nat} {g : Option (Nat × Bool)}
section
variable {Q : Exit → Act → World → Prop} {H R : List Asrt} {ops : Array Oper} {rest : List Oper} {d : Nat}
theorem Ok.openBuf {T s b m cap : Nat} {cs : List Value} {w : World} (ok : Ok h (bufA T s (some b) m cap cs :: R) w) : ∃ sp fz, cs.length = m * s ∧ (cs ++ sp).length = cap * s ∧ m ≤ cap ∧ cap ≤ maxLen ∧ Free fz (cap * s) ∧ Ok h (blkF b T (cs ++ sp) fz :: R) w := by
 obtain ⟨sp, fz, g1, g2, g3, g4, g5, g6⟩ := ok.own_head
 refine ⟨sp, fz, g2, g3, g4, g5, g6, ok.os, ok.tape, ok.output, ⟨ok.sat.imm, fun A hA => ?_⟩, ok.nd, ok.dj⟩
 rcases List.mem_cons.1 hA with rfl | hA'
 ·exact g1
 ·exact ok.sat.own A (List.mem_cons_of_mem _ hA')
theorem WL.openBuf {L : List Oper} {T s b m cap : Nat} {cs : List Value} (hk : ∀ sp fz, cs.length = m * s → (cs ++ sp).length = cap * s → m ≤ cap → cap ≤ maxLen → Free fz (cap * s) → WL P n ops Q L E h (blkF b T (cs ++ sp) fz :: R)) : WL P n ops Q L E h (bufA T s (some b) m cap cs :: R) :=
 ⟨fun a w fa ok => by obtain ⟨sp, fz, g2, g3, g4, g5, g6, ok2⟩ := Ok.openBuf ok; exact (hk sp fz g2 g3 g4 g5 g6).run _ w fa ok2⟩
theorem Ok.someBuf {T s m cap j : Nat} {a : Option Nat} {cs : List Value} {w : World} (hj : H[j]? = some (bufA T s a m cap cs)) (hm : 0 < m) (ok : Ok h H w) : ∃ b, a = some b := by
 have := ok.sat.own _ (List.mem_of_getElem? hj)
 cases a with
 | none => obtain ⟨e, _, _⟩ := this; omega
 | some b => exact ⟨b, rfl⟩
theorem WC.someBuf {c : Code} {T s m cap : Nat} {a : Option Nat} {cs : List Value} (j : Nat) (hj : H[j]? = some (bufA T s a m cap cs)) (hm : 0 < m) (hk : ∀ b, a = some b → WC P n c Q E h H) : WC P n c Q E h H :=
 ⟨fun ac w fa ok => by obtain ⟨b, e⟩ := Ok.someBuf hj hm ok; exact (hk b e).run _ w fa ok⟩
theorem WL.someBuf {L : List Oper} {T s m cap : Nat} {a : Option Nat} {cs : List Value} (j : Nat) (hj : H[j]? = some (bufA T s a m cap cs)) (hm : 0 < m) (hk : ∀ b, a = some b → WL P n ops Q L E h H) : WL P n ops Q L E h H :=
 ⟨fun ac w fa ok => by obtain ⟨b, e⟩ := Ok.someBuf hj hm ok; exact (hk b e).run _ w fa ok⟩
theorem cel_rowZ {T s b m cap i q : Nat} {es : List (List Value)} {c : List Value} {u : Value} (j : Nat) (hj : K[j]? = some (bufA T s (some b) m cap es.flatten)) (hz : ∀ e ∈ es, e.length = s) (hi : es[i]? = some c) (hq : c[q]? = some u) : Cel h K b (i * s + q) u := ⟨fun w hs => by
 obtain ⟨sp, fz, g1, _⟩ := hs.own _ (List.mem_of_getElem? hj)
 have := flat_get (sp := sp) hz hi hq
 simp [World.cell?, g1, this]⟩
theorem cels_rowZ {T s b m cap i : Nat} {es : List (List Value)} {c : List Value} (j : Nat) (hj : K[j]? = some (bufA T s (some b) m cap es.flatten)) (hz : ∀ e ∈ es, e.length = s) (hi : es[i]? = some c) : Cels h K b (i * s) c :=
 cels_of fun q u hq => cel_rowZ j hj hz hi hq
theorem WL.freezeRowN {L : List Oper} {T sz m : Nat} {a : Option Nat} {cap : Nat} {es : List (List Value)} (hm : m = es.length) (hz : ∀ e ∈ es, e.length = sz) (hk : ∀ h', h.le h' → SL h' sz (bufV a m cap) es → WL P n ops Q L E h' H) : WL P n ops Q L E h (bufA T sz a m cap es.flatten :: H) := by
 subst hm
 exact WL.freezeRow hz fun h' le hs _ => hk h' le hs
theorem l_storePart {b s m cap i : Nat} {T : TypeId} {es : List (List Value)} {c1 c2 c3 us : List Value} (j : Nat) (hj : H[j]? = some (bufA T s (some b) m cap es.flatten)) (hs : szOf P t = some us.length) (hx : lkO E x = some (.pointer (some ⟨b, i * s + c1.length, none⟩))) (hy : lkO E y = some (.agg us.toArray)) (hv : ones us = true)
  (hz : ∀ e ∈ es, e.length = s) (hi : es[i]? = some (c1 ++ c2 ++ c3)) (hu : us.length = c2.length) (hk : WL P n ops Q rest E h (H.set j (bufA T s (some b) m cap (es.set i (c1 ++ us ++ c3)).flatten))) :
  WL P n ops Q (⟨none, .store t x y, ty, ps, af, none⟩ :: rest) E h H := by
 have e1 := at_perm hj
 have hlt : j < H.length := by
  rcases Nat.lt_or_ge j H.length with h' | h'
  ·exact h'
  ·rw [List.getElem?_eq_none h'] at hj; cases hj
 have e2 : (bufA T s (some b) m cap (es.set i (c1 ++ us ++ c3)).flatten :: H.eraseIdx j).Perm (H.set j (bufA T s (some b) m cap (es.set i (c1 ++ us ++ c3)).flatten)) := by
  have := at_perm (l := H.set j (bufA T s (some b) m cap (es.set i (c1 ++ us ++ c3)).flatten)) (i := j) (A := bufA T s (some b) m cap (es.set i (c1 ++ us ++ c3)).flatten) (by rw [List.getElem?_set_self hlt])
  rw [List.eraseIdx_set_eq] at this
  exact this.symm
 obtain ⟨hil, hie⟩ := List.getElem?_eq_some_iff.1 hi
 obtain ⟨p1, p2⟩ := flat_parts es i hil hz
 have hz' : ∀ e ∈ es.set i (c1 ++ us ++ c3), e.length = s := fun e he => by
  rcases List.mem_or_eq_of_mem_set he with h' | h'
  ·exact hz e h'
  ·have := hz _ (List.getElem_mem hil)
   rw [hie] at this
   rw [h', ← this]; simp; omega
 obtain ⟨q1, q2⟩ := flat_parts (es.set i (c1 ++ us ++ c3)) i (by simpa using hil) hz'
 rw [List.take_set_of_le (Nat.le_refl _), List.drop_set_of_lt (by omega), List.getElem_set_self] at q1
 rw [hie] at p1
 have hlen : (es.set i (c1 ++ us ++ c3)).flatten.length = es.flatten.length := by rw [flatten_len _ hz', flatten_len _ hz, List.length_set]
 refine WL.perm e1 (WL.openBuf fun sp fz g2 g3 g4 g5 g6 => ?_)
 have hb : i * s + c1.length + us.length ≤ cap * s := by
  have h1 : es.flatten.length ≤ cap * s := by rw [← g3, List.length_append]; omega
  have h2 := congrArg List.length p1
  simp only [List.length_append] at h2
  omega
 have e3 : es.flatten ++ sp = ((es.take i).flatten ++ c1) ++ c2 ++ (c3 ++ (es.drop (i + 1)).flatten ++ sp) := by rw [p1]; simp only [List.append_assoc]
 have e4 : (es.set i (c1 ++ us ++ c3)).flatten ++ sp = ((es.take i).flatten ++ c1) ++ us ++ (c3 ++ (es.drop (i + 1)).flatten ++ sp) := by rw [q1]; simp only [List.append_assoc]
 rw [e3]
 refine l_storeN hs hx hy hv hu (by rw [List.length_append, p2]) (fun o ho => g6 o (by omega)) ?_
 rw [← e4]
 exact WL.shut (by rw [hlen]; exact g2) (by rw [List.length_append, hlen, ← List.length_append]; exact g3) g4 g5 g6 (WL.perm e2 hk)
end
end
theorem SL.at {h : Base} {sz : Nat} {ao : Option Addr} {la ca : Nat} {es : List (List Value)} (hb : SL h sz (.slice ao la ca) es) {j : Nat} {c : List Value} (hc : es[j]? = some c) : ∃ b o, ao = some ⟨b, o, none⟩ ∧ Cels h [] b (o + j * sz) c := by
 obtain ⟨hlt, he⟩ := List.getElem?_eq_some_iff.1 hc
 rcases hb with ⟨_, _, _, rfl⟩ | ⟨b, o, c', e, _, hcs⟩
 ·simp at hlt
 ·injection e with e1 _ _
  refine ⟨b, o, e1, ?_⟩
  have := (hcs j hlt).2
  rw [he] at this
  exact this
end Go.K

/-! KV: memory that came up behind a base: frozen, and taken back to be written. Generic over the program. Conditions: none. -/
namespace Go.K
def Fsh (h0 h : Base) (sz : Nat) (v : Value) : Prop := ∀ ao n c, v = .slice ao n c → 0 < n → ∃ b arr T fz, ao = some ⟨b, 0, none⟩ ∧ h0.mem b = none ∧ h.mem b = some (.cells arr T fz) ∧ ∀ i, i < n * sz → (decide (fz.1 ≤ i) && decide (i < fz.2)) = false
theorem Fsh.le {h0 h0' h h' : Base} {sz : Nat} {v : Value} (hf : Fsh h0 h sz v) (h1 : h0'.le h0) (h2 : h.le h') : Fsh h0' h' sz v := fun ao n c e hn => by
 obtain ⟨b, arr, T, fz, e1, e2, e3, e4⟩ := hf ao n c e hn
 refine ⟨b, arr, T, fz, e1, ?_, h2.mem _ _ e3, e4⟩
 cases hm : h0'.mem b with
 | none => rfl
 | some o => rw [h1.mem _ _ hm] at e2; cases e2
theorem Fsh.nil {h0 h : Base} {sz c : Nat} {ao : Option Addr} : Fsh h0 h sz (.slice ao 0 c) := fun _ n _ e hn => by
 injection e with _ e2 _
 omega
section
variable {P : Program} {n : NN} {Q : Exit → Act → World → Prop} {E : Env} {h h' h0 : Base} {H K R F : List Asrt} {ops : Array Oper} {rest : List Oper}
variable {op : Op} {t t' ty : TypeId} {ps : String} {af : Array Edge} {d i : Nat} {v : Value} {x y : Operand} {dst : Option Nat} {g : Option (Nat × Bool)}
theorem Ok.freezeBufF {T : TypeId} {a : Option Nat} {cap : Nat} {l : List UInt8} {w : World} (ok : Ok h (bufA T 1 a l.length cap (l.map u8) :: H) w) : ∃ h', h.le h' ∧ BV h' (bufV a l.length cap) l ∧ Fsh h h' 1 (bufV a l.length cap) ∧ Ok h' H w := by
 have hown := ok.own_head
 cases a with
 | none =>
  obtain ⟨e1, e2, e3⟩ := hown
  have : l = [] := by simpa using e3
  subst this; subst e2
  exact ⟨h, Base.le.refl h, BV.nil, Fsh.nil, ok.drop⟩
 | some b =>
  obtain ⟨sp, fz, g1, g2, g3, g4, g5, g6⟩ := hown
  have ok2 : Ok h (blkF b T (l.map u8 ++ sp) fz :: H) w := by
   refine ⟨ok.os, ok.tape, ok.output, ⟨ok.sat.imm, fun A hA => ?_⟩, ok.nd, ok.dj⟩
   rcases List.mem_cons.1 hA with rfl | hA'
   ·exact g1
   ·exact ok.sat.own A (List.mem_cons_of_mem _ hA')
  obtain ⟨f1, f2, f3⟩ := ok2.freeze
  refine ⟨_, f1, .inr ⟨b, 0, cap, rfl, g4, cels_of fun j u hj => ?_⟩, fun ao n c e hn => ?_, f3⟩
  ·rw [Nat.zero_add]
   refine cel_mem f2 ?_
   have hlt : j < (l.map u8).length := (List.getElem?_eq_some_iff.1 hj).1
   rw [List.getElem?_append_left hlt]; exact hj
  ·cases e
   exact ⟨b, _, T, fz, rfl, ok2.dj b (by simp [idsOf, blkF]), f2, fun i hi => g6 i (Nat.lt_of_lt_of_le hi (Nat.mul_le_mul_right _ g4))⟩
theorem WL.freezeBufF {L : List Oper} {T : TypeId} {a : Option Nat} {cap : Nat} {l : List UInt8} (hk : ∀ h', h.le h' → BV h' (bufV a l.length cap) l → Fsh h h' 1 (bufV a l.length cap) → WL P n ops Q L E h' H) : WL P n ops Q L E h (bufA T 1 a l.length cap (l.map u8) :: H) :=
 ⟨fun a w fa ok => by obtain ⟨h', h1, h2, h3, h4⟩ := ok.freezeBufF; exact (hk h' h1 h2 h3).run _ w fa h4⟩
theorem Ok.freezeRowF {T sz : Nat} {a : Option Nat} {cap : Nat} {es : List (List Value)} {w : World} (hz : ∀ e ∈ es, e.length = sz) (ok : Ok h (bufA T sz a es.length cap es.flatten :: H) w) : ∃ h', h.le h' ∧ SL h' sz (bufV a es.length cap) es ∧ es.length ≤ cap ∧ Fsh h h' sz (bufV a es.length cap) ∧ Ok h' H w := by
 have hown := ok.own_head
 cases a with
 | none =>
  obtain ⟨e1, e2, e3⟩ := hown
  have : es = [] := List.eq_nil_of_length_eq_zero e1
  subst this; subst e2
  exact ⟨h, Base.le.refl h, .inl ⟨_, _, rfl, rfl⟩, Nat.le_refl _, Fsh.nil, ok.drop⟩
 | some b =>
  obtain ⟨sp, fz, g1, g2, g3, g4, g5, g6⟩ := hown
  have ok2 : Ok h (blkF b T (es.flatten ++ sp) fz :: H) w := by
   refine ⟨ok.os, ok.tape, ok.output, ⟨ok.sat.imm, fun A hA => ?_⟩, ok.nd, ok.dj⟩
   rcases List.mem_cons.1 hA with rfl | hA'
   ·exact g1
   ·exact ok.sat.own A (List.mem_cons_of_mem _ hA')
  obtain ⟨f1, f2, f3⟩ := ok2.freeze
  refine ⟨_, f1, .inr ⟨b, 0, cap, rfl, g4, fun j hj => ⟨hz _ (List.getElem_mem hj), ?_⟩⟩, g4, fun ao n c e hn => ?_, f3⟩
  ·refine cels_of fun i u hu => cel_mem f2 ?_
   have hfl := flat_get (sp := sp) hz (List.getElem?_eq_getElem hj) hu
   rw [show 0 + j * sz + i = j * sz + i by omega]
   exact hfl
  ·cases e
   exact ⟨b, _, T, fz, rfl, ok2.dj b (by simp [idsOf, blkF]), f2, fun i hi => g6 i (Nat.lt_of_lt_of_le hi (Nat.mul_le_mul_right _ g4))⟩
theorem AT.freezeRowF {q : Exit} {T sz : Nat} {a : Option Nat} {cap : Nat} {es : List (List Value)} (hz : ∀ e ∈ es, e.length = sz) (hk : ∀ h', h.le h' → SL h' sz (bufV a es.length cap) es → es.length ≤ cap → Fsh h h' sz (bufV a es.length cap) → AT P n Q q E h' H) : AT P n Q q E h (bufA T sz a es.length cap es.flatten :: H) :=
 ⟨fun a w fa ok => by obtain ⟨h', h1, h2, h3, h4, h5⟩ := ok.freezeRowF hz; exact (hk h' h1 h2 h3 h4).run _ w fa h5⟩

/-! Memory that came up behind a base, all of it, taken back. -/
def isCells : Option Obj → Bool
 | some (.cells _ _ _) => true
 | _ => false
def spA (h' : Base) (L : List Nat) (g : Nat → List Value) : Asrt where
 ids := L
 holds w := ∀ b ∈ L, ∃ arr T fz, h'.mem b = some (.cells arr T fz) ∧ w.heap[b]? = some (.cells (g b).toArray T fz)
 live w hw b hb := by
  obtain ⟨arr, T, fz, _, h2⟩ := hw b hb
  exact heap_lt h2
 loc w w' hb hw b hL := by
  obtain ⟨arr, T, fz, h1, h2⟩ := hw b hL
  exact ⟨arr, T, fz, h1, by rw [hb b hL]; exact h2⟩
def cmp1 (u v : Value) : Prop := u = v ∨ ∃ k a b, u = .int k a ∧ v = .int k b
def Cmp (h' : Base) (L : List Nat) (g : Nat → List Value) : Prop := ∀ b ∈ L, ∀ arr T fz, h'.mem b = some (.cells arr T fz) → (g b).length = arr.size ∧ ∀ (i : Nat) u, arr[i]? = some u → ∃ u', (g b)[i]? = some u' ∧ cmp1 u u'
def upd (gg : Nat → List Value) (b o : Nat) (u : Value) : Nat → List Value := fun x => if x = b then (gg b).set o u else gg x
end
end Go.K
end
