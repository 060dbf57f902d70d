/-
  Texts joined: Hd Ab Ob Sk. Conditions: each theorem's own.
-/
import Derived.Test.YtijbhgiigddjdaaGreatPC21
import Derived.Test.YtijbhgiigddjdaaGreatPC20
import Derived.Test.YtijbhgiigddjdaaGreatPC9
set_option linter.unusedVariables false
set_option linter.unusedSimpArgs false
set_option maxRecDepth 10000
set_option maxHeartbeats 16000000
section
namespace Go.Proofs.YtijbhgiigddjdaaGreat.Rc
open Go.K Pg

theorem RecC.cells {h : Base} {cs : List Value} {r : Recd} (hx : RecC h cs r) : wfR r ∧ ∃ ad ai al ay cd ci cl cy, cs = cR r (.slice ad r.op.data.length cd) (.slice ai r.images.length ci) (.slice al r.lives.length cl) (.slice ay r.dirty.length cy) ∧ BV h (.slice ad r.op.data.length cd) r.op.data ∧ ImgsV h (.slice ai r.images.length ci) r.images ∧ SL h 4 (.slice al r.lives.length cl) (r.lives.map cL) ∧ SL h 2 (.slice ay r.dirty.length cy) (r.dirty.map cD) := by
 obtain ⟨hw, ad, cd, iv, lv, yv, rfl, hb, ⟨es, h1, h2, h3⟩, h4, h5⟩ := hx
 obtain ⟨ai, ci, rfl⟩ := h1.len
 obtain ⟨al, cl, rfl⟩ := h4.len
 obtain ⟨ay, cy, rfl⟩ := h5.len
 rw [List.length_map] at h4 ⊢
 rw [List.length_map] at h5 ⊢
 rw [h2] at h1 ⊢
 exact ⟨hw, ad, ai, al, ay, cd, ci, cl, cy, rfl, hb, ⟨es, h1, h2, h3⟩, h4, h5⟩
theorem bare_iff (r : Recd) : bareP r ↔ r.txn = (usedQ r).txn ∧ r.prev = (usedQ r).prev ∧ r.undo = (usedQ r).undo ∧ r.page = (usedQ r).page ∧ r.root = (usedQ r).root ∧ r.next = (usedQ r).next ∧ r.op.kind = (usedQ r).op.kind ∧ r.op.slot = (usedQ r).op.slot ∧ r.op.txn = (usedQ r).op.txn ∧
  r.op.data.length = (if r.kind = 2 ∨ r.kind = 3 then r.op.data.length else 0) ∧ r.images.length = (if r.kind = 4 then r.images.length else 0) ∧ r.lives.length = (if r.kind = 8 then r.lives.length else 0) ∧ r.dirty.length = (if r.kind = 8 then r.dirty.length else 0) := by
 rw [bareP_iff]
 unfold usedQ
 dsimp only
 constructor
 ·rintro ⟨h1, h2, h3, h4, h5, h6⟩
  refine ⟨?_, ?_, ?_, ?_, ?_, ?_, ?_, ?_, ?_, ?_, ?_, ?_, ?_⟩
  ·split
   ·rfl
   ·exact h1 (by assumption)
  ·split
   ·rfl
   ·exact h2 (by assumption)
  ·split
   ·rfl
   ·exact h3 (by assumption)
  ·split
   ·rfl
   ·exact (h4 (by assumption)).1
  ·split
   ·rfl
   ·exact (h4 (by assumption)).2.1
  ·split
   ·rfl
   ·exact (h5 (by assumption)).1
  ·split
   ·rfl
   ·exact (h4 (by assumption)).2.2.1
  ·split
   ·rfl
   ·exact (h4 (by assumption)).2.2.2.1
  ·split
   ·rfl
   ·exact (h4 (by assumption)).2.2.2.2.1
  ·split
   ·rfl
   ·exact (h4 (by assumption)).2.2.2.2.2
  ·split
   ·rfl
   ·exact h6 (by assumption)
  ·split
   ·rfl
   ·exact (h5 (by assumption)).2.1
  ·split
   ·rfl
   ·exact (h5 (by assumption)).2.2
 ·rintro ⟨h1, h2, h3, h4, h5, h6, h7, h8, h9, h10, h11, h12, h13⟩
  refine ⟨fun h => ?_, fun h => ?_, fun h => ?_, fun h => ?_, fun h => ?_, fun h => ?_⟩
  ·rwa [if_neg h] at h1
  ·rwa [if_neg h] at h2
  ·rwa [if_neg h] at h3
  ·rw [if_neg h] at h4 h5 h7 h8 h9 h10
   exact ⟨h4, h5, h7, h8, h9, h10⟩
  ·rw [if_neg h] at h6 h12 h13
   exact ⟨h6, h12, h13⟩
  ·rwa [if_neg h] at h11
theorem PBare (h : Base) (cs : List Value) (r : Recd) (hx : RecC h cs r) : TrV Tryz.prog 153 [.agg cs.toArray] h [] (.bool (decide (bareP r))) [] := by
 obtain ⟨hw, ad, ai, al, ay, cd, ci, cl, cy, rfl, hb, _, _, _⟩ := hx.cells
 have hu := PUsed h r ad ai al ay r.op.data.length cd r.images.length ci r.lives.length cl r.dirty.length cy
 have hbi := bare_iff r
 unfold usedV sl at hu
 generalize (if r.kind = 2 ∨ r.kind = 3 then r.op.data.length else 0) = nd at hbi hu
 generalize (if r.kind = 4 then r.images.length else 0) = ni at hbi hu
 generalize (if r.kind = 8 then r.lives.length else 0) = nl at hbi hu
 generalize (if r.kind = 8 then r.dirty.length else 0) = ny at hbi hu
 generalize (if r.kind = 2 ∨ r.kind = 3 then ad else none) = ad2 at hu
 generalize (if r.kind = 4 then ai else none) = ai2 at hu
 generalize (if r.kind = 8 then al else none) = al2 at hu
 generalize (if r.kind = 8 then ay else none) = ay2 at hu
 generalize (if r.kind = 2 ∨ r.kind = 3 then cd else 0) = cd2 at hu
 generalize (if r.kind = 4 then ci else 0) = ci2 at hu
 generalize (if r.kind = 8 then cl else 0) = cl2 at hu
 generalize (if r.kind = 8 then cy else 0) = cy2 at hu
 generalize usedQ r = x at hbi hu
 have hbd : decide (bareP r) = decide (r.txn = x.txn ∧ r.prev = x.prev ∧ r.undo = x.undo ∧ r.page = x.page ∧ r.root = x.root ∧ r.next = x.next ∧ r.op.kind = x.op.kind ∧ r.op.slot = x.op.slot ∧ r.op.txn = x.op.txn ∧ r.op.data.length = nd ∧ r.images.length = ni ∧ r.lives.length = nl ∧ r.dirty.length = ny) := decide_eq_decide.2 hbi
 rw [hbd]
 clear hbi hbd
 refine K.en Tryz.func153 fun F => ?_
 simp only [List.nil_append]
 (repeat' first | refine X.rq ?_ | refine X.rc ?_ ?_ <;> intro hc <;> try omega)
 refine K.l_box rfl rfl rfl (fun B1 => ?_)
 (repeat' first | refine X.rq ?_ | refine X.rc ?_ ?_ <;> intro hc <;> try omega)
 refine K.l_callV (Fx.cal rfl) rfl hu (K.pp [] rfl) rfl rfl ?_
 simp only [List.nil_append]
 refine K.l_alloc (Fx.zr rfl) rfl rfl (fun B3 => ?_)
 refine X.stw ?_
 simp only [Go.K.nmz]
 (repeat' first | refine X.rq ?_ | refine X.rc ?_ ?_ <;> intro hc <;> try omega)
 all_goals
  refine K.AT.sel [0, 0] rfl ?_
  refine K.dl rfl (H' := []) rfl ⟨?_, rfl, rfl⟩
  refine congrArg Value.bool (Bool.eq_iff_iff.2 ?_)
  simp only [decide_eq_true_eq, Bool.false_eq_true, false_iff]
  omega
end Go.Proofs.YtijbhgiigddjdaaGreat.Rc
end

section
namespace Go.Proofs.YtijbhgiigddjdaaGreat.Wl
open Go.K Cc Rc

end Go.Proofs.YtijbhgiigddjdaaGreat.Wl
end

section
namespace Go.Proofs.YtijbhgiigddjdaaGreat.Pl
open Go.K Pg Wl

structure Fr where
 b : Nat
 n : Nat
 pg : Pag
 cb : Option Nat
 cap : Nat
 l : List OC
 fresh : Bool
 used : Bool
def frV (x : Fr) : List Value := [.int .u32 x.n, .int .i64 x.pg.kind, .int .u64 x.pg.lsn, .int .u32 x.pg.next, bufV x.cb x.l.length x.cap, .bool x.fresh, .bool x.used]
def frL (x : Fr) : List Asrt := [blk x.b 105 (frV x), bufA 120 3 x.cb x.l.length x.cap (x.l.map rowO).flatten, all (x.l.map datA)]
def frA (x : Fr) : Asrt := all (frL x)
structure FrOk (x : Fr) : Prop where
 n : x.n < 4294967296
 wf : wfP x.pg
 ok : okO x.l
 cells : x.pg.cells = x.l.map OC.cell
 may : mayQ x.pg = true ∨ zeroQ x.pg = true
theorem FrOk.len {x : Fr} (h : FrOk x) : x.pg.cells.length = x.l.length := by rw [h.cells, List.length_map]
theorem may_small {p : Pag} (h : mayQ p = true ∨ zeroQ p = true) : smallX p.cells ∧ p.cells.length ≤ 60 ∧ ∀ x ∈ p.cells, x.data.length ≤ 180 := by
 rcases h with h | h
 ·have hc := (cellsQ_iff _).1 (may_cells h)
  have h1 : ∀ x ∈ p.cells, x.data.length ≤ 180 := fun x hx => by
   obtain ⟨i, hi⟩ := List.mem_iff_getElem?.1 hx
   obtain ⟨a, b⟩ := hc.1 i x hi
   cases hu : x.used with
   | true => exact (a hu).2
   | false => have := (b hu).2; omega
  exact ⟨⟨by have := hc.2.1; omega, fun x hx => by have := h1 x hx; omega⟩, hc.2.1, h1⟩
 ·rw [(zero_iff p).1 h]
  exact ⟨⟨Nat.zero_le _, fun x hx => by cases hx⟩, Nat.zero_le _, fun x hx => by cases hx⟩
structure PM where
 fa : Option Nat
 fk : Nat
 wm : Nat
 dm : Nat
structure Po where
 most : Nat
 frs : List Fr
 wl : List ME
 wc : Nat
 dl : List ME
 dc : Nat
 hand : Nat
def frP (x : Fr) : Value := pv x.b
def poV (d l : Nat) (M : PM) (P : Po) : List Value := [dv d, pv l, .int .i64 P.most, bufV M.fa P.frs.length M.fk, .map (some M.wm), .map (some M.dm), .int .i64 P.hand]
def poB (q d l : Nat) (M : PM) (P : Po) : Asrt := blk q 55 (poV d l M P)
def poR (M : PM) (P : Po) : List Asrt := [bufA 103 1 M.fa P.frs.length M.fk (P.frs.map frP), mapA M.wm .u32 P.wl P.wc, mapA M.dm .u32 P.dl P.dc, all (P.frs.map frA)]
def poA (q d l : Nat) (W : LM) (L : Lg) (MD : DM) (D : Dk) (M : PM) (P : Po) : List Asrt := poB q d l M P :: (lgA l d W L ++ dkA d MD D ++ poR M P)
structure PoOk (P : Po) : Prop where
 most : 8 ≤ P.most ∧ P.most ≤ 256
 len : P.frs.length ≤ P.most
 hand : P.hand < P.most
 fr : ∀ x ∈ P.frs, FrOk x
 nd : (P.frs.map (·.n)).Nodup
 wk : MapOk P.wl P.wc
 wh : ∀ x ∈ P.frs, K.look P.wl x.n = some (frP x)
 wn : ∀ a : Nat, (∀ x ∈ P.frs, x.n ≠ a) → K.look P.wl a = none
 dk : MapOk P.dl P.dc
def pagesQ (L : Lg) (D : Dk) : Int := (D.kept.length : Int) - 1 - L.m.n
theorem QPages (h : Base) (q d l : Nat) (W : LM) (L : Lg) (MD : DM) (D : Dk) (M : PM) (P : Po) (hd : D.kept.length ≤ 8192) (hl : L.m.n ≤ 8192) :
  TrV Tryz.prog 16 [pv q] h (poB q d l M P :: (lgA l d W L ++ dkA d MD D)) (.int .i64 (pagesQ L D)) (poB q d l M P :: (lgA l d W L ++ dkA d MD D)) := by
 have h1 := Sectors h d MD D
 have h2 := LSectors h l d W L
 refine K.en Tryz.func16 fun F => ?_
 unfold pagesQ poB poV lgA dkA at *
 simp only [Go.K.cna] at *
 (repeat' first | refine X.rq ?_ | refine X.rc ?_ ?_ <;> intro hc <;> try omega)
 refine X.drawN ([blk q 55 [dv d, pv l, .int .i64 P.most, bufV M.fa P.frs.length M.fk, .map (some M.wm), .map (some M.dm), .int .i64 P.hand]]) [] (.pu 0 (.pu 1 (.pu 2 (.pu 6 (.pu 7 (.pu 8 (.st 3 (.st 9 (.on 4 (.pu 5 (.on 10 (.pu 11 (.pu 12 .nil))))))))))))) ?_
 refine X.u_mv ?_
 refine X.u_nc ?_
 refine X.u_fa ?_
 refine X.u_mv ?_
 refine X.u_nc ?_
 refine X.u_fa ?_
 refine X.s_ld ?_
 refine X.s_ld ?_
 refine K.d_on rfl (fun KK hKK => ?_)
 refine K.l_callV (Fx.cal rfl) rfl h1 (K.pp [4, 4, 4] rfl) rfl rfl ?_
 simp only [Go.K.cna]
 refine K.l_nil ?_
 refine X.onE hKK ?_
 refine X.u_bsub ?_
 refine K.d_on rfl (fun KK hKK => ?_)
 refine K.l_callV (Fx.cal rfl) rfl h2 (K.pp [4, 4, 4] rfl) rfl rfl ?_
 simp only [Go.K.cna]
 refine K.l_nil ?_
 refine X.onE hKK ?_
 refine X.u_bsub ?_
 refine X.u_sg ?_
 refine K.d_nil ?_
 (repeat' first | refine X.rq ?_ | refine X.rc ?_ ?_ <;> intro hc <;> try omega)
 refine K.AT.perm (K.pp [6, 0, 0, 0, 0, 0, 0] rfl) ?_
 refine K.dl rfl (H' := [_, _, _, _, _, _, _]) rfl ⟨rfl, rfl, rfl⟩
theorem QHas (h : Base) (q d l : Nat) (W : LM) (L : Lg) (MD : DM) (D : Dk) (M : PM) (P : Po) (n : Nat) (hd : D.kept.length ≤ 8192) (hl : L.m.n ≤ 8192) (hp : 0 ≤ pagesQ L D) (hn : n < 4294967296) :
  TrV Tryz.prog 34 [pv q, .int .u32 n] h (poB q d l M P :: (lgA l d W L ++ dkA d MD D)) (.bool (decide (1 ≤ n ∧ (n : Int) ≤ pagesQ L D))) (poB q d l M P :: (lgA l d W L ++ dkA d MD D)) := by
 have h1 := QPages h q d l W L MD D M P hd hl
 have hp2 : pagesQ L D ≤ 8192 := by unfold pagesQ; omega
 generalize pagesQ L D = pq at h1 hp hp2 ⊢
 refine K.en Tryz.func34 fun F => ?_
 simp only [List.cons_append, List.nil_append, List.append_assoc] at *
 by_cases hn1 : 1 ≤ n
 ·(repeat' first | refine X.rq ?_ | refine X.rc ?_ ?_ <;> intro hc <;> try omega)
  refine K.l_callV (Fx.cal rfl) rfl h1 (K.pp [0, 0, 0, 0, 0, 0, 0] rfl) rfl rfl ?_
  (repeat' first | refine X.rq ?_ | refine X.rc ?_ ?_ <;> intro hc <;> try omega)
  refine K.dl rfl (H' := [_, _, _, _, _, _, _]) rfl ⟨?_, rfl, rfl⟩
  show Value.bool _ = Value.bool _
  congr 1
  exact decide_eq_decide.2 (by omega)
 ·(repeat' first | refine X.rq ?_ | refine X.rc ?_ ?_ <;> intro hc <;> try omega)
  refine K.dl rfl (H' := [_, _, _, _, _, _, _]) rfl ⟨?_, rfl, rfl⟩
  show Value.bool _ = Value.bool _
  congr 1
  exact (decide_eq_false (by omega)).symm
theorem QAt (h : Base) (q d l : Nat) (W : LM) (L : Lg) (M : PM) (P : Po) (n : Nat) (hl : L.m.n ≤ 8192) (hn : n < 4294967296) :
  TrV Tryz.prog 37 [pv q, .int .u32 n] h (poB q d l M P :: lgA l d W L) (.int .i64 ((L.m.n + n : Nat) : Int)) (poB q d l M P :: lgA l d W L) := by
 have h2 := LSectors h l d W L
 refine K.en Tryz.func37 fun F => ?_
 unfold poB poV lgA at *
 simp only [Go.K.cna] at *
 rw [Int.natCast_add]
 (repeat' first | refine X.rq ?_ | refine X.rc ?_ ?_ <;> intro hc <;> try omega)
 refine K.l_callV (Fx.cal rfl) rfl h2 (K.pp [1, 1, 1] rfl) rfl rfl ?_
 simp only [Go.K.cna]
 (repeat' first | refine X.rq ?_ | refine X.rc ?_ ?_ <;> intro hc <;> try omega)
 refine K.AT.perm (K.pp [3, 0, 0, 0] rfl) ?_
 refine K.dl rfl (H' := [_, _, _, _]) rfl ⟨rfl, rfl, rfl⟩
/-! ### New -/
def newPo (most : Nat) : Po := ⟨most, [], [], 0, [], 0, 0⟩
theorem newPoOk {m : Nat} (h1 : 8 ≤ m) (h2 : m ≤ 256) : PoOk (newPo m) := ⟨⟨h1, h2⟩, Nat.zero_le _, (by show 0 < m; omega), (fun x hx => by cases hx), List.nodup_nil, MapOk.nil, (fun x hx => by cases hx), (fun a _ => rfl), MapOk.nil⟩
theorem QNew (h : Base) (d l : Nat) (W : LM) (L : Lg) (MD : DM) (D : Dk) (m : Int) (hd : D.kept.length ≤ 8192) (hl : L.m.n ≤ 8192) (hl1 : 1 ≤ L.m.n) :
  Tr Tryz.prog 22 [dv d, pv l, .int .i64 m] h (lgA l d W L ++ dkA d MD D) (fun u h' H' => h' = h ∧ ((8 ≤ m ∧ m ≤ 256 ∧ 1 ≤ pagesQ L D ∧ ∃ q M, u = .tuple #[pv q, .int .i64 0] ∧ H' = poA q d l W L MD D M (newPo m.toNat)) ∨
   (¬ (8 ≤ m ∧ m ≤ 256 ∧ 1 ≤ pagesQ L D) ∧ u = .tuple #[.pointer none, .int .i64 1] ∧ H' = lgA l d W L ++ dkA d MD D))) := by
 have h1 := Sectors h d MD D
 have h2 := LSectors h l d W L
 refine K.en Tryz.func22 fun F => ?_
 unfold pagesQ at *
 by_cases hm : 8 ≤ m ∧ m ≤ 256
 ·obtain ⟨k, rfl⟩ : ∃ k : Nat, m = (k : Int) := ⟨m.toNat, by omega⟩
  (repeat' first | refine X.rq ?_ | refine X.rc ?_ ?_ <;> intro hc <;> try omega)
  all_goals try (exfalso; omega)
  refine K.l_callV (Fx.cal rfl) rfl h2 (K.pp [0, 0, 0] rfl) rfl rfl ?_
  unfold lgA dkA at *
  simp only [Go.K.cna] at *
  (repeat' first | refine X.rq ?_ | refine X.rc ?_ ?_ <;> intro hc <;> try omega)
  all_goals try (exfalso; omega)
  refine K.l_callV (Fx.cal rfl) rfl h1 (K.pp [3, 3, 3] rfl) rfl rfl ?_
  simp only [Go.K.cna]
  (repeat' first | refine X.rq ?_ | refine X.rc ?_ ?_ <;> intro hc <;> try omega)
  all_goals try (exfalso; omega)
  refine K.l_callV (Fx.cal rfl) rfl h2 (K.pp [3, 3, 3] rfl) rfl rfl ?_
  simp only [Go.K.cna]
  by_cases hp : 1 ≤ (D.kept.length : Int) - 1 - L.m.n
  ·(repeat' first | refine X.rq ?_ | refine X.rc ?_ ?_ <;> intro hc <;> try omega)
   all_goals try (exfalso; omega)
   refine K.l_makeMap (kk := .u32) rfl (fun wm => ?_)
   refine K.l_makeMap (kk := .u32) rfl (fun dm => ?_)
   (repeat' first | refine X.rq ?_ | refine X.rc ?_ ?_ <;> intro hc <;> try omega)
   refine K.l_box rfl rfl rfl (fun q => ?_)
   (repeat' first | refine X.rq ?_ | refine X.rc ?_ ?_ <;> intro hc <;> try omega)
   refine K.AT.nilBuf 103 1 ?_
   refine Pg.AT.allNil ?_
   refine K.AT.perm (K.pp [2, 4, 4, 4, 4, 4, 4, 1, 2, 1, 0] rfl) ?_
   refine K.dl rfl (H' := [_, _, _, _, _, _, _, _, _, _, _]) rfl ⟨rfl, .inl ⟨by omega, by omega, hp, q, ⟨none, 0, wm, dm⟩, rfl, rfl⟩⟩
  ·(repeat' first | refine X.rq ?_ | refine X.rc ?_ ?_ <;> intro hc <;> try omega)
   all_goals try (exfalso; omega)
   refine K.dl rfl (H' := [_, _, _, _, _, _]) rfl ⟨rfl, .inr ⟨fun h => hp h.2.2, rfl, rfl⟩⟩
 ·(repeat' first | refine X.rq ?_ | refine X.rc ?_ ?_ <;> intro hc <;> try omega)
  all_goals try (exfalso; omega)
  all_goals
   unfold lgA dkA
   refine K.dl rfl (H' := [_, _, _, _, _, _]) rfl ⟨rfl, .inr ⟨fun h => hm ⟨h.1, h.2.1⟩, rfl, rfl⟩⟩
end Go.Proofs.YtijbhgiigddjdaaGreat.Pl
end

section
namespace Go.Proofs.YtijbhgiigddjdaaGreat.Wl
open Go.K Cc

theorem StrSlice {n : NN} {E : Env} {h : Base} {W : LM} {l : List UInt8} {t ty : TypeId} {ps : String} {af : Array Edge} {dst : Option Nat} {x y : Operand} {f : Nat} (hs : StrOk h W l) (hu : Tryz.prog.underlying t = some (.slice 5)) (hx : lkO E x = some W.sv) (hy : lkO E y = some (.int .i64 f)) (hf : f ≤ l.length) :
  ∃ ao c, (∀ KK, W.sA ∈ KK → Pu Tryz.prog n E h KK ⟨dst, .slice t x (some y) none none, ty, ps, af, none⟩ (.slice ao (l.length - f) c)) ∧ ∀ KK, W.sA ∈ KK → ∀ k, k ≤ l.length - f → Src Tryz.prog h KK 1 (.slice ao k c) k (((l.drop f).take k).map u8) := by
 rcases hs with ⟨a, cap, e1, e2⟩ | ⟨ao, e1, hb, e2⟩
 ·refine ⟨if cap = f then a.map (fun b => ⟨b, 0, none⟩) else a.map (fun b => ⟨b, f, none⟩), cap - f, fun KK hK => ⟨fun ac w fa hsat => ?_⟩, fun KK hK k hk => ?_⟩
  ·have hown := hsat.own _ hK
   rw [e2] at hown
   rw [e1] at hx
   cases a with
   | none =>
    obtain ⟨h1, h2, h3⟩ := hown
    subst h2
    obtain rfl : f = 0 := by omega
    have hx0 : lkO E x = some (.slice none 0 0) := by rw [hx, bufV, h1]; rfl
    have := (K.p_slice0 (P := Tryz.prog) (h := h) (K := KK) (n := n) (t := t) (dst := dst) (ty := ty) (ps := ps) (af := af) (g := none) (lo := some y) (hi := none) (k1 := .i64) (k2 := .i64) hu ((Fx.sz rfl) : szOf Tryz.prog 5 = some 1) hx0 hy trivial).run ac w fa hsat
    rw [this]
    simp [h1]
   | some b =>
    obtain ⟨sp, fz, g1, g2, g3, g4, g5, g6⟩ := hown
    have := (K.p_slice (P := Tryz.prog) (h := h) (K := KK) (n := n) (t := t) (dst := dst) (ty := ty) (ps := ps) (af := af) (g := none) (lo := some y) (hi := none) (k1 := .i64) (k2 := .i64) (l := f) (u := l.length) (ao := if cap = f then some ⟨b, 0, none⟩ else some ⟨b, 0 + f * 1, none⟩) hu ((Fx.sz rfl) : szOf Tryz.prog 5 = some 1) hx ⟨_, hy, rfl⟩ rfl hf g4 rfl).run ac w fa hsat
    rw [this]
    simp
  ·have hlk : ((l.drop f).take k).length = k := by rw [List.length_take, List.length_drop]; omega
   refine ⟨fun w => by simp [Builtin.lenOf], by rw [List.length_map, hlk, Nat.mul_one], fun u hu => by obtain ⟨c, _, rfl⟩ := List.mem_map.1 hu; rfl, fun w hsat => ?_⟩
   have hown := hsat.own _ hK
   rw [e2] at hown
   cases a with
   | none =>
    obtain ⟨h1, h2, h3⟩ := hown
    obtain rfl : k = 0 := by omega
    simp [Builtin.firstCells]
   | some b =>
    obtain ⟨sp, fz, g1, g2, g3, g4, g5, g6⟩ := hown
    by_cases hcf : cap = f
    ·obtain rfl : k = 0 := by omega
     simp [Builtin.firstCells, hcf, loadCells, loadCellsFrom]
    ·rw [if_neg hcf]
     have hl : (loadCells ⟨b, f, none⟩ (((l.drop f).take k).map u8).length).run Tryz.prog w = .ok (((l.drop f).take k).map u8).toArray w := run_loadCells_list w _ _ fun j u hj => by
      rw [add_none]
      simp only [World.cell?, g1]
      rw [List.getElem?_map] at hj
      obtain ⟨c, hc, rfl⟩ := Option.map_eq_some_iff.1 hj
      rw [List.getElem?_take] at hc
      split at hc
      ·rw [List.getElem?_drop] at hc
       have hlt := (List.getElem?_eq_some_iff.1 hc).1
       simp [List.getElem?_append_left (show f + j < (l.map u8).length by simpa using hlt), hc]
      ·cases hc
     rw [List.length_map, hlk] at hl
     simp [Builtin.firstCells, hl]
 ·rw [e1] at hx hb
  by_cases h0 : l.length = 0
  ·have hl0 : l = [] := List.eq_nil_of_length_eq_zero h0
   subst hl0
   obtain rfl : f = 0 := by simpa using hf
   obtain ⟨ao', hz⟩ := K.p_sliceZ (P := Tryz.prog) (h := h) (K := []) (n := n) (E := E) (t := t) (dst := dst) (ty := ty) (ps := ps) (af := af) (g := none) (lo := some y) (hi := none) (k1 := .i64) (k2 := .i64) hu ((Fx.sz rfl) : szOf Tryz.prog 5 = some 1) hx hy trivial
   refine ⟨ao', 0, fun KK hK => ⟨fun ac w fa hsat => hz.run ac w fa ⟨hsat.imm, fun A hA => by cases hA⟩⟩, fun KK hK k hk => ?_⟩
   obtain rfl : k = 0 := by simpa using hk
   exact src_empty
  ·obtain ⟨_, b, o, rfl, hc⟩ := BV.cels hb (by omega)
   refine ⟨if l.length = f then some ⟨b, o, none⟩ else some ⟨b, o + f * 1, none⟩, l.length - f, fun KK hK => K.p_slice (lo := some y) (hi := none) (k1 := .i64) (k2 := .i64) (l := f) (u := l.length) hu ((Fx.sz rfl) : szOf Tryz.prog 5 = some 1) hx ⟨_, hy, rfl⟩ rfl hf (Nat.le_refl _) rfl, fun KK hK k hk => ?_⟩
   by_cases hcf : l.length = f
   ·obtain rfl : k = 0 := by omega
    exact src_empty
   ·rw [if_neg hcf]
    have e : l.map u8 = (l.take f).map u8 ++ (((l.drop f).take k).map u8 ++ ((l.drop f).drop k).map u8) := by
     rw [← List.map_append, ← List.map_append, List.take_append_drop, List.take_append_drop]
    rw [e] at hc
    have h2 := (Cels.append.1 (Cels.append.1 hc).2).1
    rw [List.length_map, List.length_take, Nat.min_eq_left hf] at h2
    rw [Nat.mul_one]
    exact K.src_cells (Cels.up h2) (by rw [List.length_map, List.length_take, List.length_drop]; omega) (fun u hu => by obtain ⟨c, _, rfl⟩ := List.mem_map.1 hu; rfl)
theorem StrSliceE {n : NN} {E : Env} {h : Base} {KK : List Asrt} {W : LM} {l : List UInt8} {t ty : TypeId} {ps : String} {af : Array Edge} {dst : Option Nat} {x y : Operand} {f : Nat} (hs : StrOk h W l) (hK : W.sA ∈ KK) (hu : Tryz.prog.underlying t = some (.slice 5)) (hx : lkO E x = some W.sv) (hy : lkO E y = some (.int .i64 f)) (hf : f ≤ l.length) :
  ∃ v, Pu Tryz.prog n E h KK ⟨dst, .slice t x (some y) none none, ty, ps, af, none⟩ v ∧ ∃ ao c, v = .slice ao (l.length - f) c ∧ ∀ KK, W.sA ∈ KK → ∀ k, k ≤ l.length - f → Src Tryz.prog h KK 1 (.slice ao k c) k (((l.drop f).take k).map u8) := by
 obtain ⟨ao, c, h1, h2⟩ := StrSlice (n := n) (E := E) (ty := ty) (ps := ps) (af := af) (dst := dst) hs hu hx hy hf
 exact ⟨_, h1 KK hK, ao, c, rfl, h2⟩
def partB (l : List UInt8) (i : Nat) : List UInt8 := (l.drop (i * 510)).take 510
def secB (l : List UInt8) (i : Nat) : Sec := padS (lebs (partB l i).length 2 ++ partB l i)
theorem part_le (l : List UInt8) (i : Nat) : (partB l i).length ≤ 510 := by unfold partB; rw [List.length_take]; omega
theorem sec_len (l : List UInt8) (i : Nat) : (secB l i).length = 512 := pad_len (by have := part_le l i; rw [List.length_append, lebs_length]; omega)
theorem part_min (l : List UInt8) (i : Nat) : (l.drop (min (i * 510) l.length)).take (min (l.length - min (i * 510) l.length) 510) = partB l i := by
 unfold partB
 by_cases h : i * 510 ≤ l.length
 ·have e : min (i * 510) l.length = i * 510 := by omega
  rw [e]
  by_cases h2 : l.length - i * 510 ≤ 510
  ·have e2 : min (l.length - i * 510) 510 = l.length - i * 510 := by omega
   rw [e2, List.take_of_length_le (by rw [List.length_drop]; omega), List.take_of_length_le (by rw [List.length_drop]; omega)]
  ·have e2 : min (l.length - i * 510) 510 = 510 := by omega
   rw [e2]
 ·have e : min (i * 510) l.length = l.length := by omega
  rw [e, List.drop_of_length_le (Nat.le_refl _), List.drop_of_length_le (by omega)]
  simp
theorem nul_three {k : Nat} (h : k ≤ 510) : nul 512 = nul 2 ++ nul k ++ nul (510 - k) := by
 unfold nul
 rw [List.replicate_append_replicate, List.replicate_append_replicate]
 congr 1
 omega
theorem Sector (h : Base) (p d : Nat) (W : LM) (L : Lg) (i : Nat) (hi : i ≤ 100000) (hsl : L.stream.length ≤ 100000000) (hs : StrOk h W L.stream) :
  Tr Tryz.prog 97 [pv p, .int .i64 i] h (lgA p d W L) (fun v h' H' => H' = lgA p d W L ∧ ∃ ao ca, v = .slice ao 512 ca ∧ BV h' (.slice ao 512 ca) (secB L.stream i)) := by
 have hs0 := hs
 obtain ⟨so, sc, hsv⟩ := hs.len
 refine K.en Tryz.func97 fun F => ?_
 unfold lgA lgV n64
 rw [hsv]
 simp only [Go.K.cna]
 (repeat' first | refine X.rq ?_ | refine X.rc ?_ ?_ <;> intro hc <;> try omega)
 refine K.l_alloc zrS rfl rfl (fun B5 => ?_)
 (repeat' first | refine X.rq ?_ | refine X.rc ?_ ?_ <;> intro hc <;> try omega)
 obtain ⟨f, hf⟩ : ∃ f, f = min (i * 510) L.stream.length := ⟨_, rfl⟩
 have hfl : f ≤ L.stream.length := by omega
 have hpm := part_min L.stream i
 rw [← hf] at hpm
 rw [show min ((i : Int) * 510) (L.stream.length : Int) = (f : Int) by omega]
 obtain ⟨k, hk⟩ : ∃ k, k = min (L.stream.length - f) 510 := ⟨_, rfl⟩
 have hk1 : k ≤ 510 := by omega
 have hpl : (partB L.stream i).length = k := by rw [← hpm, List.length_take, List.length_drop]; omega
 rw [← hk] at hpm
 rw [nul_three hk1]
 refine X.drawN ([blk p 138 [dv d, .int .i64 L.m.n, .int .u64 (L.m.base : Int), .int .u64 (L.m.check : Int), .int .u32 L.m.kept, .bool L.m.wiped, .slice so L.stream.length sc, bufV W.ar L.starts.length W.kr, .int .u64 (L.durable : Int)], W.sA]) [] (.pu 0 (.pu 1 (.pu 2 (.pu 3 (.pu 5 (.st 4 (.st 6 (.on 7 (.pu 8 .nil))))))))) ?_
 refine K.d_pu rfl (fun _ _ => K.p_sliceFrom (l := 2) (Fx.und rfl) (Fx.sz rfl) rfl rfl (by decide)) rfl ?_
 refine X.u_mv ?_
 refine X.u_nc ?_
 refine X.u_fa ?_
 refine X.u_mv ?_
 refine X.s_ld ?_
 refine K.d_stE rfl (StrSliceE hs0 (List.mem_cons_of_mem _ (List.mem_cons_self ..)) (Fx.und rfl) (by rw [hsv]; rfl) rfl hfl) rfl ?_
 rintro v6 ⟨ao, cc, rfl, hsrc⟩
 refine K.d_on rfl (fun KK hKK => ?_)
 refine K.l_copy (k := k) (xs := (partB L.stream i).map u8) (pre := nul 2) (cs := nul k) (post := nul (510 - k)) (Fx.und rfl) (Fx.sz rfl) rfl rfl (show Nat.min (L.stream.length - f) 510 = k from hk.symm) (hpm ▸ hsrc _ (by simp) k (by omega)) (by rw [List.length_map, hpl, nul_len]) (nul_len 2) (fun o ho => by rw [List.length_map, hpl] at ho; exact K.Free.zero _ o (by omega)) rfl ?_
 refine K.l_nil ?_
 refine X.onE hKK ?_
 refine X.u_sg ?_
 refine K.d_nil ?_
 rw [show nul 2 = [.int .u8 0, .int .u8 0] from rfl]
 simp only [Go.K.nmz]
 (repeat' first | refine X.rq ?_ | refine X.rc ?_ ?_ <;> intro hc <;> try omega)
 refine X.sto ?_
 simp only [Go.K.nmz]
 (repeat' first | refine X.rq ?_ | refine X.rc ?_ ?_ <;> intro hc <;> try omega)
 refine X.sto ?_
 simp only [Go.K.nmz]
 (repeat' first | refine X.rq ?_ | refine X.rc ?_ ?_ <;> intro hc <;> try omega)
 have ec : ((((Value.int .u8 0 :: .int .u8 0 :: ((partB L.stream i).map u8 ++ nul (510 - k))).set (0 + Int.toNat 0 * 1) (.int .u8 (IntKind.u8.wrap (k : Int)))).set (0 + Int.toNat 1 * 1) (.int .u8 (IntKind.u8.wrap ((k : Int).fdiv (2 ^ min (Int.toNat 8) IntKind.i64.bits)))))) = (secB L.stream i).map u8 := by
  show Value.int .u8 (IntKind.u8.wrap (k : Int)) :: .int .u8 (IntKind.u8.wrap ((k : Int).fdiv (2 ^ min (Int.toNat 8) IntKind.i64.bits))) :: ((partB L.stream i).map u8 ++ nul (510 - k)) = _
  have e8 : (k : Int).fdiv (2 ^ min (Int.toNat 8) IntKind.i64.bits) = ((k / 256 : Nat) : Int) := by
   rw [show (2 : Int) ^ min (Int.toNat 8) IntKind.i64.bits = 256 from rfl, Int.fdiv_eq_ediv_of_nonneg _ (by decide)]
   omega
  have hll : (lebs k 2 ++ partB L.stream i).length = 2 + k := by rw [List.length_append, lebs_length, hpl]
  unfold secB padS
  rw [hpl, hll, e8, wn8, wn8, List.map_append, List.map_append, List.map_replicate, show 512 - (2 + k) = 510 - k by omega]
  have el : (lebs k 2).map u8 = [.int .u8 ((k % 256 : Nat) : Int), .int .u8 ((k / 256 % 256 : Nat) : Int)] := by
   simp [lebs, u8]
  rw [el]
  rfl
 rw [ec]
 refine K.s_pure (K.p_sliceAll (Fx.und rfl) (Fx.sz rfl) rfl) rfl ?_
 have ml := sec_len L.stream i
 refine K.WL.bufOf (m := 512) (s := 1) (by rw [List.length_map, ml]) (by unfold maxLen; omega) ?_
 refine K.WL.freezeBufN (l := secB L.stream i) ml.symm (fun h2 le2 hbv => ?_)
 (repeat' first | refine X.rq ?_ | refine X.rc ?_ ?_ <;> intro hc <;> try omega)
 exact K.dn (vs := [.slice (some ⟨B5, 0, none⟩) 512 512]) rfl le2 (H' := [_, _, _]) rfl ⟨rfl, _, _, rfl, hbv⟩
end Go.Proofs.YtijbhgiigddjdaaGreat.Wl
end
