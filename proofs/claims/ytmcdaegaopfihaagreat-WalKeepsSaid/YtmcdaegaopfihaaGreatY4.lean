/-
  Texts joined: Fa Fb Fe. Conditions: each theorem's own.
-/
import Derived.Test.YtmcdaegaopfihaaGreatY3
import Derived.Test.YtmcdaegaopfihaaGreatY1
section
namespace Go.Proofs.YtmcdaegaopfihaaGreat.Pg
open Go Go.K Go.Proofs Go.Proofs.YtmcdaegaopfihaaGreat
set_option linter.unusedVariables false
set_option linter.unusedSimpArgs false
set_option maxRecDepth 10000

def stepQ (s : Nat) : Nat := if s % 2 = 1 then (s / 2) ^^^ 2197175160 else s / 2
def stepsQ : Nat → Nat → Nat
 | 0, s => s
 | k + 1, s => stepQ (stepsQ k s)
def byteQ (s : Nat) (c : UInt8) : Nat := stepsQ 8 (s ^^^ c.toNat)
def sumQ (s : Nat) (l : List UInt8) : Nat := (l.foldl byteQ (s ^^^ 4294967295)) ^^^ 4294967295
end Go.Proofs.YtmcdaegaopfihaaGreat.Pg
end

section
namespace Go.Proofs.YtmcdaegaopfihaaGreat.Pg
open Go Go.K Go.Proofs Go.Proofs.YtmcdaegaopfihaaGreat
set_option linter.unusedVariables false
set_option linter.unusedSimpArgs false
set_option maxRecDepth 10000

structure PCell where
 used : Bool
 killer : Nat
 data : List UInt8
 deriving DecidableEq
structure Pag where
 kind : Int
 lsn : Nat
 next : Nat
 cells : List PCell
 deriving DecidableEq
def in64 (z : Int) : Prop := -9223372036854775808 ≤ z ∧ z ≤ 9223372036854775807
instance (z : Int) : Decidable (in64 z) := by unfold in64; infer_instance
def CellC (h : Base) (c : List Value) (x : PCell) : Prop := x.killer < 4294967296 ∧ x.data.length ≤ 9223372036854775807 ∧ ∃ ao ca, c = [.bool x.used, .int .u32 x.killer, .slice ao x.data.length ca] ∧ BV h (.slice ao x.data.length ca) x.data
def CellsV (h : Base) (cv : Value) (l : List PCell) : Prop := ∃ es, SL h 3 cv es ∧ es.length = l.length ∧ ∀ (j : Nat) c x, es[j]? = some c → l[j]? = some x → CellC h c x
def cP (p : Pag) (cv : Value) : List Value := [.int .i64 p.kind, .int .u64 p.lsn, .int .u32 p.next, cv]
structure wfP (p : Pag) : Prop where
 kind : in64 p.kind
 lsn : p.lsn < 18446744073709551616
 next : p.next < 4294967296
 len : p.cells.length ≤ 9223372036854775807
def PagC (h : Base) (cs : List Value) (p : Pag) : Prop := wfP p ∧ ∃ cv, cs = cP p cv ∧ CellsV h cv p.cells
theorem CellC.le {h h' : Base} (hle : h.le h') {c : List Value} {x : PCell} (hc : CellC h c x) : CellC h' c x := by
 obtain ⟨h1, h2, ao, ca, e, hb⟩ := hc
 exact ⟨h1, h2, ao, ca, e, hb.le hle⟩
theorem CellsV.le {h h' : Base} (hle : h.le h') {v : Value} {l : List PCell} (hc : CellsV h v l) : CellsV h' v l := by
 obtain ⟨es, h1, h2, h3⟩ := hc
 exact ⟨es, h1.le hle, h2, fun j c x a b => (h3 j c x a b).le hle⟩
theorem PagC.le {h h' : Base} (hle : h.le h') {cs : List Value} {p : Pag} (hc : PagC h cs p) : PagC h' cs p := by
 obtain ⟨h1, cv, e, h2⟩ := hc
 exact ⟨h1, cv, e, h2.le hle⟩
/-! ### Size -/
def sizeC (x : PCell) : Nat := if x.used then 6 + x.data.length else 2
def sizeS : List PCell → Nat
 | [] => 0
 | x :: r => sizeC x + sizeS r
def sizeQ (l : List PCell) : Nat := 18 + sizeS l
theorem sizeS_append : ∀ (a b : List PCell), sizeS (a ++ b) = sizeS a + sizeS b
 | [], b => by simp [sizeS]
 | x :: a, b => by rw [List.cons_append, sizeS, sizeS, sizeS_append a b]; omega
theorem sizeS_at {l : List PCell} {j : Nat} {x : PCell} (h : l[j]? = some x) : sizeS (l.take (j + 1)) = sizeS (l.take j) + sizeC x := by
 rw [List.take_add_one, h, sizeS_append]; simp [sizeS]
def small (l : List PCell) : Prop := l.length ≤ 400 ∧ ∀ x ∈ l, x.data.length ≤ 4000
theorem sizeS_le : ∀ {l : List PCell}, (∀ x ∈ l, x.data.length ≤ 4000) → sizeS l ≤ l.length * 4006
 | [], _ => by simp [sizeS]
 | x :: l, h => by
  have h1 := sizeS_le fun y hy => h y (List.mem_cons_of_mem _ hy)
  have h2 := h x (List.mem_cons_self ..)
  rw [sizeS, List.length_cons]
  have : sizeC x ≤ 4006 := by unfold sizeC; split <;> omega
  omega
theorem small_take {l : List PCell} (h : small l) (j : Nat) : sizeS (l.take j) ≤ 1602400 := by
 have h1 := sizeS_le (l := l.take j) fun x hx => h.2 x (List.mem_of_mem_take hx)
 have h2 := h.1
 have h3 : (l.take j).length ≤ l.length := by rw [List.length_take]; omega
 omega
theorem PSize (h : Base) (cs : List Value) (p : Pag) (hx : PagC h cs p) (hs : small p.cells) : TrV Tryz.prog 138 [.agg cs.toArray] h [] (.int .i64 (sizeQ p.cells)) [] := by
 obtain ⟨hw, cv, rfl, es, hv, hel, hr⟩ := hx
 obtain ⟨ao, ca, rfl⟩ := hv.len
 rw [hel] at hv ⊢
 generalize p.cells = l at hs hv hel hr ⊢
 refine K.enter Tryz.func138 rfl (Nat.le_of_ble_eq_true rfl) (fun F => ?_)
 (repeat' first | refine X.rq ?_ | refine X.rc ?_ ?_ <;> intro hc <;> try omega)
 refine K.l_box rfl rfl rfl (fun B => ?_)
 (repeat' first | refine X.rq ?_ | refine X.rc ?_ ?_ <;> intro hc <;> try omega)
 refine K.c_loop (σ := Nat) (fun j => [(3, .int .i64 (18 + sizeS (l.take j) : Nat)), (7, .slice ao l.length ca), (8, .int .i64 l.length), (9, .int .i64 j)]) (fun _ => h) (fun _ => blk B 86 (cP p (.slice ao l.length ca)) :: F) (fun j => j ≤ l.length) (fun j => l.length - j) 0 (Nat.zero_le _) (by repeat (first | exact K.Sub.nil _ | refine K.Sub.cons rfl ?_)) rfl rfl ?_
 rintro j hj KL hKL
 have hl400 := hs.1
 have hb0 := small_take hs j
 by_cases hjl : j < l.length
 ·have hc1 : es[j]? = some (es[j]'(by omega)) := List.getElem?_eq_getElem (by omega)
  have hc0 : es[((j : Nat) : Int).toNat]? = some (es[j]'(by omega)) := by rw [Int.toNat_natCast]; exact hc1
  have he1 : l[j]? = some l[j] := List.getElem?_eq_getElem hjl
  generalize es[j]'(by omega) = c at hc0 hc1
  have hmem : l[j] ∈ l := List.getElem_mem hjl
  generalize l[j] = x at he1 hmem
  obtain ⟨hkl, hdl, ao3, ca3, rfl, hbv⟩ := hr j c x hc1 he1
  have hd4 := hs.2 x hmem
  have hat := sizeS_at he1
  generalize sizeS (l.take j) = sj at hb0 hat ⊢
  (repeat' first | refine X.rq ?_ | refine X.rc ?_ ?_ <;> intro hc <;> try omega)
  refine K.s_pureE (K.p_indexL hv (Fx.und rfl) (Fx.sz rfl) rfl rfl (by omega) hc0) rfl ?_
  rintro v2 ⟨b, o, rfl, hcel⟩
  refine K.s_pure (K.p_loadM (Fx.agg rfl) rfl (Cels.up hcel) (Fx.sz rfl) rfl) rfl ?_
  refine K.l_alloc (Fx.zr rfl) rfl rfl (fun B => ?_)
  refine X.stw ?_
  (repeat' first | refine X.rq ?_ | refine X.rc ?_ ?_ <;> intro hc <;> try omega)
  ·refine K.AT.drop ?_
   refine K.a_round hKL (j + 1) (by omega) ?_ rfl rfl (by omega)
   rw [hat, sizeC, if_pos (by assumption), show (18 + (sj + (6 + x.data.length)) : Nat) = ((18 + sj : Nat) : Int) + 2 + (4 + (x.data.length : Int)) by omega]
   exact (by repeat (first | exact K.Sub.nil _ | refine K.Sub.cons rfl ?_))
  ·refine K.AT.drop ?_
   refine K.a_round hKL (j + 1) (by omega) ?_ rfl rfl (by omega)
   rw [hat, sizeC, if_neg (by rw [hc]; decide), show (18 + (sj + 2) : Nat) = ((18 + sj : Nat) : Int) + 2 by omega]
   exact (by repeat (first | exact K.Sub.nil _ | refine K.Sub.cons rfl ?_))
 ·obtain rfl : j = l.length := by omega
  rw [List.take_length]
  (repeat' first | refine X.rq ?_ | refine X.rc ?_ ?_ <;> intro hc <;> try omega)
  refine K.AT.drop ?_
  refine K.done (by first | exact Or.inl rfl | exact Or.inr rfl) rfl (by first | exact K.Base.le.refl _ | assumption) (H' := []) rfl ⟨rfl, rfl, rfl⟩
end Go.Proofs.YtmcdaegaopfihaaGreat.Pg
end

section
namespace Go.Proofs.YtmcdaegaopfihaaGreat.Pg
open Go Go.K Go.Proofs Go.Proofs.YtmcdaegaopfihaaGreat
set_option linter.unusedVariables false
set_option linter.unusedSimpArgs false
set_option maxRecDepth 10000

structure POp where
 kind : Int
 slot : Int
 txn : Nat
 data : List UInt8
 deriving DecidableEq
def cO (o : POp) (dv : Value) : List Value := [.int .i64 o.kind, .int .i64 o.slot, .int .u32 o.txn, dv]
structure wfO (o : POp) : Prop where
 kind : in64 o.kind
 slot : in64 o.slot
 txn : o.txn < 4294967296
 len : o.data.length ≤ 9223372036854775807
def OpC (h : Base) (cs : List Value) (o : POp) : Prop := wfO o ∧ ∃ ao ca, cs = cO o (.slice ao o.data.length ca) ∧ BV h (.slice ao o.data.length ca) o.data
def rightP (k : Int) (o : POp) : Prop := (k = 1 ∨ k = 2) ∧ (1 ≤ o.kind ∧ o.kind ≤ 4) ∧ (o.kind = 2 ↔ o.txn ≠ 0) ∧ (k = 2 → o.slot = 0) ∧ (k = 1 ∧ o.kind ≠ 1 → o.data.length = 0) ∧ (¬ (k = 1 ∧ o.kind ≠ 1) → 1 ≤ o.data.length ∧ o.data.length ≤ 180)
instance (k : Int) (o : POp) : Decidable (rightP k o) := by unfold rightP; infer_instance
theorem ORight (h : Base) (k : Int) (cs : List Value) (o : POp) (hx : OpC h cs o) : TrV Tryz.prog 132 [.int .i64 k, .agg cs.toArray] h [] (.bool (decide (rightP k o))) [] := by
 obtain ⟨⟨hk, hs, ht, hl⟩, ao, ca, rfl, hb⟩ := hx
 have hrp : ∀ _ : Unit, rightP k o ↔ (k = 1 ∨ k = 2) ∧ (1 ≤ o.kind ∧ o.kind ≤ 4) ∧ (o.kind = 2 ↔ o.txn ≠ 0) ∧ (k = 2 → o.slot = 0) ∧ (k = 1 ∧ o.kind ≠ 1 → o.data.length = 0) ∧ (¬ (k = 1 ∧ o.kind ≠ 1) → 1 ≤ o.data.length ∧ o.data.length ≤ 180) := fun _ => Iff.rfl
 refine K.enter Tryz.func132 rfl (Nat.le_of_ble_eq_true rfl) (fun F => ?_)
 (repeat' first | refine X.rq ?_ | refine X.rc ?_ ?_ <;> intro hc <;> try omega)
 refine K.l_box rfl rfl rfl (fun B => ?_)
 (repeat' first | refine X.rq ?_ | refine X.rc ?_ ?_ <;> intro hc <;> try omega)
 all_goals
  refine K.AT.drop ?_
  refine K.done (by first | exact Or.inl rfl | exact Or.inr rfl) rfl (by first | exact K.Base.le.refl _ | assumption) (H' := []) rfl ⟨?_, rfl, rfl⟩
  show Value.bool _ = Value.bool _
  congr 1
  rw [Bool.eq_iff_iff, (decide_eq_true_iff (p := rightP k o)).trans (hrp ())]
  clear hrp hb
  simp only [Bool.not_eq_true', Bool.not_eq_false', Bool.and_eq_true, Bool.and_eq_false_imp, beq_eq_false_iff_ne, beq_iff_eq, ne_eq, decide_eq_decide, decide_eq_true_eq, eq_self, true_iff, false_iff, iff_true, Bool.false_eq_true] at *
  omega
/-! ### Copies of bytes -/
def NewB (h0 : Base) (l : List UInt8) (v : Value) (h' : Base) (H' : List Asrt) : Prop := h' = h0 ∧ ∃ a cap, v = bufV a l.length cap ∧ H' = [bufA 5 1 a l.length cap (l.map u8)]
theorem Copy (h : Base) (v : Value) (l : List UInt8) (hv : BV h v l) (hl : l.length ≤ 140737488355328) : Tr Tryz.prog 101 [v] h [] (NewB h l) := by
 refine K.enter Tryz.func101 rfl (Nat.le_of_ble_eq_true rfl) (fun F => ?_)
 simp only [List.nil_append]
 (repeat' first | refine X.rq ?_ | refine X.rc ?_ ?_ <;> intro hc <;> try omega)
 refine K.l_buildSlice (Fx.und rfl) (Fx.sz rfl) rfl (Fx.zr rfl) rfl rfl rfl rfl rfl (fun B => ?_)
 refine K.WL.bufOf (m := 0) (s := 1) rfl (by unfold maxLen; omega) ?_
 (repeat' first | refine X.rq ?_ | refine X.rc ?_ ?_ <;> intro hc <;> try omega)
 refine K.l_append_at 0 rfl (Fx.und rfl) (Fx.und rfl) rfl (Fx.sz rfl) (Fx.zr rfl) rfl (Fx.byt rfl) rfl rfl hv.src (by omega) (by omega) rfl (fun a1 cap1 => ?_)
 simp only [Go.K.nmz]
 rw [Nat.zero_add]
 (repeat' first | refine X.rq ?_ | refine X.rc ?_ ?_ <;> intro hc <;> try omega)
 refine K.done (by first | exact Or.inl rfl | exact Or.inr rfl) rfl (by first | exact K.Base.le.refl _ | assumption) (H' := [bufA 5 1 a1 l.length cap1 (l.map u8)]) rfl ⟨rfl, a1, cap1, rfl, rfl⟩
theorem CopyOp (h : Base) (cs : List Value) (o : POp) (hx : OpC h cs o) (hl : o.data.length ≤ 140737488355328) : Tr Tryz.prog 80 [.agg cs.toArray] h [] (fun v h' H' => h' = h ∧ ∃ a cap, v = .agg (cO o (bufV a o.data.length cap)).toArray ∧ H' = [bufA 5 1 a o.data.length cap (o.data.map u8)]) := by
 obtain ⟨hw, ao, ca, rfl, hb⟩ := hx
 refine K.enter Tryz.func80 rfl (Nat.le_of_ble_eq_true rfl) (fun F => ?_)
 (repeat' first | refine X.rq ?_ | refine X.rc ?_ ?_ <;> intro hc <;> try omega)
 refine K.l_box rfl rfl rfl (fun B => ?_)
 refine K.l_alloc (Fx.zr rfl) rfl rfl (fun B => ?_)
 (repeat' first | refine X.rq ?_ | refine X.rc ?_ ?_ <;> intro hc <;> try omega)
 refine K.l_call (Fx.cal rfl) rfl (Copy h _ o.data hb hl) (K.pp [] rfl) rfl ?_
 rintro u h' H' - ⟨e, a, cap, rfl, rfl⟩
 obtain rfl := e.symm
 simp only [Go.K.nmz]
 (repeat' first | refine X.rq ?_ | refine X.rc ?_ ?_ <;> intro hc <;> try omega)
 refine X.sto ?_
 simp only [Go.K.nmz]
 (repeat' first | refine X.rq ?_ | refine X.rc ?_ ?_ <;> intro hc <;> try omega)
 refine X.stw ?_
 simp only [Go.K.nmz]
 (repeat' first | refine X.rq ?_ | refine X.rc ?_ ?_ <;> intro hc <;> try omega)
 refine K.AT.perm (K.pp [1, 1, 0] rfl) ?_
 simp only [Go.K.nmz]
 refine K.doneC (by first | exact Or.inl rfl | exact Or.inr rfl) (.cell rfl (Fx.agg rfl) (Fx.sz rfl) (by first | exact K.cels_own (pre := []) (post := []) 0 rfl rfl | exact K.cels_own (pre := []) (post := []) 1 rfl rfl | exact K.cels_own (pre := []) (post := []) 2 rfl rfl | exact K.cels_own (pre := []) (post := []) 3 rfl rfl | exact K.cels_own (pre := []) (post := []) 4 rfl rfl | exact K.cels_own (pre := []) (post := []) 5 rfl rfl) .nil) (by first | exact K.Base.le.refl _ | assumption) (D := [_, _]) (H' := [bufA 5 1 a o.data.length cap (o.data.map u8)]) rfl ⟨rfl, a, cap, rfl, rfl⟩
/-! ### What undoes one -/
def undoQ (k : Int) (o : POp) : POp × Int := if rightP k o ∧ o.kind ≤ 2 then (⟨if o.kind = 2 then 3 else 4, if k = 1 then o.slot else 0, 0, if k = 2 then o.data else []⟩, 0) else (⟨0, 0, 0, []⟩, 1)
def NewO (h0 : Base) (r : POp × Int) (v : Value) (h' : Base) (H' : List Asrt) : Prop := h' = h0 ∧ ∃ a cap, v = .tuple #[.agg (cO r.1 (bufV a r.1.data.length cap)).toArray, .int .i64 r.2] ∧ H' = [bufA 5 1 a r.1.data.length cap (r.1.data.map u8)]
end Go.Proofs.YtmcdaegaopfihaaGreat.Pg
end
