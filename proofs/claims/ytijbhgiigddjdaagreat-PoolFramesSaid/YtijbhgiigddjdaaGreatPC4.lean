/-
  Texts joined: Fa Fb Fe Rp. Conditions: each theorem's own.
-/
import Derived.Test.YtijbhgiigddjdaaGreatPC3
import Derived.Test.YtijbhgiigddjdaaGreatPC1
import Derived.Test.YtijbhgiigddjdaaGreatPC0
import Derived.SizedLaws
set_option linter.unusedVariables false
set_option linter.unusedSimpArgs false
set_option maxRecDepth 10000
set_option maxHeartbeats 16000000
section
namespace Go.Proofs.YtijbhgiigddjdaaGreat.Pg
open Go.K

theorem bits_and_u32 (a b : Nat) (ha : a < 4294967296) (hb : b < 4294967296) : bits .and .u32 (a : Int) (b : Int) = ((a &&& b : Nat) : Int) := by
 have hx : a &&& b < 2 ^ 32 := Nat.and_lt_two_pow _ (by omega)
 have h1 : (BitVec.ofInt 32 (a : Int)).toNat = a := by
  rw [BitVec.ofInt_natCast, BitVec.toNat_ofNat]; exact Nat.mod_eq_of_lt (by omega)
 have h2 : (BitVec.ofInt 32 (b : Int)).toNat = b := by
  rw [BitVec.ofInt_natCast, BitVec.toNat_ofNat]; exact Nat.mod_eq_of_lt (by omega)
 show IntKind.u32.wrap ((BitVec.ofInt 32 (a : Int) &&& BitVec.ofInt 32 (b : Int)).toNat : Int) = _
 rw [BitVec.toNat_and, h1, h2, K.wu32]
 omega
theorem bits_xor_u32 (a b : Nat) (ha : a < 4294967296) (hb : b < 4294967296) : bits .xor .u32 (a : Int) (b : Int) = ((a ^^^ b : Nat) : Int) := by
 have hx : a ^^^ b < 2 ^ 32 := Nat.xor_lt_two_pow (by omega) (by omega)
 have h1 : (BitVec.ofInt 32 (a : Int)).toNat = a := by
  rw [BitVec.ofInt_natCast, BitVec.toNat_ofNat]; exact Nat.mod_eq_of_lt (by omega)
 have h2 : (BitVec.ofInt 32 (b : Int)).toNat = b := by
  rw [BitVec.ofInt_natCast, BitVec.toNat_ofNat]; exact Nat.mod_eq_of_lt (by omega)
 show IntKind.u32.wrap ((BitVec.ofInt 32 (a : Int) ^^^ BitVec.ofInt 32 (b : Int)).toNat : Int) = _
 rw [BitVec.toNat_xor, h1, h2, K.wu32]
 omega
def stepQ (s : Nat) : Nat := if s % 2 = 1 then (s / 2) ^^^ 2197175160 else s / 2
def stepsQ : Nat → Nat → Nat
 | 0, s => s
 | k + 1, s => stepQ (stepsQ k s)
def byteQ (s : Nat) (c : UInt8) : Nat := stepsQ 8 (s ^^^ c.toNat)
def sumQ (s : Nat) (l : List UInt8) : Nat := (l.foldl byteQ (s ^^^ 4294967295)) ^^^ 4294967295
theorem xor_lt {a b : Nat} (ha : a < 4294967296) (hb : b < 4294967296) : a ^^^ b < 4294967296 := Nat.xor_lt_two_pow (n := 32) ha hb
theorem stepQ_lt {s : Nat} (h : s < 4294967296) : stepQ s < 4294967296 := by
 unfold stepQ
 split
 ·exact xor_lt (by omega) (by decide)
 ·omega
theorem stepsQ_lt {s : Nat} (h : s < 4294967296) : ∀ k, stepsQ k s < 4294967296
 | 0 => h
 | k + 1 => stepQ_lt (stepsQ_lt h k)
theorem byteQ_lt {s : Nat} (h : s < 4294967296) (c : UInt8) : byteQ s c < 4294967296 := stepsQ_lt (xor_lt h (by have := c.toNat_lt; omega)) 8
theorem foldQ_lt : ∀ (l : List UInt8) {s : Nat}, s < 4294967296 → l.foldl byteQ s < 4294967296
 | [], _, h => h
 | c :: l, _, h => foldQ_lt l (byteQ_lt h c)
theorem sumQ_lt {s : Nat} (h : s < 4294967296) (l : List UInt8) : sumQ s l < 4294967296 := xor_lt (foldQ_lt l (xor_lt h (by decide))) (by decide)
theorem fold_at {l : List UInt8} {j : Nat} {c : UInt8} (h : l[j]? = some c) (s : Nat) : (l.take (j + 1)).foldl byteQ s = byteQ ((l.take j).foldl byteQ s) c := by
 rw [List.take_add_one, h, List.foldl_append]; rfl
theorem and_one (s : Nat) : s &&& 1 = s % 2 := Nat.and_one_is_mod s
theorem step_code (s : Nat) (h : s < 4294967296) : bits .xor .u32 ((s : Int).fdiv (2 ^ (min (1 : Int).toNat IntKind.u32.bits))) (bits .and .u32 2197175160 (IntKind.u32.wrap (0 - bits .and .u32 (s : Int) 1))) = ((stepQ s : Nat) : Int) := by
 have e1 : (s : Int).fdiv (2 ^ (min (1 : Int).toNat IntKind.u32.bits)) = ((s / 2 : Nat) : Int) := by
  show (s : Int).fdiv 2 = _
  rw [Int.fdiv_eq_ediv_of_nonneg _ (by decide)]; omega
 have e2 : bits .and .u32 (s : Int) 1 = ((s % 2 : Nat) : Int) := by
  rw [show (1 : Int) = ((1 : Nat) : Int) from rfl, bits_and_u32 s 1 h (by decide), and_one]
 rw [e1, e2, K.wu32, show (2197175160 : Int) = ((2197175160 : Nat) : Int) from rfl]
 unfold stepQ
 by_cases hs : s % 2 = 1
 ·rw [if_pos hs, hs, show (0 - ((1 : Nat) : Int)) % 4294967296 = ((4294967295 : Nat) : Int) by decide, bits_and_u32 _ _ (by decide) (by decide), show 2197175160 &&& 4294967295 = 2197175160 by decide, bits_xor_u32 _ _ (by omega) (by decide)]
 ·have h0 : s % 2 = 0 := by omega
  rw [if_neg hs, h0, show (0 - ((0 : Nat) : Int)) % 4294967296 = ((0 : Nat) : Int) by decide, bits_and_u32 _ _ (by decide) (by decide), show 2197175160 &&& 0 = 0 by decide, bits_xor_u32 _ _ (by omega) (by decide), Nat.xor_zero]
theorem More (h : Base) (v : Value) (l : List UInt8) (s : Nat) (hv : BV h v l) (hs : s < 4294967296) (hl : l.length ≤ 9223372036854775807) : TrV Tryz.prog 111 [.int .u32 s, v] h [] (.int .u32 (sumQ s l)) [] := by
 obtain ⟨ao, ca, rfl⟩ := hv.len
 refine K.en Tryz.func111 fun F => ?_
 simp only [List.nil_append]
 (repeat' first | refine X.rq ?_ | refine X.rc ?_ ?_ <;> intro hc <;> try omega)
 refine K.s_pure (K.p_compl rfl rfl) rfl ?_
 rw [show bits .xor .u32 (if IntKind.u32.signed then -1 else IntKind.u32.max) (s : Int) = ((s ^^^ 4294967295 : Nat) : Int) by
  rw [Nat.xor_comm]; exact bits_xor_u32 4294967295 s (by decide) hs]
 have hs0 := xor_lt hs (show 4294967295 < 4294967296 by decide)
 unfold sumQ
 generalize s ^^^ 4294967295 = s0 at hs0 ⊢
 (repeat' first | refine X.rq ?_ | refine X.rc ?_ ?_ <;> intro hc <;> try omega)
 refine K.c_loop (σ := Nat) (fun j => [(0, .int .u32 (((l.take j).foldl byteQ s0 : Nat) : Int)), (9, .slice ao l.length ca), (10, .int .i64 l.length), (11, .int .i64 j)]) (fun _ => h) (fun _ => F) (fun j => j ≤ l.length) (fun j => l.length - j) 0 (Nat.zero_le _) (by repeat (first | exact K.Sub.nil _ | refine K.Sub.cons rfl ?_)) rfl rfl ?_
 rintro j hj KL hKL
 have hlt := foldQ_lt (l.take j) hs0
 by_cases hjl : j < l.length
 ·have hc1 : l[j]? = some l[j] := List.getElem?_eq_getElem hjl
  have hc0 : l[((j : Nat) : Int).toNat]? = some l[j] := by rw [Int.toNat_natCast]; exact hc1
  generalize l[j] = c at hc0 hc1
  have hcl := c.toNat_lt
  have hat := fold_at hc1 s0
  generalize hsj : (l.take j).foldl byteQ s0 = sj at hlt hat ⊢
  (repeat' first | refine X.rq ?_ | refine X.rc ?_ ?_ <;> intro hc <;> try omega)
  refine K.s_pureE (K.p_indexB hv (Fx.und rfl) (Fx.sz rfl) rfl rfl (by omega) hc0) rfl ?_
  rintro v2 ⟨b, o, rfl, hcel⟩
  refine K.s_pure (K.p_load (Fx.agg rfl) rfl (K.Cel.up hcel)) rfl ?_
  (repeat' first | refine X.rq ?_ | refine X.rc ?_ ?_ <;> intro hc <;> try omega)
  rw [bits_xor_u32 sj c.toNat hlt (by omega)]
  have hb0 := xor_lt hlt (show c.toNat < 4294967296 by omega)
  refine K.c_loop (σ := Nat) (fun k => [(0, .int .u32 ((stepsQ k (sj ^^^ c.toNat) : Nat) : Int)), (9, .slice ao l.length ca), (10, .int .i64 l.length), (11, .int .i64 j), (19, .int .i64 k)]) (fun _ => h) (fun _ => F) (fun k => k ≤ 8) (fun k => 8 - k) 0 (by decide) (by repeat (first | exact K.Sub.nil _ | refine K.Sub.cons rfl ?_)) rfl rfl ?_
  rintro k hk KM hKM
  have hk0 := stepsQ_lt hb0 k
  by_cases hk8 : k < 8
  ·(repeat' first | refine X.rq ?_ | refine X.rc ?_ ?_ <;> intro hc <;> try omega)
   rw [step_code _ hk0]
   refine K.a_round hKM (k + 1) (by omega) (by repeat (first | exact K.Sub.nil _ | refine K.Sub.cons rfl ?_)) rfl rfl (by omega)
  ·obtain rfl : k = 8 := by omega
   (repeat' first | refine X.rq ?_ | refine X.rc ?_ ?_ <;> intro hc <;> try omega)
   refine K.a_round hKL (j + 1) (by omega) ?_ rfl rfl (by omega)
   rw [hat]
   exact (by repeat (first | exact K.Sub.nil _ | refine K.Sub.cons rfl ?_))
 ·obtain rfl : j = l.length := by omega
  rw [List.take_length] at hlt ⊢
  (repeat' first | refine X.rq ?_ | refine X.rc ?_ ?_ <;> intro hc <;> try omega)
  refine K.s_pure (K.p_compl rfl rfl) rfl ?_
  rw [show bits .xor .u32 (if IntKind.u32.signed then -1 else IntKind.u32.max) ((l.foldl byteQ s0 : Nat) : Int) = ((l.foldl byteQ s0 ^^^ 4294967295 : Nat) : Int) by
   rw [Nat.xor_comm]; exact bits_xor_u32 4294967295 _ (by decide) hlt]
  (repeat' first | refine X.rq ?_ | refine X.rc ?_ ?_ <;> intro hc <;> try omega)
  refine K.dl rfl (H' := []) rfl ⟨rfl, rfl, rfl⟩
theorem SumOf (h : Base) (v : Value) (l : List UInt8) (hv : BV h v l) (hl : l.length ≤ 9223372036854775807) : TrV Tryz.prog 80 [v] h [] (.int .u32 (sumQ 0 l)) [] := by
 refine K.en Tryz.func80 fun F => ?_
 simp only [List.nil_append]
 (repeat' first | refine X.rq ?_ | refine X.rc ?_ ?_ <;> intro hc <;> try omega)
 refine K.l_callV (Fx.cal rfl) rfl (More h v l 0 hv (by decide) hl) (K.pp [] rfl) rfl rfl ?_
 simp only [List.nil_append]
 (repeat' first | refine X.rq ?_ | refine X.rc ?_ ?_ <;> intro hc <;> try omega)
 refine K.dl rfl (H' := []) rfl ⟨rfl, rfl, rfl⟩
end Go.Proofs.YtijbhgiigddjdaaGreat.Pg
end

section
namespace Go.Proofs.YtijbhgiigddjdaaGreat.Pg
open Go.K

structure PCell where
 used : Bool
 killer : Nat
 data : List UInt8
 deriving DecidableEq
structure Pag where
 kind : Int
 lsn : Nat
 next : Nat
 cells : List PCell
 deriving DecidableEq
def in64 (z : Int) : Prop := -9223372036854775808 ≤ z ∧ z ≤ 9223372036854775807
instance (z : Int) : Decidable (in64 z) := by unfold in64; infer_instance
def CellC (h : Base) (c : List Value) (x : PCell) : Prop := x.killer < 4294967296 ∧ x.data.length ≤ 9223372036854775807 ∧ ∃ ao ca, c = [.bool x.used, .int .u32 x.killer, .slice ao x.data.length ca] ∧ BV h (.slice ao x.data.length ca) x.data
def CellsV (h : Base) (cv : Value) (l : List PCell) : Prop := ∃ es, SL h 3 cv es ∧ es.length = l.length ∧ ∀ (j : Nat) c x, es[j]? = some c → l[j]? = some x → CellC h c x
def cP (p : Pag) (cv : Value) : List Value := [.int .i64 p.kind, .int .u64 p.lsn, .int .u32 p.next, cv]
structure wfP (p : Pag) : Prop where
 kind : in64 p.kind
 lsn : p.lsn < 18446744073709551616
 next : p.next < 4294967296
 len : p.cells.length ≤ 9223372036854775807
def PagC (h : Base) (cs : List Value) (p : Pag) : Prop := wfP p ∧ ∃ cv, cs = cP p cv ∧ CellsV h cv p.cells
theorem CellC.le {h h' : Base} (hle : h.le h') {c : List Value} {x : PCell} (hc : CellC h c x) : CellC h' c x := by
 obtain ⟨h1, h2, ao, ca, e, hb⟩ := hc
 exact ⟨h1, h2, ao, ca, e, hb.le hle⟩
theorem CellsV.le {h h' : Base} (hle : h.le h') {v : Value} {l : List PCell} (hc : CellsV h v l) : CellsV h' v l := by
 obtain ⟨es, h1, h2, h3⟩ := hc
 exact ⟨es, h1.le hle, h2, fun j c x a b => (h3 j c x a b).le hle⟩
theorem PagC.le {h h' : Base} (hle : h.le h') {cs : List Value} {p : Pag} (hc : PagC h cs p) : PagC h' cs p := by
 obtain ⟨h1, cv, e, h2⟩ := hc
 exact ⟨h1, cv, e, h2.le hle⟩
/-! ### Size -/
def sizeC (x : PCell) : Nat := if x.used then 6 + x.data.length else 2
def sizeS : List PCell → Nat
 | [] => 0
 | x :: r => sizeC x + sizeS r
def sizeQ (l : List PCell) : Nat := 18 + sizeS l
theorem sizeS_append : ∀ (a b : List PCell), sizeS (a ++ b) = sizeS a + sizeS b
 | [], b => by simp [sizeS]
 | x :: a, b => by rw [List.cons_append, sizeS, sizeS, sizeS_append a b]; omega
theorem sizeS_at {l : List PCell} {j : Nat} {x : PCell} (h : l[j]? = some x) : sizeS (l.take (j + 1)) = sizeS (l.take j) + sizeC x := by
 rw [List.take_add_one, h, sizeS_append]; simp [sizeS]
def small (l : List PCell) : Prop := l.length ≤ 400 ∧ ∀ x ∈ l, x.data.length ≤ 4000
theorem sizeS_le : ∀ {l : List PCell}, (∀ x ∈ l, x.data.length ≤ 4000) → sizeS l ≤ l.length * 4006
 | [], _ => by simp [sizeS]
 | x :: l, h => by
  have h1 := sizeS_le fun y hy => h y (List.mem_cons_of_mem _ hy)
  have h2 := h x (List.mem_cons_self ..)
  rw [sizeS, List.length_cons]
  have : sizeC x ≤ 4006 := by unfold sizeC; split <;> omega
  omega
theorem small_take {l : List PCell} (h : small l) (j : Nat) : sizeS (l.take j) ≤ 1602400 := by
 have h1 := sizeS_le (l := l.take j) fun x hx => h.2 x (List.mem_of_mem_take hx)
 have h2 := h.1
 have h3 : (l.take j).length ≤ l.length := by rw [List.length_take]; omega
 omega
theorem PSize (h : Base) (cs : List Value) (p : Pag) (hx : PagC h cs p) (hs : small p.cells) : TrV Tryz.prog 114 [.agg cs.toArray] h [] (.int .i64 (sizeQ p.cells)) [] := by
 obtain ⟨hw, cv, rfl, es, hv, hel, hr⟩ := hx
 obtain ⟨ao, ca, rfl⟩ := hv.len
 rw [hel] at hv ⊢
 generalize p.cells = l at hs hv hel hr ⊢
 refine K.en Tryz.func114 fun F => ?_
 (repeat' first | refine X.rq ?_ | refine X.rc ?_ ?_ <;> intro hc <;> try omega)
 refine K.l_box rfl rfl rfl (fun B => ?_)
 (repeat' first | refine X.rq ?_ | refine X.rc ?_ ?_ <;> intro hc <;> try omega)
 refine K.c_loop (σ := Nat) (fun j => [(3, .int .i64 (18 + sizeS (l.take j) : Nat)), (7, .slice ao l.length ca), (8, .int .i64 l.length), (9, .int .i64 j)]) (fun _ => h) (fun _ => blk B 41 (cP p (.slice ao l.length ca)) :: F) (fun j => j ≤ l.length) (fun j => l.length - j) 0 (Nat.zero_le _) (by repeat (first | exact K.Sub.nil _ | refine K.Sub.cons rfl ?_)) rfl rfl ?_
 rintro j hj KL hKL
 have hl400 := hs.1
 have hb0 := small_take hs j
 by_cases hjl : j < l.length
 ·have hc1 : es[j]? = some (es[j]'(by omega)) := List.getElem?_eq_getElem (by omega)
  have hc0 : es[((j : Nat) : Int).toNat]? = some (es[j]'(by omega)) := by rw [Int.toNat_natCast]; exact hc1
  have he1 : l[j]? = some l[j] := List.getElem?_eq_getElem hjl
  generalize es[j]'(by omega) = c at hc0 hc1
  have hmem : l[j] ∈ l := List.getElem_mem hjl
  generalize l[j] = x at he1 hmem
  obtain ⟨hkl, hdl, ao3, ca3, rfl, hbv⟩ := hr j c x hc1 he1
  have hd4 := hs.2 x hmem
  have hat := sizeS_at he1
  generalize sizeS (l.take j) = sj at hb0 hat ⊢
  (repeat' first | refine X.rq ?_ | refine X.rc ?_ ?_ <;> intro hc <;> try omega)
  refine K.s_pureE (K.p_indexL hv (Fx.und rfl) (Fx.sz rfl) rfl rfl (by omega) hc0) rfl ?_
  rintro v2 ⟨b, o, rfl, hcel⟩
  refine K.s_pure (K.p_loadM (Fx.agg rfl) rfl (Cels.up hcel) (Fx.sz rfl) rfl) rfl ?_
  refine K.l_alloc (Fx.zr rfl) rfl rfl (fun B => ?_)
  refine X.stw ?_
  (repeat' first | refine X.rq ?_ | refine X.rc ?_ ?_ <;> intro hc <;> try omega)
  ·refine K.AT.drop ?_
   refine K.a_round hKL (j + 1) (by omega) ?_ rfl rfl (by omega)
   rw [hat, sizeC, if_pos (by assumption), show (18 + (sj + (6 + x.data.length)) : Nat) = ((18 + sj : Nat) : Int) + 2 + (4 + (x.data.length : Int)) by omega]
   exact (by repeat (first | exact K.Sub.nil _ | refine K.Sub.cons rfl ?_))
  ·refine K.AT.drop ?_
   refine K.a_round hKL (j + 1) (by omega) ?_ rfl rfl (by omega)
   rw [hat, sizeC, if_neg (by rw [hc]; decide), show (18 + (sj + 2) : Nat) = ((18 + sj : Nat) : Int) + 2 by omega]
   exact (by repeat (first | exact K.Sub.nil _ | refine K.Sub.cons rfl ?_))
 ·obtain rfl : j = l.length := by omega
  rw [List.take_length]
  (repeat' first | refine X.rq ?_ | refine X.rc ?_ ?_ <;> intro hc <;> try omega)
  refine K.AT.drop ?_
  refine K.dl rfl (H' := []) rfl ⟨rfl, rfl, rfl⟩
end Go.Proofs.YtijbhgiigddjdaaGreat.Pg
end

section
namespace Go.Proofs.YtijbhgiigddjdaaGreat.Pg
open Go.K

structure POp where
 kind : Int
 slot : Int
 txn : Nat
 data : List UInt8
 deriving DecidableEq
def cO (o : POp) (dv : Value) : List Value := [.int .i64 o.kind, .int .i64 o.slot, .int .u32 o.txn, dv]
structure wfO (o : POp) : Prop where
 kind : in64 o.kind
 slot : in64 o.slot
 txn : o.txn < 4294967296
 len : o.data.length ≤ 9223372036854775807
def OpC (h : Base) (cs : List Value) (o : POp) : Prop := wfO o ∧ ∃ ao ca, cs = cO o (.slice ao o.data.length ca) ∧ BV h (.slice ao o.data.length ca) o.data
def rightP (k : Int) (o : POp) : Prop := (k = 1 ∨ k = 2) ∧ (1 ≤ o.kind ∧ o.kind ≤ 4) ∧ (o.kind = 2 ↔ o.txn ≠ 0) ∧ (k = 2 → o.slot = 0) ∧ (k = 1 ∧ o.kind ≠ 1 → o.data.length = 0) ∧ (¬ (k = 1 ∧ o.kind ≠ 1) → 1 ≤ o.data.length ∧ o.data.length ≤ 180)
instance (k : Int) (o : POp) : Decidable (rightP k o) := by unfold rightP; infer_instance
theorem ORight (h : Base) (k : Int) (cs : List Value) (o : POp) (hx : OpC h cs o) : TrV Tryz.prog 165 [.int .i64 k, .agg cs.toArray] h [] (.bool (decide (rightP k o))) [] := by
 obtain ⟨⟨hk, hs, ht, hl⟩, ao, ca, rfl, hb⟩ := hx
 have hrp : ∀ _ : Unit, rightP k o ↔ (k = 1 ∨ k = 2) ∧ (1 ≤ o.kind ∧ o.kind ≤ 4) ∧ (o.kind = 2 ↔ o.txn ≠ 0) ∧ (k = 2 → o.slot = 0) ∧ (k = 1 ∧ o.kind ≠ 1 → o.data.length = 0) ∧ (¬ (k = 1 ∧ o.kind ≠ 1) → 1 ≤ o.data.length ∧ o.data.length ≤ 180) := fun _ => Iff.rfl
 refine K.en Tryz.func165 fun F => ?_
 (repeat' first | refine X.rq ?_ | refine X.rc ?_ ?_ <;> intro hc <;> try omega)
 refine K.l_box rfl rfl rfl (fun B => ?_)
 (repeat' first | refine X.rq ?_ | refine X.rc ?_ ?_ <;> intro hc <;> try omega)
 all_goals
  refine K.AT.drop ?_
  refine K.dl rfl (H' := []) rfl ⟨?_, rfl, rfl⟩
  show Value.bool _ = Value.bool _
  congr 1
  rw [Bool.eq_iff_iff, (decide_eq_true_iff (p := rightP k o)).trans (hrp ())]
  clear hrp hb
  simp only [Bool.not_eq_true', Bool.not_eq_false', Bool.and_eq_true, Bool.and_eq_false_imp, beq_eq_false_iff_ne, beq_iff_eq, ne_eq, decide_eq_decide, decide_eq_true_eq, eq_self, true_iff, false_iff, iff_true, Bool.false_eq_true] at *
  omega
/-! ### Copies of bytes -/
def NewB (h0 : Base) (l : List UInt8) (v : Value) (h' : Base) (H' : List Asrt) : Prop := h' = h0 ∧ ∃ a cap, v = bufV a l.length cap ∧ H' = [bufA 5 1 a l.length cap (l.map u8)]
theorem Copy (h : Base) (v : Value) (l : List UInt8) (hv : BV h v l) (hl : l.length ≤ 140737488355328) : Tr Tryz.prog 41 [v] h [] (NewB h l) := by
 refine K.en Tryz.func41 fun F => ?_
 simp only [List.nil_append]
 (repeat' first | refine X.rq ?_ | refine X.rc ?_ ?_ <;> intro hc <;> try omega)
 refine K.l_buildSlice (Fx.und rfl) (Fx.sz rfl) rfl (Fx.zr rfl) rfl rfl rfl rfl rfl (fun B => ?_)
 refine K.WL.bufOf (m := 0) (s := 1) rfl (by unfold maxLen; omega) ?_
 (repeat' first | refine X.rq ?_ | refine X.rc ?_ ?_ <;> intro hc <;> try omega)
 refine K.l_append_at 0 rfl (Fx.und rfl) (Fx.und rfl) rfl (Fx.sz rfl) (Fx.zr rfl) rfl (Fx.byt rfl) rfl rfl hv.src (by omega) (by omega) rfl (fun a1 cap1 => ?_)
 simp only [Go.K.nmz]
 rw [Nat.zero_add]
 (repeat' first | refine X.rq ?_ | refine X.rc ?_ ?_ <;> intro hc <;> try omega)
 refine K.dl rfl (H' := [bufA 5 1 a1 l.length cap1 (l.map u8)]) rfl ⟨rfl, a1, cap1, rfl, rfl⟩
theorem Clone (h : Base) (v : Value) (l : List UInt8) (hv : BV h v l) (hl : l.length ≤ 140737488355328) : Tr Tryz.prog 70 [v] h [] (NewB h l) := by
 obtain ⟨ao, ca, rfl⟩ := hv.len
 refine K.en Tryz.func70 fun F => ?_
 simp only [List.nil_append]
 cases ao with
 | none =>
  have hl0 : l = [] := by
   rcases hv with ⟨_, _, e, e2⟩ | ⟨_, _, _, e, _⟩
   ·exact e2
   ·cases e
  subst hl0
  (repeat' first | refine X.rq ?_ | refine X.rc ?_ ?_ <;> intro hc <;> try omega)
  refine K.AT.nilBuf 5 1 ?_
  refine K.dl rfl (H' := [bufA 5 1 none 0 0 []]) rfl ⟨rfl, none, 0, rfl, rfl⟩
 | some ad =>
  (repeat' first | refine X.rq ?_ | refine X.rc ?_ ?_ <;> intro hc <;> try omega)
  refine K.l_buildSlice (Fx.und rfl) (Fx.sz rfl) rfl (Fx.zr rfl) rfl rfl rfl rfl rfl (fun B => ?_)
  refine K.WL.bufOf (m := 0) (s := 1) rfl (by unfold maxLen; omega) ?_
  (repeat' first | refine X.rq ?_ | refine X.rc ?_ ?_ <;> intro hc <;> try omega)
  refine K.l_append_at 0 rfl (Fx.und rfl) (Fx.und rfl) rfl (Fx.sz rfl) (Fx.zr rfl) rfl (Fx.byt rfl) rfl rfl hv.src (by omega) (by omega) rfl (fun a1 cap1 => ?_)
  simp only [Go.K.nmz]
  rw [Nat.zero_add]
  (repeat' first | refine X.rq ?_ | refine X.rc ?_ ?_ <;> intro hc <;> try omega)
  refine K.dl rfl (H' := [bufA 5 1 a1 l.length cap1 (l.map u8)]) rfl ⟨rfl, a1, cap1, rfl, rfl⟩
end Go.Proofs.YtijbhgiigddjdaaGreat.Pg
end

section
namespace Go.Proofs.YtijbhgiigddjdaaGreat.Rd
open Go.K Pg
open Go.ChangeShapes Go.WideShapes Go.ChangeAt Go.RowKit

section
variable {H : Type} {enc : TypeId × Value → H} {P : Program} {W : World} {base : Nat} {spare : Nat → Bool} {held : Bool}
theorem len_reach {ts : List TypeId} {ds : List (DataW H)} {j fuel : Nat} {t e : TypeId} {d : DataW H} {p : List MemPlace} {a : Option Addr} {l c : Nat} (hsz : (DataW.weightsEach P ts ds).all (· ≤ reachBytes) = true) (ht' : ts[j]? = some t) (hd : ds[j]? = some d)
  (ht : P.underlying t = some (.slice e)) (h : DataW.trod enc P W base spare held fuel t [.slice a l c] = some (d, p)) : l * P.bytesOf e ≤ reachBytes := by
 rcases Go.Deep.open_slice ht h with ⟨hcs, _⟩ | ⟨a', len, cap, m, n, D, Pl, hcs, _, _, _, _, hx, _⟩
 ·simp at hcs
  obtain ⟨-, rfl, -⟩ := hcs
  simp
 ·simp at hcs
  obtain ⟨-, rfl, -⟩ := hcs
  have e1 : d = .slice ((List.range l).map D) ((List.range (m - l)).map fun j => D (l + j)) := congrArg Prod.fst hx
  have := sized_slice hsz ht' (by rw [hd, e1]) ht
  simp only [List.length_map, List.length_range] at this
  exact Nat.le_trans (Nat.mul_le_mul_right _ (Nat.le_add_right ..)) this
theorem slice_form {t e : TypeId} {fuel : Nat} {v : Value} {x : DataW H × List MemPlace} (ht : P.underlying t = some (.slice e)) (h : DataW.trod enc P W base spare held fuel t [v] = some x) : ∃ a l c, v = .slice a l c := by
 rcases DataW.trod_slice ht h with ⟨hcs, _⟩ | ⟨a, len, cap, elems, rest, n, hfu, hcs, _⟩
 ·simp at hcs; exact ⟨_, _, _, hcs⟩
 ·simp at hcs; exact ⟨_, _, _, hcs⟩
theorem bytes_of {fuel : Nat} {v : Value} {x : DataW H × List MemPlace} (h : DataW.trod enc Tryz.prog W base spare held fuel 22 [v] = some x) : ∃ (l : List UInt8) (ao : Option Addr) (ca : Nat), v = .slice ao l.length ca ∧ BV (Base.of W) (.slice ao l.length ca) l ∧ l.length ≤ 9223372036854775807 := by
 obtain ⟨a, n, c, rfl⟩ := slice_form Tryz.underlying22 h
 obtain ⟨l, hl, hm⟩ := bv_of (v := .slice a n c) Tryz.underlying22 Tryz.underlying5 (by kernel_rfl) h ⟨_, _, _, rfl⟩
 obtain ⟨ao, ca, e⟩ := hl.len
 rw [e] at hl ⊢
 exact ⟨l, _, _, rfl, hl, by unfold maxLen at hm; omega⟩
end
end Go.Proofs.YtijbhgiigddjdaaGreat.Rd
end
