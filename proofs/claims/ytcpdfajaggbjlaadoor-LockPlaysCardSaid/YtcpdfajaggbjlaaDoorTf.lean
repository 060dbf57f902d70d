/-
  A table of locks of its own: who has what, why one waits; somebody asks. Conditions: each theorem's own.
-/
import Derived.Test.YtcpdfajaggbjlaaDoorTe

namespace Go.Proofs.YtcpdfajaggbjlaaDoor.Lk
open Go Go.K Go.Proofs Go.Proofs.YtcpdfajaggbjlaaDoor
set_option linter.unusedVariables false
set_option linter.unusedSimpArgs false
set_option maxRecDepth 10000

/-- What the two tables of the package hold. -/
def Glob (h : Base) : Prop := Cels h [] 0 0 hasT ∧ Cels h [] 1 0 confT
theorem Glob.le {h h' : Base} (hg : Glob h) (hle : h.le h') : Glob h' := ⟨Cels.le hle hg.1, Cels.le hle hg.2⟩
/-- The table's rows, owned. -/
abbrev rowsA (a : Option Nat) (k : Nat) (l : List PLock) : Asrt := bufA 46 7 a l.length k (l.map cK).flatten
abbrev tabB (BT : Nat) (a : Option Nat) (k : Nat) (l : List PLock) : Asrt := blk BT 29 [bufV a l.length k]
theorem seven (l : List PLock) : ∀ e ∈ l.map cK, e.length = 7 := fun e he => by
  obtain ⟨x, _, rfl⟩ := List.mem_map.1 he
  rfl
theorem rows_sl {h : Base} {a : Option Nat} {k : Nat} {l : List PLock} (hs : Says h [rowsA a k l]) : SL h 7 (bufV a l.length k) (l.map cK) := by
  have hz : (l.map cK).length = l.length := List.length_map ..
  have := K.says_sl (T := 46) (a := a) (cap := k) (es := l.map cK) (seven l) (by rw [hz]; exact hs)
  rw [hz] at this
  exact this
theorem HasA (h : Base) (BT : Nat) (a : Option Nat) (k : Nat) (l : List PLock) (txn : Nat) (th : PThing) (mode : Int) (hw : ∀ x ∈ l, wfK x) (hG : Glob h) (hth : wfT th) (hl : l.length ≤ 1000000) :
    TrV Tryd.prog 21 [.pointer (some ⟨BT, 0, none⟩), .int .u32 txn, .agg (cT th).toArray, .int .i64 mode] h [rowsA a k l, tabB BT a k l] (.bool (hasQ l txn th mode)) [rowsA a k l, tabB BT a k l] :=
  K.TrV.borrow (A := [rowsA a k l]) (R := [tabB BT a k l]) fun h' hle hs => Has h' BT _ l txn th mode (rows_sl hs) hw (hG.le hle).1 hth hl
theorem ReasonsA (h : Base) (BT : Nat) (a : Option Nat) (k : Nat) (l : List PLock) (i : Nat) (q : PLock) (hw : ∀ x ∈ l, wfK x) (hG : Glob h) (hi : l[i]? = some q) (hl : l.length ≤ 1000000) :
    Tr Tryd.prog 31 [.pointer (some ⟨BT, 0, none⟩), .int .i64 i] h [rowsA a k l, tabB BT a k l]
      (fun u h' H' => h' = h ∧ ∃ a2 k2, u = bufV a2 (reasonsQ l i q).length k2 ∧ H' = [rowsA a k l, bufA 34 1 a2 (reasonsQ l i q).length k2 ((reasonsQ l i q).map nV), tabB BT a k l]) := by
  have := K.Tr.borrow (P := Tryd.prog) (h := h) (f := 31) (args := [.pointer (some ⟨BT, 0, none⟩), .int .i64 i]) (A := [rowsA a k l]) (R := [tabB BT a k l])
    (Q := fun u H1 => ∃ a2 k2, u = bufV a2 (reasonsQ l i q).length k2 ∧ H1 = [bufA 34 1 a2 (reasonsQ l i q).length k2 ((reasonsQ l i q).map nV), tabB BT a k l]) fun h' hle hs F w ok => by
      refine Calls.mono (Reasons h' BT _ l i q (rows_sl hs) hw (hG.le hle).2 hi hl F w ok) fun e w' ⟨u, he, h1, H1, hle1, ⟨q1, a2, k2, q2, q3⟩, ok1⟩ => ⟨u, he, h1, H1, hle1, ⟨q1.symm, a2, k2, q2, q3⟩, ok1⟩
  exact fun F w ok => Calls.mono (this F w ok) fun e w' ⟨u, he, h1, H1, hle1, ⟨q1, H2, q2, a2, k2, q3, q4⟩, ok1⟩ => ⟨u, he, h1, H1, hle1, ⟨q1, a2, k2, q3, by rw [q2, q4]; rfl⟩, ok1⟩
def waitP (txn : Nat) (x : PLock) : Bool := decide (x.txn = txn) && !x.held
theorem Ask1 (h : Base) (B5 : Nat) (txn : Nat) (x : PLock) : TrV Tryd.prog 44 [.agg (cK x).toArray, .pointer (some ⟨B5, 0, none⟩)] h [blk B5 34 [.int .u32 txn]] (.bool (waitP txn x)) [blk B5 34 [.int .u32 txn]] := by
  refine K.enter Tryd.func44 rfl (Nat.le_of_ble_eq_true rfl) (fun F => ?_)
  simp only [List.nil_append, List.cons_append]
  (repeat' (first | refine X.rq ?_ | (refine X.rc ?_ ?_ <;> intro hc <;> first | (exfalso; omega) | skip)))
  refine K.l_box rfl rfl rfl (fun B2 => ?_)
  rw [waitP]
  by_cases ht : x.txn = txn
  · rw [decide_eq_true ht, Bool.true_and]
    (repeat' (first | refine X.rq ?_ | (refine X.rc ?_ ?_ <;> intro hc <;> first | (exfalso; omega) | skip)))
    refine K.AT.sel [0] rfl ?_
    refine K.done (by first | exact Or.inl rfl | exact Or.inr rfl) rfl (by first | exact K.Base.le.refl _ | assumption) (H' := [_]) rfl ⟨rfl, rfl, rfl⟩
  · rw [decide_eq_false ht, Bool.false_and]
    (repeat' (first | refine X.rq ?_ | (refine X.rc ?_ ?_ <;> intro hc <;> first | (exfalso; omega) | skip)))
    refine K.AT.sel [0] rfl ?_
    refine K.done (by first | exact Or.inl rfl | exact Or.inr rfl) rfl (by first | exact K.Base.le.refl _ | assumption) (H' := [_]) rfl ⟨rfl, rfl, rfl⟩
theorem WaitsA (h : Base) (B5 : Nat) (a : Option Nat) (k : Nat) (l : List PLock) (txn : Nat) (hl : l.length ≤ 1000000) :
    TrV Tryd.prog 43 [bufV a l.length k, .func (.func 44) #[] #[.pointer (some ⟨B5, 0, none⟩)]] h [rowsA a k l, blk B5 34 [.int .u32 txn]] (.bool (l.any (waitP txn))) [rowsA a k l, blk B5 34 [.int .u32 txn]] :=
  K.TrV.borrow (A := [rowsA a k l]) (R := [blk B5 34 [.int .u32 txn]]) fun h' hle hs => CtnL h' [blk B5 34 [.int .u32 txn]] 44 [_] (Fx.cal rfl) _ l (waitP txn) (rows_sl hs).k (by omega) (fun x _ => Ask1 h' B5 txn x)
end Go.Proofs.YtcpdfajaggbjlaaDoor.Lk
