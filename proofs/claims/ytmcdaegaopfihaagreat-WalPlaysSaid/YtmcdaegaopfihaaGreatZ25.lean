/-
  Texts joined: Fh Fi Fo Ra Fr Ag. Conditions: each theorem's own.
-/
import Derived.Test.YtmcdaegaopfihaaGreatZ8
import Derived.Test.YtmcdaegaopfihaaGreatZ14
import Derived.Test.YtmcdaegaopfihaaGreatZ0
import Derived.Test.YtmcdaegaopfihaaGreatZ17
import Derived.Test.YtmcdaegaopfihaaGreatZ3
import Derived.Test.YtmcdaegaopfihaaGreatZ24
section
namespace Go.Proofs.YtmcdaegaopfihaaGreat.Pg
open Go Go.K Go.Proofs Go.Proofs.YtmcdaegaopfihaaGreat
set_option linter.unusedVariables false
set_option linter.unusedSimpArgs false
set_option maxRecDepth 10000

def freeQ (l : List PCell) : Bool := l.any (fun x => !x.used)
def freeAt (l : List PCell) (j : Nat) : Bool := match l[j]? with
 | some x => !x.used
 | none => false
def roomN (l : List PCell) : Int := if freeQ l = true then 508 - sizeQ l else if l.length = 60 then 0 else 506 - sizeQ l
def roomQ (p : Pag) : Int := if mayQ p = true ∧ p.kind ≠ 3 then max 0 (min (roomN p.cells) 180) else 0
end Go.Proofs.YtmcdaegaopfihaaGreat.Pg
end

section
namespace Go.Proofs.YtmcdaegaopfihaaGreat.Pg
open Go Go.K Go.Proofs Go.Proofs.YtmcdaegaopfihaaGreat
set_option linter.unusedVariables false
set_option linter.unusedSimpArgs false
set_option maxRecDepth 10000

structure OC where
 used : Bool
 killer : Nat
 a : Option Nat
 cap : Nat
 data : List UInt8
def OC.cell (c : OC) : PCell := ⟨c.used, c.killer, c.data⟩
def rowO (c : OC) : List Value := [.bool c.used, .int .u32 c.killer, bufV c.a c.data.length c.cap]
def datA (c : OC) : Asrt := bufA 5 1 c.a c.data.length c.cap (c.data.map u8)
def pgA (b : Option Nat) (cap : Nat) (l : List OC) : List Asrt := [bufA 90 3 b l.length cap (l.map rowO).flatten, all (l.map datA)]
def okO (l : List OC) : Prop := ∀ c ∈ l, c.killer < 4294967296
def OwnP (h0 : Base) (p : Pag) (v : Value) (h' : Base) (H' : List Asrt) : Prop := h' = h0 ∧ ∃ b cap l, p.cells = l.map OC.cell ∧ okO l ∧ v = .agg (cP p (bufV b p.cells.length cap)).toArray ∧ H' = pgA b cap l
section
variable {P : Program} {n : NN} {Q : Exit → Act → World → Prop} {E : Env} {h : Base} {H F : List Asrt} {ops : Array Oper}
end
/-! ### Rows that are made -/
def zrow : List Value := [.bool false, .int .u32 0, .slice none 0 0]
def fillR (l : List OC) (m : Nat) : List (List Value) := l.map rowO ++ List.replicate (m - l.length) zrow
end Go.Proofs.YtmcdaegaopfihaaGreat.Pg
end

section
namespace Go.Proofs.YtmcdaegaopfihaaGreat.Pg
open Go Go.K Go.Proofs Go.Proofs.YtmcdaegaopfihaaGreat Go.Proofs.YtmcdaegaopfihaaGreat.Ca
set_option linter.unusedVariables false
set_option linter.unusedSimpArgs false
set_option maxRecDepth 10000

theorem W_RawB (h : Base) (s : WSt) (v : Value) (b : List UInt8) (hv : BV h v b) (hl : (wb s).length + b.length ≤ big) :
  Tr Tryz.prog 60 [wv s, v] h [wA s] (Wrote h s b) := by
 unfold big at hl
 obtain ⟨ao, ca, rfl⟩ := hv.len
 match s with
 | none =>
  refine K.enter Tryz.func60 rfl (Nat.le_of_ble_eq_true rfl) (fun F => ?_)
  simp only [wv]
  (repeat' first | refine X.rq ?_ | refine X.rc ?_ ?_ <;> intro hc <;> try omega)
  refine K.done (by first | exact Or.inl rfl | exact Or.inr rfl) rfl (by first | exact K.Base.le.refl _ | assumption) (H' := [wA none]) rfl ⟨rfl, rfl, none, trivial, rfl⟩
 | some (p, none) =>
  refine K.enter Tryz.func60 rfl (Nat.le_of_ble_eq_true rfl) (fun F => ?_)
  refine K.WC.open ?_
  simp only [wH, wv, List.cons_append, List.nil_append]
  (repeat' first | refine X.rq ?_ | refine X.rc ?_ ?_ <;> intro hc <;> try omega)
  refine K.AT.close (wH (some (p, none))) ?_
  refine K.done (by first | exact Or.inl rfl | exact Or.inr rfl) rfl (by first | exact K.Base.le.refl _ | assumption) (H' := [wA (some (p, none))]) rfl ⟨rfl, rfl, some (p, none), rfl, rfl⟩
 | some (p, some (a0, cap0, l)) =>
  simp only [wb] at hl
  refine K.enter Tryz.func60 rfl (Nat.le_of_ble_eq_true rfl) (fun F => ?_)
  refine K.WC.open ?_
  simp only [wH, wv, List.cons_append, List.nil_append]
  (repeat' first | refine X.rq ?_ | refine X.rc ?_ ?_ <;> intro hc <;> try omega)
  refine K.l_append_at 1 rfl (Fx.und rfl) (Fx.und rfl) rfl (Fx.sz rfl) (Fx.zr rfl) rfl (Fx.byt rfl) rfl rfl (hv.src) (by omega) (by omega) rfl (fun a' cap' => ?_)
  simp only [Go.K.nmz]
  (repeat' first | refine X.rq ?_ | refine X.rc ?_ ?_ <;> intro hc <;> try omega)
  refine X.sto ?_
  (repeat' first | refine X.rq ?_ | refine X.rc ?_ ?_ <;> intro hc <;> try omega)
  rw [← List.map_append, ← List.length_append]
  refine K.AT.close (wH (some (p, some (a', cap', l ++ b)))) ?_
  refine K.done (by first | exact Or.inl rfl | exact Or.inr rfl) rfl (by first | exact K.Base.le.refl _ | assumption) (H' := [wA (some (p, some (a', cap', l ++ b)))]) rfl ⟨rfl, rfl, some (p, some (a', cap', l ++ b)), ⟨rfl, rfl⟩, rfl⟩
def byC (x : PCell) : List UInt8 := lebs x.data.length 2 ++ if x.used = true then lebs x.killer 4 ++ x.data else []
def cellsB (l : List PCell) : List UInt8 := l.flatMap byC
def bodyB (p : Pag) : List UInt8 := lebs p.kind.toNat 1 ++ lebs p.cells.length 1 ++ lebs p.lsn 8 ++ lebs p.next 4 ++ cellsB p.cells
def padB (p : Pag) : List UInt8 := bodyB p ++ List.replicate (508 - (bodyB p).length) 0
def encB (p : Pag) : List UInt8 := lebs (sumQ 0 (padB p)) 4 ++ padB p
def encQ (p : Pag) : List UInt8 × Int := if mayQ p = true then (encB p, 0) else ([], 5)
theorem may_ok {p : Pag} (hm : mayQ p = true) : ∀ x ∈ p.cells, okCell x := fun x hx => by
 obtain ⟨i, hi, e⟩ := List.getElem_of_mem hx
 exact (((mayQ_iff p).1 hm).2.2.1 i x (by rw [List.getElem?_eq_getElem hi, e])).1
theorem wadd_some {bs : List UInt8} {p : Nat} {a : Option Nat} {cap : Nat} {l : List UInt8} : ∀ {s : WSt}, wadd bs (some (p, some (a, cap, l))) s → ∃ a' cap', s = some (p, some (a', cap', l ++ bs))
 | some (_, some (a', cap', _)), h => ⟨a', cap', by rw [h.1, h.2]⟩
 | none, h => h.elim
 | some (_, none), h => h.elim
end Go.Proofs.YtmcdaegaopfihaaGreat.Pg
end

section
namespace Go.Proofs.YtmcdaegaopfihaaGreat.Ra
open Go Go.K Go.Proofs Go.Proofs.YtmcdaegaopfihaaGreat
set_option linter.unusedVariables false
set_option linter.unusedSimpArgs false
set_option maxRecDepth 10000

def Gave (h : Base) (l : List UInt8) (v : Value) (h' : Base) (H' : List Asrt) : Prop := h = h' ∧ ∃ a cap, v = bufV a l.length cap ∧ H' = [bufA 5 1 a l.length cap (l.map u8)]

theorem Fixed (h : Base) (x m : Nat) (hx : x < 18446744073709551616) (hm : m ≤ 8) : Tr Tryz.prog 55 [.int .u64 x, .int .i64 m] h [] (Gave h (lebs x m)) := by
 refine K.enter Tryz.func55 rfl (Nat.le_of_ble_eq_true rfl) (fun F => ?_)
 refine K.WC.nilBuf 5 1 ?_
 (repeat' first | refine X.rq ?_ | refine X.rc ?_ ?_ <;> intro hc <;> try omega)
 refine K.c_loop (σ := Nat × Nat × Option Nat × Nat × List UInt8) (fun s => [(0, .int .u64 s.2.1), (1, .int .i64 m), (5, bufV s.2.2.1 s.1 s.2.2.2.1), (6, .int .i64 s.1)]) (fun _ => h)
  (fun s => bufA 5 1 s.2.2.1 s.1 s.2.2.2.1 (s.2.2.2.2.map u8) :: F) (fun s => s.1 ≤ m ∧ s.2.1 < 18446744073709551616 ∧ s.2.2.2.2 ++ lebs s.2.1 (m - s.1) = lebs x m) (fun s => m - s.1) (0, x, none, 0, []) ⟨Nat.zero_le _, hx, rfl⟩ (by repeat (first | exact K.Sub.nil _ | refine K.Sub.cons rfl ?_)) rfl rfl ?_
 rintro ⟨j, y, a, cap, pre⟩ ⟨hj, hy, hpre⟩ KL hKL
 dsimp only at hj hy hpre ⊢
 (repeat' first | refine X.rq ?_ | refine X.rc ?_ ?_ <;> intro hc <;> try omega)
 ·refine X.bs (fun B => ?_)
  refine K.l_append_at 1 rfl (Fx.und rfl) (Fx.und rfl) rfl (Fx.sz rfl) (Fx.zr rfl) rfl (Fx.byt rfl) rfl rfl (K.src_one (K.cel_own 0 rfl rfl) rfl) (by omega) (by omega) rfl (fun a' cap' => ?_)
  simp only [Go.K.nmz]
  (repeat' first | refine X.rq ?_ | refine X.rc ?_ ?_ <;> intro hc <;> try omega)
  refine K.AT.drop (K.a_round hKL (j + 1, y / 256, a', cap', pre ++ [UInt8.ofNat (y % 256)]) ⟨by omega, by dsimp only; omega, ?_⟩ (by repeat (first | exact K.Sub.nil _ | refine K.Sub.cons rfl ?_)) rfl ?_ (by dsimp only; omega))
  ·dsimp only
   rw [← hpre, show m - j = (m - (j + 1)) + 1 from by omega, lebs, List.append_assoc]; rfl
  ·dsimp only
   rw [List.map_append, List.map_singleton, u8_ofNat]; rfl
 ·obtain rfl : j = m := by omega
  rw [Nat.sub_self, lebs, List.append_nil] at hpre
  have hlen : pre.length = j := by rw [hpre, lebs_length]
  refine K.done (by first | exact Or.inl rfl | exact Or.inr rfl) rfl (by first | exact K.Base.le.refl _ | assumption) (H' := [bufA 5 1 a j cap (pre.map u8)]) rfl ⟨rfl, a, cap, ?_, ?_⟩
  ·rw [← hpre, hlen]; rfl
  ·rw [← hpre, hlen]

theorem RefUint (h : Base) (x : Nat) (hx : x < 18446744073709551616) : Tr Tryz.prog 130 [.int .u64 x] h [] (Gave h (cu x)) := by
 refine K.enter Tryz.func130 rfl (Nat.le_of_ble_eq_true rfl) (fun F => ?_)
 refine K.WC.nilBuf 5 1 ?_
 (repeat' first | refine X.rq ?_ | refine X.rc ?_ ?_ <;> intro hc <;> try omega)
 refine K.c_loop (σ := Nat × Option Nat × Nat × List UInt8) (fun s => [(0, .int .u64 s.1), (3, bufV s.2.1 s.2.2.2.length s.2.2.1)]) (fun _ => h)
  (fun s => bufA 5 1 s.2.1 s.2.2.2.length s.2.2.1 (s.2.2.2.map u8) :: F) (fun s => s.1 < 18446744073709551616 ∧ s.2.2.2 ++ cu s.1 = cu x) (fun s => s.1) (x, none, 0, []) ⟨hx, rfl⟩ (by repeat (first | exact K.Sub.nil _ | refine K.Sub.cons rfl ?_)) rfl rfl ?_
 rintro ⟨y, a, cap, pre⟩ ⟨hy, hpre⟩ KL hKL
 dsimp only at hy hpre ⊢
 have hlen : pre.length ≤ 10 := by
  have h1 := congrArg List.length hpre
  have h2 := cu_len x
  rw [List.length_append] at h1
  omega
 (repeat' first | refine X.rq ?_ | refine X.rc ?_ ?_ <;> intro hc <;> try omega)
 ·refine X.bs (fun B => ?_)
  refine K.l_append_at 1 rfl (Fx.und rfl) (Fx.und rfl) rfl (Fx.sz rfl) (Fx.zr rfl) rfl (Fx.byt rfl) rfl rfl (K.src_one (K.cel_own 0 rfl rfl) rfl) (by omega) (by omega) rfl (fun a' cap' => ?_)
  simp only [Go.K.nmz]
  (repeat' first | refine X.rq ?_ | refine X.rc ?_ ?_ <;> intro hc <;> try omega)
  have e : pre.length + 1 = (pre ++ [UInt8.ofNat (y % 128 + 128)]).length := by simp
  rw [e]
  refine K.AT.drop (K.a_round hKL (y / 128, a', cap', pre ++ [UInt8.ofNat (y % 128 + 128)]) ⟨by omega, ?_⟩ (by repeat (first | exact K.Sub.nil _ | refine K.Sub.cons rfl ?_)) rfl ?_ (by dsimp only; omega))
  ·dsimp only
   rw [← hpre, cu_ge (x := y) (by omega) hy, List.append_assoc]; rfl
  ·dsimp only
   rw [List.map_append, List.map_singleton, K.u8_of (by omega), show ((y % 128 + 128 : Nat) : Int) = 128 + (y : Int) % 128 from by omega]
 ·rw [cu_lt (by omega)] at hpre
  refine X.bs (fun B => ?_)
  refine K.l_append_at 1 rfl (Fx.und rfl) (Fx.und rfl) rfl (Fx.sz rfl) (Fx.zr rfl) rfl (Fx.byt rfl) rfl rfl (K.src_one (K.cel_own 0 rfl rfl) rfl) (by omega) (by omega) rfl (fun a' cap' => ?_)
  simp only [Go.K.nmz]
  (repeat' first | refine X.rq ?_ | refine X.rc ?_ ?_ <;> intro hc <;> try omega)
  refine K.AT.drop ?_
  have e : pre.length + 1 = (pre ++ [UInt8.ofNat y]).length := by simp
  rw [e]
  refine K.done (by first | exact Or.inl rfl | exact Or.inr rfl) rfl (by first | exact K.Base.le.refl _ | assumption) (H' := [bufA 5 1 a' (pre ++ [UInt8.ofNat y]).length cap' (pre.map u8 ++ [.int .u8 y])]) rfl ⟨rfl, a', cap', ?_, ?_⟩
  ·rw [← hpre]; rfl
  ·rw [← hpre, List.map_append, List.map_singleton, K.u8_of (by omega)]

theorem RefText (h : Base) (t : ByteArray) (hb : t.size ≤ 1099511627776) : Tr Tryz.prog 106 [.string t] h [] (Gave h (cu t.size ++ t.data.toList)) := by
 refine K.enter Tryz.func106 rfl (Nat.le_of_ble_eq_true rfl) (fun F => ?_)
 have hcl := cu_len t.size
 have hsz : t.data.toList.length = t.size := by simp
 (repeat' first | refine X.rq ?_ | refine X.rc ?_ ?_ <;> intro hc <;> try omega)
 refine K.l_call (Fx.cal rfl) rfl (RefUint h t.size (by omega)) (K.pp [] rfl) rfl ?_
 rintro v h' H' - ⟨rfl, a, cap, rfl, rfl⟩
 (repeat' first | refine X.rq ?_ | refine X.rc ?_ ?_ <;> intro hc <;> try omega)
 refine K.c_loop (σ := Nat × Option Nat × Nat) (fun s => [(0, .string t), (3, bufV s.2.1 ((cu t.size).length + s.1) s.2.2), (4, .int .i64 s.1)]) (fun _ => h)
  (fun s => bufA 5 1 s.2.1 ((cu t.size).length + s.1) s.2.2 ((cu t.size ++ t.data.toList.take s.1).map u8) :: F) (fun s => s.1 ≤ t.size) (fun s => t.size - s.1) (0, a, cap) (Nat.zero_le _) (by repeat (first | exact K.Sub.nil _ | refine K.Sub.cons rfl ?_)) rfl (by rw [List.take_zero, List.append_nil]; rfl) ?_
 rintro ⟨j, a, cap⟩ hj KL hKL
 dsimp only at hj ⊢
 by_cases hjl : j < t.size
 ·have hc0 : t.data.toList[((j : Nat) : Int).toNat]? = some (t.data.toList[j]'(by omega)) := by rw [Int.toNat_natCast]; exact List.getElem?_eq_getElem (by omega)
  have htk : t.data.toList.take (j + 1) = t.data.toList.take j ++ [t.data.toList[j]'(by omega)] := List.take_succ_eq_append_getElem (by omega)
  generalize t.data.toList[j]'(by omega) = c at hc0 htk
  (repeat' first | refine X.rq ?_ | refine X.rc ?_ ?_ <;> intro hc <;> try omega)
  refine X.bs (fun B => ?_)
  refine K.l_append_at 1 rfl (Fx.und rfl) (Fx.und rfl) rfl (Fx.sz rfl) (Fx.zr rfl) rfl (Fx.byt rfl) rfl rfl (K.src_one (K.cel_own 0 rfl rfl) rfl) (by omega) (by omega) rfl (fun a' cap' => ?_)
  simp only [Go.K.nmz]
  (repeat' first | refine X.rq ?_ | refine X.rc ?_ ?_ <;> intro hc <;> try omega)
  refine K.AT.drop (K.a_round hKL (j + 1, a', cap') (by omega) (by repeat (first | exact K.Sub.nil _ | refine K.Sub.cons rfl ?_)) rfl ?_ (by dsimp only; omega))
  dsimp only
  rw [htk, ← List.append_assoc, List.map_append (l₁ := cu t.size ++ _)]; rfl
 ·(repeat' first | refine X.rq ?_ | refine X.rc ?_ ?_ <;> intro hc <;> try omega)
  obtain rfl : j = t.size := by omega
  rw [List.take_of_length_le (by omega)]
  refine K.done (by first | exact Or.inl rfl | exact Or.inr rfl) rfl (by first | exact K.Base.le.refl _ | assumption) (H' := [bufA 5 1 a ((cu t.size).length + t.size) cap ((cu t.size ++ t.data.toList).map u8)]) rfl ⟨rfl, a, cap, ?_, ?_⟩
  ·rw [List.length_append, hsz]; rfl
  ·rw [List.length_append, hsz]
end Go.Proofs.YtmcdaegaopfihaaGreat.Ra
end

section
namespace Go.Proofs.YtmcdaegaopfihaaGreat.Pg
open Go Go.K Go.Proofs Go.Proofs.YtmcdaegaopfihaaGreat Go.Proofs.YtmcdaegaopfihaaGreat.Ra
set_option linter.unusedVariables false
set_option linter.unusedSimpArgs false
set_option maxRecDepth 10000

theorem u8_ones (l : List UInt8) : ∀ u ∈ l.map u8, oneCell u = true := fun u hu => by
 obtain ⟨c, _, rfl⟩ := List.mem_map.1 hu
 rfl
section
variable {n : Nat} {Q : Exit → Act → World → Prop} {E : Env} {h : Base} {H R : List Asrt} {ops : Array Oper} {rest : List Oper} {t t2 ty : TypeId} {ps : String} {af : Array Edge} {d : Nat} {x y : Operand}
theorem l_appBB {a a2 : Option Nat} {cap cap2 : Nat} {l l2 : List UInt8} (hu : Tryz.prog.underlying t = some (.slice 5)) (hu2 : Tryz.prog.underlying t2 = some (.slice 5)) (hx : lkO E x = some (bufV a l.length cap)) (hy : lkO E y = some (bufV a2 l2.length cap2))
  (hl : l.length + l2.length ≤ 1000000000) (hd : Nat.blt d n = true) (hk : ∀ a' cap', WL Tryz.prog n ops Q rest ((d, bufV a' (l ++ l2).length cap') :: E) h (bufA 5 1 a' (l ++ l2).length cap' ((l ++ l2).map u8) :: R)) :
  WL Tryz.prog n ops Q (⟨some d, .call ⟨.builtin .append, #[x, y], #[t, t2]⟩, ty, ps, af, none⟩ :: rest) E h (bufA 5 1 a2 l2.length cap2 (l2.map u8) :: bufA 5 1 a l.length cap (l.map u8) :: R) := by
 refine K.l_append_at (e := 5) 1 rfl hu hu2 rfl (Fx.sz rfl) (Fx.zr rfl) rfl (Fx.byt rfl) hx hy (K.src_buf 0 rfl (u8_ones l2) (by simp)) (by omega) (by omega) hd (fun a' cap' => ?_)
 simp only [Go.K.nmz]
 refine K.WL.drop ?_
 have := hk a' cap'
 rw [List.length_append, List.map_append] at this
 exact this
theorem l_appBV {a : Option Nat} {cap : Nat} {l l2 : List UInt8} {v : Value} (hb : BV h v l2) (hu : Tryz.prog.underlying t = some (.slice 5)) (hu2 : Tryz.prog.underlying t2 = some (.slice 5)) (hx : lkO E x = some (bufV a l.length cap)) (hy : lkO E y = some v)
  (hl : l.length + l2.length ≤ 1000000000) (hd : Nat.blt d n = true) (hk : ∀ a' cap', WL Tryz.prog n ops Q rest ((d, bufV a' (l ++ l2).length cap') :: E) h (bufA 5 1 a' (l ++ l2).length cap' ((l ++ l2).map u8) :: R)) :
  WL Tryz.prog n ops Q (⟨some d, .call ⟨.builtin .append, #[x, y], #[t, t2]⟩, ty, ps, af, none⟩ :: rest) E h (bufA 5 1 a l.length cap (l.map u8) :: R) := by
 refine K.l_append_at (e := 5) 0 rfl hu hu2 rfl (Fx.sz rfl) (Fx.zr rfl) rfl (Fx.byt rfl) hx hy hb.src (by omega) (by omega) hd (fun a' cap' => ?_)
 simp only [Go.K.nmz]
 have := hk a' cap'
 rw [List.length_append, List.map_append] at this
 exact this
end
end Go.Proofs.YtmcdaegaopfihaaGreat.Pg
end

section
namespace Go.Proofs.YtmcdaegaopfihaaGreat.Wl
open Go Go.K Go.Proofs Go.Proofs.YtmcdaegaopfihaaGreat Go.Proofs.YtmcdaegaopfihaaGreat.Pg Go.Proofs.YtmcdaegaopfihaaGreat.Ra Go.Proofs.YtmcdaegaopfihaaGreat.Cc
set_option linter.unusedVariables false
set_option linter.unusedSimpArgs false
set_option maxRecDepth 10000

structure PdS where
 a : Option Nat
 c : Nat
 m : List UInt8
theorem pad_put (l : List UInt8) (h : l.length < 512) : padS (l ++ [0]) = padS l := by
 unfold padS
 rw [List.length_append, List.append_assoc, show [0] ++ List.replicate (512 - (l.length + [(0 : UInt8)].length)) (0 : UInt8) = List.replicate (512 - l.length) 0 by
  rw [show 512 - l.length = (512 - (l.length + 1)) + 1 by omega, List.replicate_succ]; rfl]
theorem pad_full (l : List UInt8) (h : l.length = 512) : padS l = l := by unfold padS; rw [h]; simp
set_option maxHeartbeats 1000000 in
theorem Padded (h : Base) (a : Option Nat) (c : Nat) (l : List UInt8) (hl : l.length ≤ 512) : Tr Tryz.prog 56 [bufV a l.length c] h [bufA 5 1 a l.length c (l.map u8)] (Gave h (padS l)) := by
 refine K.enter Tryz.func56 rfl (Nat.le_of_ble_eq_true rfl) (fun F => ?_)
 simp only [List.cons_append, List.nil_append]
 (repeat' first | refine X.rq ?_ | refine X.rc ?_ ?_ <;> intro hc <;> try omega)
 refine K.c_loop (σ := PdS) (fun q => [(0, bufV q.a q.m.length q.c)]) (fun _ => h) (fun q => bufA 5 1 q.a q.m.length q.c (q.m.map u8) :: F)
  (fun q => q.m.length ≤ 512 ∧ padS q.m = padS l) (fun q => 512 - q.m.length) ⟨a, c, l⟩ ⟨hl, rfl⟩ (by repeat (first | exact K.Sub.nil _ | refine K.Sub.cons rfl ?_)) rfl rfl ?_
 rintro ⟨a2, c2, m⟩ ⟨hm, hp⟩ KL hKL
 dsimp only at hm hp ⊢
 by_cases hjl : m.length < 512
 ·(repeat' first | refine X.rq ?_ | refine X.rc ?_ ?_ <;> intro hc <;> try omega)
  refine X.bs (fun B => ?_)
  rw [show [Value.int .u8 0] = ([0] : List UInt8).map u8 from rfl]
  refine K.WL.bufOf (m := 1) (s := 1) rfl (by unfold maxLen; omega) ?_
  refine l_appBB (l := m) (l2 := [0]) (Fx.und rfl) (Fx.und rfl) rfl rfl (by show m.length + 1 ≤ _; omega) rfl (fun a3 c3 => ?_)
  (repeat' first | refine X.rq ?_ | refine X.rc ?_ ?_ <;> intro hc <;> try omega)
  refine K.a_round hKL ⟨a3, c3, m ++ [0]⟩ ⟨by show (m ++ [0]).length ≤ _; rw [List.length_append]; show m.length + 1 ≤ _; omega, by show padS (m ++ [0]) = _; rw [pad_put m hjl, hp]⟩ (by repeat (first | exact K.Sub.nil _ | refine K.Sub.cons rfl ?_)) rfl rfl (by show _ - (m ++ [0]).length < _ - m.length; rw [List.length_append]; show _ - (m.length + 1) < _; omega)
 ·(repeat' first | refine X.rq ?_ | refine X.rc ?_ ?_ <;> intro hc <;> try omega)
  rw [← hp, pad_full m (by omega)]
  refine K.done (by first | exact Or.inl rfl | exact Or.inr rfl) rfl (by first | exact K.Base.le.refl _ | assumption) (H' := [_]) rfl ⟨rfl, a2, c2, rfl, rfl⟩
theorem one_zero : [Value.int .u8 0] = ([0] : List UInt8).map u8 := rfl
theorem magic_v : [Value.int .u8 99, .int .u8 97, .int .u8 100, .int .u8 97, .int .u8 115, .int .u8 116, .int .u8 114, .int .u8 101] = magic.map u8 := rfl
set_option maxHeartbeats 2000000 in
theorem MasterBytes (h : Base) (n base check kept : Nat) (hn : n ≤ 8192) (hb : base < 18446744073709551616) (hc : check < 18446744073709551616) (hk : kept < 4294967296) :
  Tr Tryz.prog 54 [.int .i64 n, n64 base, n64 check, .int .u32 kept, .int .u8 0] h [] (Gave h (masterB ⟨n, base, check, kept, false⟩)) := by
 have hF1 := fun h => Fixed h n 4 (by omega) (by omega)
 have hF2 := fun h => Fixed h base 8 hb (by omega)
 have hF3 := fun h => Fixed h check 8 hc (by omega)
 have hF4 := fun h => Fixed h kept 4 (by omega) (by omega)
 refine K.enter Tryz.func54 rfl (Nat.le_of_ble_eq_true rfl) (fun F => ?_)
 simp only [List.cons_append, List.nil_append]
 unfold n64
 (repeat' first | refine X.rq ?_ | refine X.rc ?_ ?_ <;> intro hc <;> try omega)
 refine X.bs (fun B => ?_)
 rw [magic_v]
 refine K.l_mark (Fx.und rfl) (Fx.und rfl) rfl rfl (by unfold maxLen; omega) rfl ?_
 (repeat' first | refine X.rq ?_ | refine X.rc ?_ ?_ <;> intro hc <;> try omega)
 refine K.l_call (Fx.cal rfl) rfl (hF1 _) (K.pp [] rfl) rfl ?_
 rintro u h' H' - ⟨rfl, a2, c2, rfl, rfl⟩
 simp only [List.cons_append, List.nil_append]
 refine l_appBB (l := magic) (l2 := lebs n 4) (Fx.und rfl) (Fx.und rfl) rfl rfl (by rw [lebs_length]; decide) rfl (fun a3 c3 => ?_)
 (repeat' first | refine X.rq ?_ | refine X.rc ?_ ?_ <;> intro hc <;> try omega)
 refine K.l_call (Fx.cal rfl) rfl (hF2 _) (K.pp [] rfl) rfl ?_
 rintro u h' H' - ⟨rfl, a4, c4, rfl, rfl⟩
 simp only [List.cons_append, List.nil_append]
 refine l_appBB (l := magic ++ lebs n 4) (l2 := lebs base 8) (Fx.und rfl) (Fx.und rfl) rfl rfl (by rw [List.length_append, lebs_length, lebs_length]; decide) rfl (fun a5 c5 => ?_)
 (repeat' first | refine X.rq ?_ | refine X.rc ?_ ?_ <;> intro hc <;> try omega)
 refine K.l_call (Fx.cal rfl) rfl (hF3 _) (K.pp [] rfl) rfl ?_
 rintro u h' H' - ⟨rfl, a6, c6, rfl, rfl⟩
 simp only [List.cons_append, List.nil_append]
 refine l_appBB (l := magic ++ lebs n 4 ++ lebs base 8) (l2 := lebs check 8) (Fx.und rfl) (Fx.und rfl) rfl rfl (by rw [List.length_append, List.length_append, lebs_length, lebs_length, lebs_length]; decide) rfl (fun a7 c7 => ?_)
 (repeat' first | refine X.rq ?_ | refine X.rc ?_ ?_ <;> intro hc <;> try omega)
 refine K.l_call (Fx.cal rfl) rfl (hF4 _) (K.pp [] rfl) rfl ?_
 rintro u h' H' - ⟨rfl, a8, c8, rfl, rfl⟩
 simp only [List.cons_append, List.nil_append]
 refine l_appBB (l := magic ++ lebs n 4 ++ lebs base 8 ++ lebs check 8) (l2 := lebs kept 4) (Fx.und rfl) (Fx.und rfl) rfl rfl (by rw [List.length_append, List.length_append, List.length_append, lebs_length, lebs_length, lebs_length, lebs_length]; decide) rfl (fun a9 c9 => ?_)
 (repeat' first | refine X.rq ?_ | refine X.rc ?_ ?_ <;> intro hc <;> try omega)
 refine X.bs (fun B2 => ?_)
 rw [one_zero]
 refine K.WL.bufOf (m := 1) (s := 1) rfl (by unfold maxLen; omega) ?_
 have hl5 : (magic ++ lebs n 4 ++ lebs base 8 ++ lebs check 8 ++ lebs kept 4).length = 32 := by rw [List.length_append, List.length_append, List.length_append, List.length_append, lebs_length, lebs_length, lebs_length, lebs_length]; rfl
 have hl6 : (magic ++ lebs n 4 ++ lebs base 8 ++ lebs check 8 ++ lebs kept 4 ++ [0]).length = 33 := by rw [List.length_append, hl5]; rfl
 have e : padS (magic ++ lebs n 4 ++ lebs base 8 ++ lebs check 8 ++ lebs kept 4 ++ [0]) = masterB ⟨n, base, check, kept, false⟩ := by
  rw [pad_put _ (by omega)]
  unfold masterB headB
  simp
 refine l_appBB (l := magic ++ lebs n 4 ++ lebs base 8 ++ lebs check 8 ++ lebs kept 4) (l2 := [0]) (Fx.und rfl) (Fx.und rfl) rfl rfl (by rw [hl5]; decide) rfl (fun a10 c10 => ?_)
 have hP := Padded h a10 c10 _ (Nat.le_trans (Nat.le_of_eq hl6) (by decide))
 rw [e] at hP
 (repeat' first | refine X.rq ?_ | refine X.rc ?_ ?_ <;> intro hc <;> try omega)
 refine K.l_call (Fx.cal rfl) rfl hP (K.pp [0] rfl) rfl ?_
 rintro u h' H' - ⟨rfl, a11, c11, rfl, rfl⟩
 simp only [List.cons_append, List.nil_append]
 (repeat' first | refine X.rq ?_ | refine X.rc ?_ ?_ <;> intro hc <;> try omega)
 refine K.done (by first | exact Or.inl rfl | exact Or.inr rfl) rfl (by first | exact K.Base.le.refl _ | assumption) (H' := [_]) rfl ⟨rfl, a11, c11, rfl, rfl⟩
end Go.Proofs.YtmcdaegaopfihaaGreat.Wl
end
