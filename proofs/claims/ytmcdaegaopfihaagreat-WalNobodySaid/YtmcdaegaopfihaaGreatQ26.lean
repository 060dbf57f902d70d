/-
  Texts joined: Fh Fi Fo Hc Ra Fr Hj Hf. Conditions: each theorem's own.
-/
import Derived.Test.YtmcdaegaopfihaaGreatQ7
import Derived.Test.YtmcdaegaopfihaaGreatQ15
import Derived.Test.YtmcdaegaopfihaaGreatQ6
import Derived.Test.YtmcdaegaopfihaaGreatQ9
import Derived.Test.YtmcdaegaopfihaaGreatQ0
import Derived.Test.YtmcdaegaopfihaaGreatQ19
import Derived.Test.YtmcdaegaopfihaaGreatQ3
section
namespace Go.Proofs.YtmcdaegaopfihaaGreat.Pg
open Go Go.K Go.Proofs Go.Proofs.YtmcdaegaopfihaaGreat
set_option linter.unusedVariables false
set_option linter.unusedSimpArgs false
set_option maxRecDepth 10000

def freeQ (l : List PCell) : Bool := l.any (fun x => !x.used)
def freeAt (l : List PCell) (j : Nat) : Bool := match l[j]? with
  | some x => !x.used
  | none => false
def roomN (l : List PCell) : Int := if freeQ l = true then 508 - sizeQ l else if l.length = 60 then 0 else 506 - sizeQ l
def roomQ (p : Pag) : Int := if mayQ p = true ∧ p.kind ≠ 3 then max 0 (min (roomN p.cells) 180) else 0
end Go.Proofs.YtmcdaegaopfihaaGreat.Pg
end

section
namespace Go.Proofs.YtmcdaegaopfihaaGreat.Pg
open Go Go.K Go.Proofs Go.Proofs.YtmcdaegaopfihaaGreat
set_option linter.unusedVariables false
set_option linter.unusedSimpArgs false
set_option maxRecDepth 10000

structure OC where
  used : Bool
  killer : Nat
  a : Option Nat
  cap : Nat
  data : List UInt8
def OC.cell (c : OC) : PCell := ⟨c.used, c.killer, c.data⟩
def rowO (c : OC) : List Value := [.bool c.used, .int .u32 c.killer, bufV c.a c.data.length c.cap]
def datA (c : OC) : Asrt := bufA 5 1 c.a c.data.length c.cap (c.data.map u8)
def pgA (b : Option Nat) (cap : Nat) (l : List OC) : List Asrt := [bufA 90 3 b l.length cap (l.map rowO).flatten, all (l.map datA)]
def okO (l : List OC) : Prop := ∀ c ∈ l, c.killer < 4294967296
def OwnP (h0 : Base) (p : Pag) (v : Value) (h' : Base) (H' : List Asrt) : Prop := h' = h0 ∧ ∃ b cap l, p.cells = l.map OC.cell ∧ okO l ∧ v = .agg (cP p (bufV b p.cells.length cap)).toArray ∧ H' = pgA b cap l
section
variable {P : Program} {n : NN} {Q : Exit → Act → World → Prop} {E : Env} {h : Base} {H F : List Asrt} {ops : Array Oper}
theorem Ok.allNil {w : World} (ok : Ok h F w) : Ok h (all [] :: F) w := K.Ok.all_iff.2 ok
theorem WL.allNil {L : List Oper} (hx : WL P n ops Q L E h (all [] :: F)) : WL P n ops Q L E h F := ⟨fun a w fa ok => hx.run a w fa (Ok.allNil ok)⟩
theorem WC.allNil {c : Code} (hx : WC P n c Q E h (all [] :: F)) : WC P n c Q E h F := ⟨fun a w fa ok => hx.run a w fa (Ok.allNil ok)⟩
theorem AT.allNil {q : Exit} (hx : AT P n Q q E h (all [] :: F)) : AT P n Q q E h F := ⟨fun a w fa ok => hx.run a w fa (Ok.allNil ok)⟩
end
/-! ### Rows that are made -/
theorem rep_flat (zs : List Value) : ∀ (m i : Nat), i < m * zs.length → (List.replicate m zs).flatten[i]? = zs[i % zs.length]?
  | 0, i, hi => by simp at hi
  | m + 1, i, hi => by
    rw [List.replicate_succ, List.flatten_cons]
    by_cases h : i < zs.length
    · rw [List.getElem?_append_left h, Nat.mod_eq_of_lt h]
    · rw [List.getElem?_append_right (by omega), rep_flat zs m (i - zs.length) (by rw [Nat.add_mul] at hi; omega)]
      congr 1
      rw [← Nat.mod_eq_sub_mod (by omega)]
theorem made_rows (zs : List Value) (m c : Nat) (hm : m ≤ c) (hz : 0 < zs.length) : (madeCells zs.toArray (c * zs.length)).toList.take (m * zs.length) = (List.replicate m zs).flatten := by
  have hmc : m * zs.length ≤ c * zs.length := Nat.mul_le_mul_right _ hm
  have hfl : (List.replicate m zs).flatten.length = m * zs.length := by rw [K.flatten_len (s := zs.length) _ fun e he => by rw [List.eq_of_mem_replicate he], List.length_replicate]
  refine List.ext_getElem? fun i => ?_
  by_cases hi : i < m * zs.length
  · rw [List.getElem?_take, if_pos hi, rep_flat zs m i hi]
    simp only [madeCells, List.size_toArray, Array.toList_map, Array.toList_range, List.getElem?_map]
    rw [List.getElem?_range (by omega)]
    have hlt := Nat.mod_lt i hz
    simp [hlt]
  · have hml : (madeCells zs.toArray (c * zs.length)).toList.length = c * zs.length := (Array.length_toList ..).trans (size_madeCells _ _)
    rw [List.getElem?_eq_none (by rw [List.length_take, hml]; omega), List.getElem?_eq_none (by omega)]
def zrow : List Value := [.bool false, .int .u32 0, .slice none 0 0]
def fillR (l : List OC) (m : Nat) : List (List Value) := l.map rowO ++ List.replicate (m - l.length) zrow
end Go.Proofs.YtmcdaegaopfihaaGreat.Pg
end

section
namespace Go.Proofs.YtmcdaegaopfihaaGreat.Pg
open Go Go.K Go.Proofs Go.Proofs.YtmcdaegaopfihaaGreat Go.Proofs.YtmcdaegaopfihaaGreat.Ca
set_option linter.unusedVariables false
set_option linter.unusedSimpArgs false
set_option maxRecDepth 10000

theorem W_RawB (h : Base) (s : WSt) (v : Value) (b : List UInt8) (hv : BV h v b) (hl : (wb s).length + b.length ≤ big) :
    Tr Tryz.prog 60 [wv s, v] h [wA s] (Wrote h s b) := by
  unfold big at hl
  obtain ⟨ao, ca, rfl⟩ := hv.len
  match s with
  | none =>
    refine K.enter Tryz.func60 rfl (Nat.le_of_ble_eq_true rfl) (fun F => ?_)
    simp only [wv]
    (repeat' (first | refine X.rq ?_ | (refine X.rc ?_ ?_ <;> intro hc <;> first | (exfalso; omega) | skip)))
    refine K.done (by first | exact Or.inl rfl | exact Or.inr rfl) rfl (by first | exact K.Base.le.refl _ | assumption) (H' := [wA none]) rfl ⟨rfl, rfl, none, trivial, rfl⟩
  | some (p, none) =>
    refine K.enter Tryz.func60 rfl (Nat.le_of_ble_eq_true rfl) (fun F => ?_)
    refine K.WC.open ?_
    simp only [wH, wv, List.cons_append, List.nil_append]
    (repeat' (first | refine X.rq ?_ | (refine X.rc ?_ ?_ <;> intro hc <;> first | (exfalso; omega) | skip)))
    refine K.AT.close (wH (some (p, none))) ?_
    refine K.done (by first | exact Or.inl rfl | exact Or.inr rfl) rfl (by first | exact K.Base.le.refl _ | assumption) (H' := [wA (some (p, none))]) rfl ⟨rfl, rfl, some (p, none), rfl, rfl⟩
  | some (p, some (a0, cap0, l)) =>
    simp only [wb] at hl
    refine K.enter Tryz.func60 rfl (Nat.le_of_ble_eq_true rfl) (fun F => ?_)
    refine K.WC.open ?_
    simp only [wH, wv, List.cons_append, List.nil_append]
    (repeat' (first | refine X.rq ?_ | (refine X.rc ?_ ?_ <;> intro hc <;> first | (exfalso; omega) | skip)))
    refine K.l_append_at 1 rfl (Fx.und rfl) (Fx.und rfl) rfl (Fx.sz rfl) (Fx.zr rfl) rfl (Fx.byt rfl) rfl rfl (hv.src) (by omega) (by omega) rfl (fun a' cap' => ?_)
    simp only [List.set_cons_zero, List.set_cons_succ, List.eraseIdx_cons_zero, List.eraseIdx_cons_succ, List.cons_append, List.nil_append]
    (repeat' (first | refine X.rq ?_ | (refine X.rc ?_ ?_ <;> intro hc <;> first | (exfalso; omega) | skip)))
    refine X.sto ?_
    (repeat' (first | refine X.rq ?_ | (refine X.rc ?_ ?_ <;> intro hc <;> first | (exfalso; omega) | skip)))
    rw [← List.map_append, ← List.length_append]
    refine K.AT.close (wH (some (p, some (a', cap', l ++ b)))) ?_
    refine K.done (by first | exact Or.inl rfl | exact Or.inr rfl) rfl (by first | exact K.Base.le.refl _ | assumption) (H' := [wA (some (p, some (a', cap', l ++ b)))]) rfl ⟨rfl, rfl, some (p, some (a', cap', l ++ b)), ⟨rfl, rfl⟩, rfl⟩
def byC (x : PCell) : List UInt8 := lebs x.data.length 2 ++ if x.used = true then lebs x.killer 4 ++ x.data else []
def cellsB (l : List PCell) : List UInt8 := l.flatMap byC
def bodyB (p : Pag) : List UInt8 := lebs p.kind.toNat 1 ++ lebs p.cells.length 1 ++ lebs p.lsn 8 ++ lebs p.next 4 ++ cellsB p.cells
def padB (p : Pag) : List UInt8 := bodyB p ++ List.replicate (508 - (bodyB p).length) 0
def encB (p : Pag) : List UInt8 := lebs (sumQ 0 (padB p)) 4 ++ padB p
def encQ (p : Pag) : List UInt8 × Int := if mayQ p = true then (encB p, 0) else ([], 5)
theorem may_ok {p : Pag} (hm : mayQ p = true) : ∀ x ∈ p.cells, okCell x := fun x hx => by
  obtain ⟨i, hi, e⟩ := List.getElem_of_mem hx
  exact (((mayQ_iff p).1 hm).2.2.1 i x (by rw [List.getElem?_eq_getElem hi, e])).1
theorem wadd_some {bs : List UInt8} {p : Nat} {a : Option Nat} {cap : Nat} {l : List UInt8} : ∀ {s : WSt}, wadd bs (some (p, some (a, cap, l))) s → ∃ a' cap', s = some (p, some (a', cap', l ++ bs))
  | some (_, some (a', cap', _)), h => ⟨a', cap', by rw [h.1, h.2]⟩
  | none, h => h.elim
  | some (_, none), h => h.elim
end Go.Proofs.YtmcdaegaopfihaaGreat.Pg
end

section
namespace Go.Proofs.YtmcdaegaopfihaaGreat.Rc
open Go Go.K Go.Proofs Go.Proofs.YtmcdaegaopfihaaGreat Go.Proofs.YtmcdaegaopfihaaGreat.Pg Go.Proofs.YtmcdaegaopfihaaGreat.Ca
set_option linter.unusedVariables false
set_option linter.unusedSimpArgs false
set_option maxRecDepth 10000

def Wr (P : Nat) (l : List UInt8) (u : Value) (h0 h' : Base) (H' : List Asrt) : Prop := h' = h0 ∧ u = unit ∧ ∃ a c, H' = [wA (some (P, some (a, c, l)))]
abbrev wp (P : Nat) : Value := .pointer (some ⟨P, 0, none⟩)
theorem cuF_len : ∀ (f x : Nat), (cuF f x).length ≤ f + 1
  | 0, x => by simp [cuF]
  | f + 1, x => by
    unfold cuF
    split
    · simp
    · have := cuF_len f (x / 128)
      rw [List.length_cons]; omega
theorem cu_len (x : Nat) : (cu x).length ≤ 10 := cuF_len 9 x
theorem V_Uint (h : Base) (P : Nat) (a : Option Nat) (c : Nat) (l : List UInt8) (x : Nat) (hx : x < 18446744073709551616) (hl : l.length ≤ 1000000000) :
    Tr Tryz.prog 88 [wp P, .int .u64 x] h [wA (some (P, some (a, c, l)))] (fun u h' H' => Wr P (l ++ cu x) u h h' H') := fun F w ok =>
  Calls.mono (W_Uint h (some (P, some (a, c, l))) x hx (by simp only [wb, big]; omega) F w ok) fun e w' ⟨u, he, h1, H1, hle, ⟨q1, q2, s', q3, q4⟩, ok1⟩ => by
    obtain ⟨a', c', rfl⟩ := wadd_some q3
    exact ⟨u, he, h1, H1, hle, ⟨q2.symm, q1, a', c', q4⟩, ok1⟩
theorem V_U8 (h : Base) (P : Nat) (a : Option Nat) (c : Nat) (l : List UInt8) (x : Nat) (hx : x < 256) (hl : l.length ≤ 1000000000) :
    Tr Tryz.prog 86 [wp P, .int .u8 x] h [wA (some (P, some (a, c, l)))] (fun u h' H' => Wr P (l ++ lebs x 1) u h h' H') := fun F w ok =>
  Calls.mono (W_U8 h (some (P, some (a, c, l))) x hx (by simp only [wb, big]; omega) F w ok) fun e w' ⟨u, he, h1, H1, hle, ⟨q1, q2, s', q3, q4⟩, ok1⟩ => by
    obtain ⟨a', c', rfl⟩ := wadd_some q3
    exact ⟨u, he, h1, H1, hle, ⟨q2.symm, q1, a', c', q4⟩, ok1⟩
theorem V_Raw (h : Base) (P : Nat) (a : Option Nat) (c : Nat) (l : List UInt8) (v : Value) (b : List UInt8) (hv : BV h v b) (hl : l.length ≤ 1000000000) (hb : b.length ≤ 1000000000) :
    Tr Tryz.prog 60 [wp P, v] h [wA (some (P, some (a, c, l)))] (fun u h' H' => Wr P (l ++ b) u h h' H') := fun F w ok =>
  Calls.mono (W_RawB h (some (P, some (a, c, l))) v b hv (by simp only [wb, big]; omega) F w ok) fun e w' ⟨u, he, h1, H1, hle, ⟨q1, q2, s', q3, q4⟩, ok1⟩ => by
    obtain ⟨a', c', rfl⟩ := wadd_some q3
    exact ⟨u, he, h1, H1, hle, ⟨q2.symm, q1, a', c', q4⟩, ok1⟩
theorem V_Text (h : Base) (P : Nat) (a : Option Nat) (c : Nat) (l b : List UInt8) (hl : l.length ≤ 1000000000) (hb : b.length ≤ 1000000000) :
    Tr Tryz.prog 89 [wp P, .string ⟨b.toArray⟩] h [wA (some (P, some (a, c, l)))] (fun u h' H' => Wr P (l ++ (cu b.length ++ b)) u h h' H') := fun F w ok =>
  Calls.mono (W_Text h (some (P, some (a, c, l))) ⟨b.toArray⟩ (by simp only [wb, big]; show _ + b.length + 16 ≤ _; omega) F w ok) fun e w' ⟨u, he, h1, H1, hle, ⟨q1, q2, s', q3, q4⟩, ok1⟩ => by
    obtain ⟨a', c', rfl⟩ := wadd_some q3
    exact ⟨u, he, h1, H1, hle, ⟨q2.symm, q1, a', c', q4⟩, ok1⟩
theorem flat_at {α β : Type} {l : List α} {j : Nat} {x : α} (f : α → List β) (h : l[j]? = some x) : (l.take (j + 1)).flatMap f = (l.take j).flatMap f ++ f x := by
  rw [List.take_add_one, h, List.flatMap_append]
  simp
theorem nums_len : ∀ (xs : List Nat), (xs.flatMap cu).length ≤ 10 * xs.length
  | [] => Nat.le_refl _
  | x :: xs => by
    have h1 := nums_len xs
    have h2 := cu_len x
    rw [List.flatMap_cons, List.length_append, List.length_cons]; omega
set_option maxHeartbeats 1000000 in
theorem Numbers (h : Base) (P : Nat) (a : Option Nat) (c : Nat) (l : List UInt8) (v : Value) (xs : List Nat) (hv : U64s h v xs) (hx : ∀ x ∈ xs, x < 18446744073709551616) (hn : xs.length ≤ 10) (hl : l.length ≤ 900000000) :
    Tr Tryz.prog 87 [wp P, v] h [wA (some (P, some (a, c, l)))] (fun u h' H' => Wr P (l ++ xs.flatMap cu) u h h' H') := by
  unfold U64s at hv
  obtain ⟨ao, ca, rfl⟩ := hv.len
  rw [List.length_map] at hv ⊢
  refine K.enter Tryz.func87 rfl (Nat.le_of_ble_eq_true rfl) (fun F => ?_)
  simp only [List.cons_append, List.nil_append]
  (repeat' (first | refine X.rq ?_ | (refine X.rc ?_ ?_ <;> intro hc <;> first | (exfalso; omega) | skip)))
  refine K.c_loop (σ := Nat × Option Nat × Nat) (fun s => [(0, wp P), (6, .slice ao xs.length ca), (7, .int .i64 xs.length), (8, .int .i64 s.1)]) (fun _ => h) (fun s => wA (some (P, some (s.2.1, s.2.2, l ++ (xs.take s.1).flatMap cu))) :: F)
    (fun s => s.1 ≤ xs.length) (fun s => xs.length - s.1) (0, a, c) (Nat.zero_le _) (by repeat (first | exact K.Sub.nil _ | refine K.Sub.cons rfl ?_)) rfl (by simp) ?_
  rintro ⟨j, a1, c1⟩ hj KL hKL
  dsimp only at hj ⊢
  by_cases hjl : j < xs.length
  · have hx1 : xs[j]? = some xs[j] := List.getElem?_eq_getElem hjl
    have hxl := hx _ (List.getElem_mem hjl)
    generalize xs[j] = x at hx1 hxl
    have hc0 : (xs.map fun x => [n64 x])[((j : Nat) : Int).toNat]? = some [n64 x] := by rw [Int.toNat_natCast, List.getElem?_map, hx1]; rfl
    have hlen := nums_len (xs.take j)
    have hlt : (xs.take j).length ≤ 10 := by rw [List.length_take]; omega
    (repeat' (first | refine X.rq ?_ | (refine X.rc ?_ ?_ <;> intro hc <;> first | (exfalso; omega) | skip)))
    refine K.s_pureE (K.p_indexL hv (Fx.und rfl) (Fx.sz rfl) rfl rfl (by omega) hc0) rfl ?_
    rintro v2 ⟨b, o, rfl, hcel⟩
    refine K.s_pure (K.p_load (Fx.agg rfl) rfl (K.Cel.up hcel.1)) rfl ?_
    (repeat' (first | refine X.rq ?_ | (refine X.rc ?_ ?_ <;> intro hc <;> first | (exfalso; omega) | skip)))
    refine K.l_call (Fx.cal rfl) rfl (V_Uint h P a1 c1 (l ++ (xs.take j).flatMap cu) x hxl (by rw [List.length_append]; omega)) (K.pp [0] rfl) rfl ?_
    rintro u h' H' - ⟨e, rfl, a2, c2, rfl⟩
    obtain rfl := e.symm
    simp only [List.set_cons_zero, List.set_cons_succ, List.eraseIdx_cons_zero, List.eraseIdx_cons_succ, List.cons_append, List.nil_append]
    (repeat' (first | refine X.rq ?_ | (refine X.rc ?_ ?_ <;> intro hc <;> first | (exfalso; omega) | skip)))
    refine K.a_round hKL (j + 1, a2, c2) (by dsimp only; omega) (by repeat (first | exact K.Sub.nil _ | refine K.Sub.cons rfl ?_)) rfl ?_ (by dsimp only; omega)
    dsimp only
    rw [flat_at cu hx1, List.append_assoc]
  · obtain rfl : j = xs.length := by omega
    rw [List.take_length]
    (repeat' (first | refine X.rq ?_ | (refine X.rc ?_ ?_ <;> intro hc <;> first | (exfalso; omega) | skip)))
    refine K.done (by first | exact Or.inl rfl | exact Or.inr rfl) rfl (by first | exact K.Base.le.refl _ | assumption) (H' := [wA (some (P, some (a1, c1, l ++ xs.flatMap cu)))]) rfl ⟨rfl, rfl, a1, c1, rfl⟩
theorem NumsB (h : Base) (P : Nat) (a : Option Nat) (c : Nat) (l : List UInt8) (B T : Nat) (xs : List Nat) (hx : ∀ x ∈ xs, x < 18446744073709551616) (hn : xs.length ≤ 10) (hl : l.length ≤ 900000000) :
    Tr Tryz.prog 87 [wp P, .slice (some ⟨B, 0, none⟩) xs.length xs.length] h ([blk B T (xs.map n64)] ++ [wA (some (P, some (a, c, l)))]) (fun u h' H' => h' = h ∧ u = unit ∧ ∃ a c, H' = [wA (some (P, some (a, c, l ++ xs.flatMap cu)))]) :=
  K.Tr.give fun h' hle hs => fun F w ok => Calls.mono (Numbers h' P a c l _ xs (K.says_nums hs) hx hn hl F w ok) fun e w' ⟨u, he, h1, H1, hle, ⟨_, q1, q2⟩, ok1⟩ => ⟨u, he, h1, H1, hle, ⟨q1, q2⟩, ok1⟩
end Go.Proofs.YtmcdaegaopfihaaGreat.Rc
end

section
namespace Go.Proofs.YtmcdaegaopfihaaGreat.Ra
open Go Go.K Go.Proofs Go.Proofs.YtmcdaegaopfihaaGreat
set_option linter.unusedVariables false
set_option linter.unusedSimpArgs false
set_option maxRecDepth 10000

def Gave (h : Base) (l : List UInt8) (v : Value) (h' : Base) (H' : List Asrt) : Prop := h = h' ∧ ∃ a cap, v = bufV a l.length cap ∧ H' = [bufA 5 1 a l.length cap (l.map u8)]

end Go.Proofs.YtmcdaegaopfihaaGreat.Ra
end

section
namespace Go.Proofs.YtmcdaegaopfihaaGreat.Pg
open Go Go.K Go.Proofs Go.Proofs.YtmcdaegaopfihaaGreat Go.Proofs.YtmcdaegaopfihaaGreat.Ra
set_option linter.unusedVariables false
set_option linter.unusedSimpArgs false
set_option maxRecDepth 10000

section
variable {n : Nat} {Q : Exit → Act → World → Prop} {E : Env} {h : Base} {H R : List Asrt} {ops : Array Oper} {rest : List Oper} {t t2 ty : TypeId} {ps : String} {af : Array Edge} {d : Nat} {x y : Operand}
end
end Go.Proofs.YtmcdaegaopfihaaGreat.Pg
end

section
namespace Go.Proofs.YtmcdaegaopfihaaGreat.Rc
open Go Go.K Go.Proofs Go.Proofs.YtmcdaegaopfihaaGreat Go.Proofs.YtmcdaegaopfihaaGreat.Pg Go.Proofs.YtmcdaegaopfihaaGreat.Ca Go.Proofs.YtmcdaegaopfihaaGreat.Ra
set_option linter.unusedVariables false
set_option linter.unusedSimpArgs false
set_option maxRecDepth 10000

end Go.Proofs.YtmcdaegaopfihaaGreat.Rc
end

section
namespace Go.Proofs.YtmcdaegaopfihaaGreat.Rc
open Go Go.K Go.Proofs Go.Proofs.YtmcdaegaopfihaaGreat Go.Proofs.YtmcdaegaopfihaaGreat.Pg Go.Proofs.YtmcdaegaopfihaaGreat.Ca
set_option linter.unusedVariables false
set_option linter.unusedSimpArgs false
set_option maxRecDepth 10000

theorem flat_len {α : Type} (f : α → List UInt8) (b : Nat) : ∀ (l : List α), (∀ x ∈ l, (f x).length ≤ b) → (l.flatMap f).length ≤ l.length * b
  | [], _ => by simp
  | x :: l, h => by
    have h1 := flat_len f b l fun y hy => h y (List.mem_cons_of_mem _ hy)
    have h2 := h x (List.mem_cons_self ..)
    rw [List.flatMap_cons, List.length_append, List.length_cons, Nat.add_mul, Nat.one_mul]
    omega
theorem cellN_len {x : PCell} (ho : okCell x) : (cellN x).length ≤ 200 := by
  have h1 := cu_len x.data.length
  have h2 := cu_len x.killer
  unfold cellN
  rw [List.length_append]
  split
  · have := ho.1 (by assumption)
    rw [List.length_append]; omega
  · rw [List.length_nil]; omega
theorem pagN_len {p : Pag} (hm : mayQ p = true) : (pagN p).length ≤ 12030 := by
  have h1 := cu_len p.next
  have h2 := cu_len p.cells.length
  have h3 := flat_len cellN 200 p.cells fun x hx => cellN_len (may_ok hm x hx)
  have h4 := ((mayQ_iff p).1 hm).2.1
  have h5 : p.cells.length * 200 ≤ 60 * 200 := Nat.mul_le_mul_right _ h4
  unfold pagN cellsN
  simp only [List.length_append, lebs_length]
  omega
set_option maxHeartbeats 2000000 in
theorem PImage (h : Base) (P : Nat) (a : Option Nat) (c : Nat) (l : List UInt8) (cs : List Value) (p : Pag) (hx : PagC h cs p) (hm : mayQ p = true) (hl : l.length ≤ 800000000) :
    Tr Tryz.prog 90 [wp P, .agg cs.toArray] h [wA (some (P, some (a, c, l)))] (fun u h' H' => Wr P (l ++ pagN p) u h h' H') := by
  obtain ⟨hw, cv, rfl, es, hv, hel, hr⟩ := hx
  obtain ⟨ao, ca, rfl⟩ := hv.len
  rw [hel] at hv ⊢
  obtain ⟨⟨hk1, hk3⟩, h60, _, _⟩ := (mayQ_iff p).1 hm
  have hok := may_ok hm
  obtain ⟨k, hk⟩ : ∃ k : Nat, p.kind = k := ⟨p.kind.toNat, by omega⟩
  have hkn : p.kind.toNat = k := by omega
  have hwn := hw.next
  have hpn : pagN p = lebs k 1 ++ (cu p.next ++ cu p.cells.length) ++ cellsN p.cells := by
    unfold pagN; rw [hkn]; simp only [List.append_assoc]
  rw [hpn]
  refine K.enter Tryz.func90 rfl (Nat.le_of_ble_eq_true rfl) (fun F => ?_)
  simp only [List.cons_append, List.nil_append]
  (repeat' (first | refine X.rq ?_ | (refine X.rc ?_ ?_ <;> intro hc <;> first | (exfalso; omega) | skip)))
  refine K.l_box rfl rfl rfl (fun B3 => ?_)
  (repeat' (first | refine X.rq ?_ | (refine X.rc ?_ ?_ <;> intro hc <;> first | (exfalso; omega) | skip)))
  rw [hk]
  refine K.l_call (Fx.cal rfl) rfl (V_U8 h P a c l k (by omega) (by omega)) (K.pp [1] rfl) rfl ?_
  rintro u h' H' - ⟨e, rfl, a1, c1, rfl⟩
  obtain rfl := e.symm
  simp only [List.set_cons_zero, List.set_cons_succ, List.eraseIdx_cons_zero, List.eraseIdx_cons_succ, List.cons_append, List.nil_append]
  (repeat' (first | refine X.rq ?_ | (refine X.rc ?_ ?_ <;> intro hc <;> first | (exfalso; omega) | skip)))
  refine K.l_buildSlice (Fx.und rfl) (Fx.sz rfl) rfl (Fx.zr rfl) rfl rfl rfl (cs := [.int .u64 p.next, .int .u64 p.cells.length]) rfl rfl (fun B => ?_)
  refine K.l_call (Fx.cal rfl) rfl (NumsB h P a1 c1 (l ++ lebs k 1) B 27 [p.next, p.cells.length] (by simp; omega) (Nat.le_of_ble_eq_true rfl) (by simp [lebs_length]; omega)) (K.pp [0, 0] rfl) rfl ?_
  rintro u h' H' - ⟨e, rfl, a2, c2, rfl⟩
  obtain rfl := e.symm
  simp only [List.set_cons_zero, List.set_cons_succ, List.eraseIdx_cons_zero, List.eraseIdx_cons_succ, List.cons_append, List.nil_append]
  (repeat' (first | refine X.rq ?_ | (refine X.rc ?_ ?_ <;> intro hc <;> first | (exfalso; omega) | skip)))
  have hl2 : (l ++ lebs k 1 ++ [p.next, p.cells.length].flatMap cu).length ≤ 800000021 := by
    have h1 := cu_len p.next
    have h2 := cu_len p.cells.length
    simp [lebs_length]; omega
  rw [show l ++ (lebs k 1 ++ (cu p.next ++ cu p.cells.length) ++ cellsN p.cells) = (l ++ lebs k 1 ++ [p.next, p.cells.length].flatMap cu) ++ cellsN p.cells by simp [List.append_assoc]]
  generalize l ++ lebs k 1 ++ [p.next, p.cells.length].flatMap cu = l2 at hl2 ⊢
  refine K.c_loop (σ := Nat × Option Nat × Nat) (fun s => [(0, wp P), (3, .pointer (some ⟨B3, 0, none⟩)), (22, .slice ao p.cells.length ca), (23, .int .i64 p.cells.length), (24, .int .i64 s.1)]) (fun _ => h)
    (fun s => wA (some (P, some (s.2.1, s.2.2, l2 ++ cellsN (p.cells.take s.1)))) :: blk B3 86 (cP p (.slice ao p.cells.length ca)) :: F) (fun s => s.1 ≤ p.cells.length) (fun s => p.cells.length - s.1) (0, a2, c2) (Nat.zero_le _) (by repeat (first | exact K.Sub.nil _ | refine K.Sub.cons rfl ?_)) rfl (by simp [cellsN]) ?_
  rintro ⟨j, a3, c3⟩ hj KL hKL
  dsimp only at hj ⊢
  by_cases hjl : j < p.cells.length
  · have hc1 : es[j]? = some (es[j]'(by omega)) := List.getElem?_eq_getElem (by omega)
    have hc0 : es[((j : Nat) : Int).toNat]? = some (es[j]'(by omega)) := by rw [Int.toNat_natCast]; exact hc1
    have he1 : p.cells[j]? = some p.cells[j] := List.getElem?_eq_getElem hjl
    have hox := hok _ (List.getElem_mem hjl)
    have hl3 : (cellsN (p.cells.take j)).length ≤ 12000 := by
      have h1 := flat_len cellN 200 (p.cells.take j) fun x hx => cellN_len (hok x (List.mem_of_mem_take hx))
      have h2 : (p.cells.take j).length * 200 ≤ 60 * 200 := Nat.mul_le_mul_right _ (by rw [List.length_take]; omega)
      unfold cellsN; omega
    have hat : cellsN (p.cells.take (j + 1)) = cellsN (p.cells.take j) ++ cellN p.cells[j] := flat_at cellN he1
    generalize es[j]'(by omega) = cc at hc0 hc1
    generalize p.cells[j] = x at he1 hox hat
    obtain ⟨hkl, hdl, ao3, ca3, rfl, hbv⟩ := hr j cc x hc1 he1
    have hxd : x.data.length ≤ 180 := by
      cases hu : x.used with
      | true => have := hox.1 hu; omega
      | false => have := hox.2 hu; omega
    have hl4 : (l2 ++ cellsN (p.cells.take j)).length ≤ 800012021 := by rw [List.length_append]; omega
    generalize hq : l2 ++ cellsN (p.cells.take j) = l4 at hl4 ⊢
    have hcn : cellN x = cu x.data.length ++ if x.used = true then cu x.killer ++ x.data else [] := rfl
    have h1 := cu_len x.data.length
    have h2 := cu_len x.killer
    (repeat' (first | refine X.rq ?_ | (refine X.rc ?_ ?_ <;> intro hc <;> first | (exfalso; omega) | skip)))
    refine K.s_pureE (K.p_indexL hv (Fx.und rfl) (Fx.sz rfl) rfl rfl (by omega) hc0) rfl ?_
    rintro v2 ⟨b, o, rfl, hcel⟩
    refine K.s_pure (K.p_loadM (Fx.agg rfl) rfl (Cels.up hcel) (Fx.sz rfl) rfl) rfl ?_
    refine K.l_alloc (Fx.zr rfl) rfl rfl (fun B5 => ?_)
    refine X.stw ?_
    simp only [List.set_cons_zero, List.set_cons_succ, List.eraseIdx_cons_zero, List.eraseIdx_cons_succ, List.cons_append, List.nil_append]
    (repeat' (first | refine X.rq ?_ | (refine X.rc ?_ ?_ <;> intro hc <;> first | (exfalso; omega) | skip)))
    refine K.l_call (Fx.cal rfl) rfl (V_Uint h P a3 c3 l4 x.data.length (by omega) (by omega)) (K.pp [1] rfl) rfl ?_
    rintro u h' H' - ⟨e, rfl, a4, c4, rfl⟩
    obtain rfl := e.symm
    simp only [List.set_cons_zero, List.set_cons_succ, List.eraseIdx_cons_zero, List.eraseIdx_cons_succ, List.cons_append, List.nil_append]
    cases hu : x.used with
    | true =>
      (repeat' (first | refine X.rq ?_ | (refine X.rc ?_ ?_ <;> intro hc <;> first | (exfalso; omega) | skip)))
      refine K.l_call (Fx.cal rfl) rfl (V_Uint h P a4 c4 (l4 ++ cu x.data.length) x.killer (by omega) (by rw [List.length_append]; omega)) (K.pp [0] rfl) rfl ?_
      rintro u h' H' - ⟨e, rfl, a5, c5, rfl⟩
      obtain rfl := e.symm
      simp only [List.set_cons_zero, List.set_cons_succ, List.eraseIdx_cons_zero, List.eraseIdx_cons_succ, List.cons_append, List.nil_append]
      (repeat' (first | refine X.rq ?_ | (refine X.rc ?_ ?_ <;> intro hc <;> first | (exfalso; omega) | skip)))
      refine K.l_call (Fx.cal rfl) rfl (V_Raw h P a5 c5 (l4 ++ cu x.data.length ++ cu x.killer) _ x.data hbv (by simp only [List.length_append]; omega) (by omega)) (K.pp [0] rfl) rfl ?_
      rintro u h' H' - ⟨e, rfl, a6, c6, rfl⟩
      obtain rfl := e.symm
      simp only [List.set_cons_zero, List.set_cons_succ, List.eraseIdx_cons_zero, List.eraseIdx_cons_succ, List.cons_append, List.nil_append]
      (repeat' (first | refine X.rq ?_ | (refine X.rc ?_ ?_ <;> intro hc <;> first | (exfalso; omega) | skip)))
      refine K.AT.perm (K.pp [1] rfl) ?_
      simp only [List.set_cons_zero, List.set_cons_succ, List.eraseIdx_cons_zero, List.eraseIdx_cons_succ, List.cons_append, List.nil_append]
      refine K.AT.drop ?_
      refine K.a_round hKL (j + 1, a6, c6) (by dsimp only; omega) (by repeat (first | exact K.Sub.nil _ | refine K.Sub.cons rfl ?_)) rfl ?_ (by dsimp only; omega)
      dsimp only
      rw [hat, hcn, if_pos hu, ← hq]
      simp only [List.append_assoc]
    | false =>
      (repeat' (first | refine X.rq ?_ | (refine X.rc ?_ ?_ <;> intro hc <;> first | (exfalso; omega) | skip)))
      refine K.AT.perm (K.pp [1] rfl) ?_
      simp only [List.set_cons_zero, List.set_cons_succ, List.eraseIdx_cons_zero, List.eraseIdx_cons_succ, List.cons_append, List.nil_append]
      refine K.AT.drop ?_
      refine K.a_round hKL (j + 1, a4, c4) (by dsimp only; omega) (by repeat (first | exact K.Sub.nil _ | refine K.Sub.cons rfl ?_)) rfl ?_ (by dsimp only; omega)
      dsimp only
      rw [hat, hcn, if_neg (by rw [hu]; decide), ← hq, List.append_nil, List.append_assoc]
  · obtain rfl : j = p.cells.length := by omega
    rw [List.take_length]
    (repeat' (first | refine X.rq ?_ | (refine X.rc ?_ ?_ <;> intro hc <;> first | (exfalso; omega) | skip)))
    refine K.AT.perm (K.pp [1] rfl) ?_
    simp only [List.set_cons_zero, List.set_cons_succ, List.eraseIdx_cons_zero, List.eraseIdx_cons_succ, List.cons_append, List.nil_append]
    refine K.AT.drop ?_
    refine K.done (by first | exact Or.inl rfl | exact Or.inr rfl) rfl (by first | exact K.Base.le.refl _ | assumption) (H' := [wA (some (P, some (a3, c3, l2 ++ cellsN p.cells)))]) rfl ⟨rfl, rfl, a3, c3, rfl⟩
end Go.Proofs.YtmcdaegaopfihaaGreat.Rc
end
