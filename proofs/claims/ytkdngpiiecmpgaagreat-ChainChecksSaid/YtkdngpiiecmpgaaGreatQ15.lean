/-
  Texts joined: Fo Hc. Conditions: each theorem's own.
-/
import Derived.Test.YtkdngpiiecmpgaaGreatQ13
import Derived.Test.YtkdngpiiecmpgaaGreatQ14
import Derived.Test.YtkdngpiiecmpgaaGreatQ6
import Derived.Test.YtkdngpiiecmpgaaGreatQ11
section
namespace Go.Proofs.YtkdngpiiecmpgaaGreat.Pg
open Go Go.K Go.Proofs Go.Proofs.YtkdngpiiecmpgaaGreat Go.Proofs.YtkdngpiiecmpgaaGreat.Ca
set_option linter.unusedVariables false
set_option linter.unusedSimpArgs false
set_option maxRecDepth 10000

theorem W_RawB (h : Base) (s : WSt) (v : Value) (b : List UInt8) (hv : BV h v b) (hl : (wb s).length + b.length ≤ big) :
  Tr Tryz.prog 137 [wv s, v] h [wA s] (Wrote h s b) := by
 unfold big at hl
 obtain ⟨ao, ca, rfl⟩ := hv.len
 match s with
 | none =>
  refine K.enter Tryz.func137 rfl (Nat.le_of_ble_eq_true rfl) (fun F => ?_)
  simp only [wv]
  (repeat' (first | refine X.rq ?_ | (refine X.rc ?_ ?_ <;> intro hc <;> first | (exfalso; omega) | skip)))
  refine K.done (by first | exact Or.inl rfl | exact Or.inr rfl) rfl (by first | exact K.Base.le.refl _ | assumption) (H' := [wA none]) rfl ⟨rfl, rfl, none, trivial, rfl⟩
 | some (p, none) =>
  refine K.enter Tryz.func137 rfl (Nat.le_of_ble_eq_true rfl) (fun F => ?_)
  refine K.WC.open ?_
  simp only [wH, wv, List.cons_append, List.nil_append]
  (repeat' (first | refine X.rq ?_ | (refine X.rc ?_ ?_ <;> intro hc <;> first | (exfalso; omega) | skip)))
  refine K.AT.close (wH (some (p, none))) ?_
  refine K.done (by first | exact Or.inl rfl | exact Or.inr rfl) rfl (by first | exact K.Base.le.refl _ | assumption) (H' := [wA (some (p, none))]) rfl ⟨rfl, rfl, some (p, none), rfl, rfl⟩
 | some (p, some (a0, cap0, l)) =>
  simp only [wb] at hl
  refine K.enter Tryz.func137 rfl (Nat.le_of_ble_eq_true rfl) (fun F => ?_)
  refine K.WC.open ?_
  simp only [wH, wv, List.cons_append, List.nil_append]
  (repeat' (first | refine X.rq ?_ | (refine X.rc ?_ ?_ <;> intro hc <;> first | (exfalso; omega) | skip)))
  refine K.l_append_at 1 rfl (Fx.und rfl) (Fx.und rfl) rfl (Fx.sz rfl) (Fx.zr rfl) rfl (Fx.byt rfl) rfl rfl (hv.src) (by omega) (by omega) rfl (fun a' cap' => ?_)
  simp only [List.set_cons_zero, List.set_cons_succ, List.eraseIdx_cons_zero, List.eraseIdx_cons_succ, List.cons_append, List.nil_append]
  (repeat' (first | refine X.rq ?_ | (refine X.rc ?_ ?_ <;> intro hc <;> first | (exfalso; omega) | skip)))
  refine X.sto ?_
  (repeat' (first | refine X.rq ?_ | (refine X.rc ?_ ?_ <;> intro hc <;> first | (exfalso; omega) | skip)))
  rw [← List.map_append, ← List.length_append]
  refine K.AT.close (wH (some (p, some (a', cap', l ++ b)))) ?_
  refine K.done (by first | exact Or.inl rfl | exact Or.inr rfl) rfl (by first | exact K.Base.le.refl _ | assumption) (H' := [wA (some (p, some (a', cap', l ++ b)))]) rfl ⟨rfl, rfl, some (p, some (a', cap', l ++ b)), ⟨rfl, rfl⟩, rfl⟩
def byC (x : PCell) : List UInt8 := lebs x.data.length 2 ++ if x.used = true then lebs x.killer 4 ++ x.data else []
def cellsB (l : List PCell) : List UInt8 := l.flatMap byC
def bodyB (p : Pag) : List UInt8 := lebs p.kind.toNat 1 ++ lebs p.cells.length 1 ++ lebs p.lsn 8 ++ lebs p.next 4 ++ cellsB p.cells
def padB (p : Pag) : List UInt8 := bodyB p ++ List.replicate (508 - (bodyB p).length) 0
def encB (p : Pag) : List UInt8 := lebs (sumQ 0 (padB p)) 4 ++ padB p
def encQ (p : Pag) : List UInt8 × Int := if mayQ p = true then (encB p, 0) else ([], 5)
theorem may_ok {p : Pag} (hm : mayQ p = true) : ∀ x ∈ p.cells, okCell x := fun x hx => by
 obtain ⟨i, hi, e⟩ := List.getElem_of_mem hx
 exact (((mayQ_iff p).1 hm).2.2.1 i x (by rw [List.getElem?_eq_getElem hi, e])).1
theorem wadd_some {bs : List UInt8} {p : Nat} {a : Option Nat} {cap : Nat} {l : List UInt8} : ∀ {s : WSt}, wadd bs (some (p, some (a, cap, l))) s → ∃ a' cap', s = some (p, some (a', cap', l ++ bs))
 | some (_, some (a', cap', _)), h => ⟨a', cap', by rw [h.1, h.2]⟩
 | none, h => h.elim
 | some (_, none), h => h.elim
end Go.Proofs.YtkdngpiiecmpgaaGreat.Pg
end

section
namespace Go.Proofs.YtkdngpiiecmpgaaGreat.Rc
open Go Go.K Go.Proofs Go.Proofs.YtkdngpiiecmpgaaGreat Go.Proofs.YtkdngpiiecmpgaaGreat.Pg Go.Proofs.YtkdngpiiecmpgaaGreat.Ca
set_option linter.unusedVariables false
set_option linter.unusedSimpArgs false
set_option maxRecDepth 10000

def Wr (P : Nat) (l : List UInt8) (u : Value) (h0 h' : Base) (H' : List Asrt) : Prop := h' = h0 ∧ u = unit ∧ ∃ a c, H' = [wA (some (P, some (a, c, l)))]
abbrev wp (P : Nat) : Value := .pointer (some ⟨P, 0, none⟩)
theorem cuF_len : ∀ (f x : Nat), (cuF f x).length ≤ f + 1
 | 0, x => by simp [cuF]
 | f + 1, x => by
  unfold cuF
  split
  ·simp
  ·have := cuF_len f (x / 128)
   rw [List.length_cons]; omega
theorem cu_len (x : Nat) : (cu x).length ≤ 10 := cuF_len 9 x
theorem V_Uint (h : Base) (P : Nat) (a : Option Nat) (c : Nat) (l : List UInt8) (x : Nat) (hx : x < 18446744073709551616) (hl : l.length ≤ 1000000000) :
  Tr Tryz.prog 120 [wp P, .int .u64 x] h [wA (some (P, some (a, c, l)))] (fun u h' H' => Wr P (l ++ cu x) u h h' H') := fun F w ok =>
 Calls.mono (W_Uint h (some (P, some (a, c, l))) x hx (by simp only [wb, big]; omega) F w ok) fun e w' ⟨u, he, h1, H1, hle, ⟨q1, q2, s', q3, q4⟩, ok1⟩ => by
  obtain ⟨a', c', rfl⟩ := wadd_some q3
  exact ⟨u, he, h1, H1, hle, ⟨q2.symm, q1, a', c', q4⟩, ok1⟩
theorem V_U8 (h : Base) (P : Nat) (a : Option Nat) (c : Nat) (l : List UInt8) (x : Nat) (hx : x < 256) (hl : l.length ≤ 1000000000) :
  Tr Tryz.prog 118 [wp P, .int .u8 x] h [wA (some (P, some (a, c, l)))] (fun u h' H' => Wr P (l ++ lebs x 1) u h h' H') := fun F w ok =>
 Calls.mono (W_U8 h (some (P, some (a, c, l))) x hx (by simp only [wb, big]; omega) F w ok) fun e w' ⟨u, he, h1, H1, hle, ⟨q1, q2, s', q3, q4⟩, ok1⟩ => by
  obtain ⟨a', c', rfl⟩ := wadd_some q3
  exact ⟨u, he, h1, H1, hle, ⟨q2.symm, q1, a', c', q4⟩, ok1⟩
theorem V_Raw (h : Base) (P : Nat) (a : Option Nat) (c : Nat) (l : List UInt8) (v : Value) (b : List UInt8) (hv : BV h v b) (hl : l.length ≤ 1000000000) (hb : b.length ≤ 1000000000) :
  Tr Tryz.prog 137 [wp P, v] h [wA (some (P, some (a, c, l)))] (fun u h' H' => Wr P (l ++ b) u h h' H') := fun F w ok =>
 Calls.mono (W_RawB h (some (P, some (a, c, l))) v b hv (by simp only [wb, big]; omega) F w ok) fun e w' ⟨u, he, h1, H1, hle, ⟨q1, q2, s', q3, q4⟩, ok1⟩ => by
  obtain ⟨a', c', rfl⟩ := wadd_some q3
  exact ⟨u, he, h1, H1, hle, ⟨q2.symm, q1, a', c', q4⟩, ok1⟩
theorem V_Text (h : Base) (P : Nat) (a : Option Nat) (c : Nat) (l b : List UInt8) (hl : l.length ≤ 1000000000) (hb : b.length ≤ 1000000000) :
  Tr Tryz.prog 121 [wp P, .string ⟨b.toArray⟩] h [wA (some (P, some (a, c, l)))] (fun u h' H' => Wr P (l ++ (cu b.length ++ b)) u h h' H') := fun F w ok =>
 Calls.mono (W_Text h (some (P, some (a, c, l))) ⟨b.toArray⟩ (by simp only [wb, big]; show _ + b.length + 16 ≤ _; omega) F w ok) fun e w' ⟨u, he, h1, H1, hle, ⟨q1, q2, s', q3, q4⟩, ok1⟩ => by
  obtain ⟨a', c', rfl⟩ := wadd_some q3
  exact ⟨u, he, h1, H1, hle, ⟨q2.symm, q1, a', c', q4⟩, ok1⟩
theorem flat_at {α β : Type} {l : List α} {j : Nat} {x : α} (f : α → List β) (h : l[j]? = some x) : (l.take (j + 1)).flatMap f = (l.take j).flatMap f ++ f x := by
 rw [List.take_add_one, h, List.flatMap_append]
 simp
theorem nums_len : ∀ (xs : List Nat), (xs.flatMap cu).length ≤ 10 * xs.length
 | [] => Nat.le_refl _
 | x :: xs => by
  have h1 := nums_len xs
  have h2 := cu_len x
  rw [List.flatMap_cons, List.length_append, List.length_cons]; omega
set_option maxHeartbeats 1000000 in
theorem Numbers (h : Base) (P : Nat) (a : Option Nat) (c : Nat) (l : List UInt8) (v : Value) (xs : List Nat) (hv : U64s h v xs) (hx : ∀ x ∈ xs, x < 18446744073709551616) (hn : xs.length ≤ 10) (hl : l.length ≤ 900000000) :
  Tr Tryz.prog 119 [wp P, v] h [wA (some (P, some (a, c, l)))] (fun u h' H' => Wr P (l ++ xs.flatMap cu) u h h' H') := by
 unfold U64s at hv
 obtain ⟨ao, ca, rfl⟩ := hv.len
 rw [List.length_map] at hv ⊢
 refine K.enter Tryz.func119 rfl (Nat.le_of_ble_eq_true rfl) (fun F => ?_)
 simp only [List.cons_append, List.nil_append]
 (repeat' (first | refine X.rq ?_ | (refine X.rc ?_ ?_ <;> intro hc <;> first | (exfalso; omega) | skip)))
 refine K.c_loop (σ := Nat × Option Nat × Nat) (fun s => [(0, wp P), (6, .slice ao xs.length ca), (7, .int .i64 xs.length), (8, .int .i64 s.1)]) (fun _ => h) (fun s => wA (some (P, some (s.2.1, s.2.2, l ++ (xs.take s.1).flatMap cu))) :: F)
  (fun s => s.1 ≤ xs.length) (fun s => xs.length - s.1) (0, a, c) (Nat.zero_le _) (by repeat (first | exact K.Sub.nil _ | refine K.Sub.cons rfl ?_)) rfl (by simp) ?_
 rintro ⟨j, a1, c1⟩ hj KL hKL
 dsimp only at hj ⊢
 by_cases hjl : j < xs.length
 ·have hx1 : xs[j]? = some xs[j] := List.getElem?_eq_getElem hjl
  have hxl := hx _ (List.getElem_mem hjl)
  generalize xs[j] = x at hx1 hxl
  have hc0 : (xs.map fun x => [n64 x])[((j : Nat) : Int).toNat]? = some [n64 x] := by rw [Int.toNat_natCast, List.getElem?_map, hx1]; rfl
  have hlen := nums_len (xs.take j)
  have hlt : (xs.take j).length ≤ 10 := by rw [List.length_take]; omega
  (repeat' (first | refine X.rq ?_ | (refine X.rc ?_ ?_ <;> intro hc <;> first | (exfalso; omega) | skip)))
  refine K.s_pureE (K.p_indexL hv (Fx.und rfl) (Fx.sz rfl) rfl rfl (by omega) hc0) rfl ?_
  rintro v2 ⟨b, o, rfl, hcel⟩
  refine K.s_pure (K.p_load (Fx.agg rfl) rfl (K.Cel.up hcel.1)) rfl ?_
  (repeat' (first | refine X.rq ?_ | (refine X.rc ?_ ?_ <;> intro hc <;> first | (exfalso; omega) | skip)))
  refine K.l_call (Fx.cal rfl) rfl (V_Uint h P a1 c1 (l ++ (xs.take j).flatMap cu) x hxl (by rw [List.length_append]; omega)) (K.pp [0] rfl) rfl ?_
  rintro u h' H' - ⟨e, rfl, a2, c2, rfl⟩
  obtain rfl := e.symm
  simp only [List.set_cons_zero, List.set_cons_succ, List.eraseIdx_cons_zero, List.eraseIdx_cons_succ, List.cons_append, List.nil_append]
  (repeat' (first | refine X.rq ?_ | (refine X.rc ?_ ?_ <;> intro hc <;> first | (exfalso; omega) | skip)))
  refine K.a_round hKL (j + 1, a2, c2) (by dsimp only; omega) (by repeat (first | exact K.Sub.nil _ | refine K.Sub.cons rfl ?_)) rfl ?_ (by dsimp only; omega)
  dsimp only
  rw [flat_at cu hx1, List.append_assoc]
 ·obtain rfl : j = xs.length := by omega
  rw [List.take_length]
  (repeat' (first | refine X.rq ?_ | (refine X.rc ?_ ?_ <;> intro hc <;> first | (exfalso; omega) | skip)))
  refine K.done (by first | exact Or.inl rfl | exact Or.inr rfl) rfl (by first | exact K.Base.le.refl _ | assumption) (H' := [wA (some (P, some (a1, c1, l ++ xs.flatMap cu)))]) rfl ⟨rfl, rfl, a1, c1, rfl⟩
theorem NumsB (h : Base) (P : Nat) (a : Option Nat) (c : Nat) (l : List UInt8) (B T : Nat) (xs : List Nat) (hx : ∀ x ∈ xs, x < 18446744073709551616) (hn : xs.length ≤ 10) (hl : l.length ≤ 900000000) :
  Tr Tryz.prog 119 [wp P, .slice (some ⟨B, 0, none⟩) xs.length xs.length] h ([blk B T (xs.map n64)] ++ [wA (some (P, some (a, c, l)))]) (fun u h' H' => h' = h ∧ u = unit ∧ ∃ a c, H' = [wA (some (P, some (a, c, l ++ xs.flatMap cu)))]) :=
 K.Tr.give fun h' hle hs => fun F w ok => Calls.mono (Numbers h' P a c l _ xs (K.says_nums hs) hx hn hl F w ok) fun e w' ⟨u, he, h1, H1, hle, ⟨_, q1, q2⟩, ok1⟩ => ⟨u, he, h1, H1, hle, ⟨q1, q2⟩, ok1⟩
end Go.Proofs.YtkdngpiiecmpgaaGreat.Rc
end
