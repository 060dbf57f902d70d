/-
  Texts joined: Cb Fo KZ Hc. Conditions: each theorem's own.
-/
import Derived.Test.YtmcdaegaopfihaaGreatY11
import Derived.Test.YtmcdaegaopfihaaGreatY10
import Derived.Test.YtmcdaegaopfihaaGreatY1
import Derived.Test.YtmcdaegaopfihaaGreatY6
section
namespace Go.Proofs.YtmcdaegaopfihaaGreat.Ca
open Go Go.K Go.Proofs Go.Proofs.YtmcdaegaopfihaaGreat
set_option linter.unusedVariables false
set_option linter.unusedSimpArgs false
set_option maxRecDepth 10000

theorem NewWriter (h : Base) : Tr Tryz.prog 58 [] h [] (fun v h' H' => h = h' ∧ ∃ p, v = wv (some (p, some (none, 0, []))) ∧ H' = [wA (some (p, some (none, 0, [])))]) := by
 refine K.enter Tryz.func58 rfl (Nat.le_of_ble_eq_true rfl) (fun F => ?_)
 (repeat' first | refine X.rq ?_ | refine X.rc ?_ ?_ <;> intro hc <;> try omega)
 refine K.l_box rfl rfl rfl (fun B => ?_)
 (repeat' first | refine X.rq ?_ | refine X.rc ?_ ?_ <;> intro hc <;> try omega)
 refine K.AT.nilBuf 5 1 (K.AT.perm (List.Perm.swap ..) (K.AT.close (wH (some (B, some (none, 0, [])))) ?_))
 refine K.done (by first | exact Or.inl rfl | exact Or.inr rfl) rfl (by first | exact K.Base.le.refl _ | assumption) (H' := [wA (some (B, some (none, 0, [])))]) rfl ⟨rfl, B, rfl, rfl⟩

theorem W_Uint (h : Base) (s : WSt) (x : Nat) (hx : x < 18446744073709551616) (hl : (wb s).length + 16 ≤ big) : Tr Tryz.prog 88 [wv s, .int .u64 x] h [wA s] (Wrote h s (cu x)) := by
 refine K.enter Tryz.func88 rfl (Nat.le_of_ble_eq_true rfl) (fun F => ?_)
 (repeat' first | refine X.rq ?_ | refine X.rc ?_ ?_ <;> intro hc <;> try omega)
 refine K.c_loop (σ := WSt × Nat) (fun s => [(0, wv s.1), (1, .int .u64 s.2)]) (fun _ => h) (fun s => wA s.1 :: F)
  (fun r => r.2 < 18446744073709551616 ∧ ∃ pre, wadd pre s r.1 ∧ pre ++ cu r.2 = cu x) (fun s => s.2) (s, x) ⟨hx, [], wadd_nil s, rfl⟩ (by repeat (first | exact K.Sub.nil _ | refine K.Sub.cons rfl ?_)) rfl rfl ?_
 rintro ⟨s1, y⟩ ⟨hy, pre, hpre, hcu⟩ KL hKL
 dsimp only at hy hpre hcu ⊢
 have hl1 : (wb s1).length ≤ big := by
  have h1 := wadd_len hpre
  have h2 := congrArg List.length hcu
  have h3 := cu_len x
  rw [List.length_append] at h2
  omega
 (repeat' first | refine X.rq ?_ | refine X.rc ?_ ?_ <;> intro hc <;> try omega)
 ·rw [K.or128 y]
  refine K.l_call (Fx.cal rfl) rfl (W_U8 h s1 (y % 128 + 128) (by omega) hl1) (K.pp [0] rfl) rfl ?_
  rintro v h' H' - ⟨rfl, rfl, s2, hs2, rfl⟩
  (repeat' first | refine X.rq ?_ | refine X.rc ?_ ?_ <;> intro hc <;> try omega)
  rw [K.shr7 y]
  refine K.a_round hKL (s2, y / 128) ⟨by omega, pre ++ lebs (y % 128 + 128) 1, wadd_trans hpre hs2, ?_⟩ ?_ rfl rfl (by dsimp only; omega)
  ·rw [← hcu, cu_ge (x := y) (by omega) hy, List.append_assoc]
   simp [lebs, Nat.mod_eq_of_lt (show y % 128 + 128 < 256 by omega)]
  ·rw [← wadd_val hs2]
   exact (by repeat (first | exact K.Sub.nil _ | refine K.Sub.cons rfl ?_))
 ·refine K.l_call (Fx.cal rfl) rfl (W_U8 h s1 y (by omega) hl1) (K.pp [0] rfl) rfl ?_
  rintro v h' H' - ⟨rfl, rfl, s2, hs2, rfl⟩
  (repeat' first | refine X.rq ?_ | refine X.rc ?_ ?_ <;> intro hc <;> try omega)
  refine K.done (by first | exact Or.inl rfl | exact Or.inr rfl) rfl (by first | exact K.Base.le.refl _ | assumption) (H' := [wA s2]) rfl ⟨rfl, rfl, s2, ?_, rfl⟩
  have := wadd_trans hpre hs2
  rw [← hcu, cu_lt (x := y) (by omega)]
  simpa [lebs, Nat.mod_eq_of_lt (show y < 256 by omega)] using this

theorem W_Raw (h : Base) (s : WSt) (a : Option Nat) (cap : Nat) (b : List UInt8) (hl : (wb s).length + b.length ≤ big) :
  Tr Tryz.prog 60 [wv s, bufV a b.length cap] h [wA s, bufA 5 1 a b.length cap (b.map u8)] (fun v h' H' => v = unit ∧ h = h' ∧ ∃ s', wadd b s s' ∧ H' = [wA s', bufA 5 1 a b.length cap (b.map u8)]) := by
 unfold big at hl
 match s with
 | none =>
  refine K.enter Tryz.func60 rfl (Nat.le_of_ble_eq_true rfl) (fun F => ?_)
  simp only [wv]
  (repeat' first | refine X.rq ?_ | refine X.rc ?_ ?_ <;> intro hc <;> try omega)
  refine K.done (by first | exact Or.inl rfl | exact Or.inr rfl) rfl (by first | exact K.Base.le.refl _ | assumption) (H' := [wA none, _]) rfl ⟨rfl, rfl, none, trivial, rfl⟩
 | some (p, none) =>
  refine K.enter Tryz.func60 rfl (Nat.le_of_ble_eq_true rfl) (fun F => ?_)
  refine K.WC.open ?_
  simp only [wH, wv, List.cons_append, List.nil_append]
  (repeat' first | refine X.rq ?_ | refine X.rc ?_ ?_ <;> intro hc <;> try omega)
  refine K.AT.close (wH (some (p, none))) ?_
  refine K.done (by first | exact Or.inl rfl | exact Or.inr rfl) rfl (by first | exact K.Base.le.refl _ | assumption) (H' := [wA (some (p, none)), _]) rfl ⟨rfl, rfl, some (p, none), rfl, rfl⟩
 | some (p, some (a0, cap0, l)) =>
  simp only [wb] at hl
  refine K.enter Tryz.func60 rfl (Nat.le_of_ble_eq_true rfl) (fun F => ?_)
  refine K.WC.open ?_
  simp only [wH, wv, List.cons_append, List.nil_append]
  (repeat' first | refine X.rq ?_ | refine X.rc ?_ ?_ <;> intro hc <;> try omega)
  refine K.l_append_at 1 rfl (Fx.und rfl) (Fx.und rfl) rfl (Fx.sz rfl) (Fx.zr rfl) rfl (Fx.byt rfl) rfl rfl (K.src_buf 1 rfl (by simp [K.u8_one]) (by simp)) (by omega) (by omega) rfl (fun a' cap' => ?_)
  simp only [Go.K.nmz]
  (repeat' first | refine X.rq ?_ | refine X.rc ?_ ?_ <;> intro hc <;> try omega)
  refine X.sto ?_
  (repeat' first | refine X.rq ?_ | refine X.rc ?_ ?_ <;> intro hc <;> try omega)
  rw [← List.map_append, ← List.length_append]
  refine K.AT.close (wH (some (p, some (a', cap', l ++ b)))) ?_
  refine K.done (by first | exact Or.inl rfl | exact Or.inr rfl) rfl (by first | exact K.Base.le.refl _ | assumption) (H' := [wA (some (p, some (a', cap', l ++ b))), _]) rfl ⟨rfl, rfl, some (p, some (a', cap', l ++ b)), ⟨rfl, rfl⟩, rfl⟩

theorem W_Text (h : Base) (s : WSt) (t : ByteArray) (hl : (wb s).length + t.size + 16 ≤ big) : Tr Tryz.prog 89 [wv s, .string t] h [wA s] (Wrote h s (cu t.size ++ t.data.toList)) := by
 have hb : t.size ≤ big := by omega
 unfold big at hb
 refine K.enter Tryz.func89 rfl (Nat.le_of_ble_eq_true rfl) (fun F => ?_)
 (repeat' first | refine X.rq ?_ | refine X.rc ?_ ?_ <;> intro hc <;> try omega)
 refine K.l_call (Fx.cal rfl) rfl (W_Uint h s t.size (by omega) (by omega)) (K.pp [0] rfl) rfl ?_
 rintro v h' H' - ⟨rfl, rfl, s', hs, rfl⟩
 (repeat' first | refine X.rq ?_ | refine X.rc ?_ ?_ <;> intro hc <;> try omega)
 refine K.l_toBytes (Fx.und rfl) (Fx.und rfl) (Fx.und rfl) rfl (by unfold maxLen; omega) rfl (fun B cap => ?_)
 have h3 := wadd_len hs
 have h4 := cu_len t.size
 have h5 : t.data.toList.length = t.size := by simp
 refine K.l_call (vals := [wv s, bufV (some B) t.size cap]) (Fx.cal rfl) rfl (by
  have := W_Raw h s' (some B) cap t.data.toList (by omega)
  rw [h5, wadd_val hs] at this
  exact this) (K.pp [1, 0] rfl) rfl ?_
 rintro v h' H' - ⟨rfl, rfl, s2, hs2, rfl⟩
 (repeat' first | refine X.rq ?_ | refine X.rc ?_ ?_ <;> intro hc <;> try omega)
 refine K.AT.perm (List.Perm.swap ..) (K.AT.drop ?_)
 refine K.done (by first | exact Or.inl rfl | exact Or.inr rfl) rfl (by first | exact K.Base.le.refl _ | assumption) (H' := [wA s2]) rfl ⟨rfl, rfl, s2, wadd_trans hs hs2, rfl⟩

theorem W_Bytes (h : Base) (s : WSt) (hl : (wb s).length ≤ big) : Tr Tryz.prog 62 [wv s] h [wA s] (fun v h' H' => h = h' ∧ ∃ a cap, v = bufV a (wb s).length cap ∧ H' = [bufA 5 1 a (wb s).length cap ((wb s).map u8), wA s]) := by
 unfold big at hl
 match s with
 | none =>
  refine K.enter Tryz.func62 rfl (Nat.le_of_ble_eq_true rfl) (fun F => ?_)
  simp only [wv]
  (repeat' first | refine X.rq ?_ | refine X.rc ?_ ?_ <;> intro hc <;> try omega)
  refine K.AT.nilBuf 5 1 ?_
  refine K.done (by first | exact Or.inl rfl | exact Or.inr rfl) rfl (by first | exact K.Base.le.refl _ | assumption) (H' := [_, wA none]) rfl ⟨rfl, none, 0, rfl, rfl⟩
 | some (p, none) =>
  refine K.enter Tryz.func62 rfl (Nat.le_of_ble_eq_true rfl) (fun F => ?_)
  refine K.WC.open ?_
  simp only [wH, wv, List.cons_append, List.nil_append]
  (repeat' first | refine X.rq ?_ | refine X.rc ?_ ?_ <;> intro hc <;> try omega)
  refine K.WL.nilBuf 5 1 ?_
  refine K.l_append_at 0 rfl (Fx.und rfl) (Fx.und rfl) rfl (Fx.sz rfl) (Fx.zr rfl) rfl (Fx.byt rfl) rfl rfl K.src_nil (by omega) (by omega) rfl (fun a' cap' => ?_)
  simp only [Go.K.nmz]
  (repeat' first | refine X.rq ?_ | refine X.rc ?_ ?_ <;> intro hc <;> try omega)
  refine K.AT.perm (List.Perm.swap ..) (K.AT.close (wH (some (p, none))) (K.AT.perm (List.Perm.swap ..) ?_))
  refine K.done (by first | exact Or.inl rfl | exact Or.inr rfl) rfl (by first | exact K.Base.le.refl _ | assumption) (H' := [_, wA (some (p, none))]) rfl ⟨rfl, a', cap', rfl, rfl⟩
 | some (p, some (a0, cap0, l)) =>
  simp only [wb] at hl
  refine K.enter Tryz.func62 rfl (Nat.le_of_ble_eq_true rfl) (fun F => ?_)
  refine K.WC.open ?_
  simp only [wH, wv, List.cons_append, List.nil_append]
  (repeat' first | refine X.rq ?_ | refine X.rc ?_ ?_ <;> intro hc <;> try omega)
  refine K.WL.nilBuf 5 1 ?_
  refine K.l_append_at 0 rfl (Fx.und rfl) (Fx.und rfl) rfl (Fx.sz rfl) (Fx.zr rfl) rfl (Fx.byt rfl) rfl rfl (K.src_buf 1 rfl (by simp [K.u8_one]) (by simp)) (by omega) (by omega) rfl (fun a' cap' => ?_)
  simp only [Go.K.nmz]
  (repeat' first | refine X.rq ?_ | refine X.rc ?_ ?_ <;> intro hc <;> try omega)
  rw [Nat.zero_add]
  refine K.AT.perm (K.perm3 ..) (K.AT.close (wH (some (p, some (a0, cap0, l)))) (K.AT.perm (List.Perm.swap ..) ?_))
  refine K.done (by first | exact Or.inl rfl | exact Or.inr rfl) rfl (by first | exact K.Base.le.refl _ | assumption) (H' := [_, wA (some (p, some (a0, cap0, l)))]) rfl ⟨rfl, a', cap', rfl, rfl⟩
end Go.Proofs.YtmcdaegaopfihaaGreat.Ca
end

section
namespace Go.Proofs.YtmcdaegaopfihaaGreat.Pg
open Go Go.K Go.Proofs Go.Proofs.YtmcdaegaopfihaaGreat Go.Proofs.YtmcdaegaopfihaaGreat.Ca
set_option linter.unusedVariables false
set_option linter.unusedSimpArgs false
set_option maxRecDepth 10000

theorem W_RawB (h : Base) (s : WSt) (v : Value) (b : List UInt8) (hv : BV h v b) (hl : (wb s).length + b.length ≤ big) :
  Tr Tryz.prog 60 [wv s, v] h [wA s] (Wrote h s b) := by
 unfold big at hl
 obtain ⟨ao, ca, rfl⟩ := hv.len
 match s with
 | none =>
  refine K.enter Tryz.func60 rfl (Nat.le_of_ble_eq_true rfl) (fun F => ?_)
  simp only [wv]
  (repeat' first | refine X.rq ?_ | refine X.rc ?_ ?_ <;> intro hc <;> try omega)
  refine K.done (by first | exact Or.inl rfl | exact Or.inr rfl) rfl (by first | exact K.Base.le.refl _ | assumption) (H' := [wA none]) rfl ⟨rfl, rfl, none, trivial, rfl⟩
 | some (p, none) =>
  refine K.enter Tryz.func60 rfl (Nat.le_of_ble_eq_true rfl) (fun F => ?_)
  refine K.WC.open ?_
  simp only [wH, wv, List.cons_append, List.nil_append]
  (repeat' first | refine X.rq ?_ | refine X.rc ?_ ?_ <;> intro hc <;> try omega)
  refine K.AT.close (wH (some (p, none))) ?_
  refine K.done (by first | exact Or.inl rfl | exact Or.inr rfl) rfl (by first | exact K.Base.le.refl _ | assumption) (H' := [wA (some (p, none))]) rfl ⟨rfl, rfl, some (p, none), rfl, rfl⟩
 | some (p, some (a0, cap0, l)) =>
  simp only [wb] at hl
  refine K.enter Tryz.func60 rfl (Nat.le_of_ble_eq_true rfl) (fun F => ?_)
  refine K.WC.open ?_
  simp only [wH, wv, List.cons_append, List.nil_append]
  (repeat' first | refine X.rq ?_ | refine X.rc ?_ ?_ <;> intro hc <;> try omega)
  refine K.l_append_at 1 rfl (Fx.und rfl) (Fx.und rfl) rfl (Fx.sz rfl) (Fx.zr rfl) rfl (Fx.byt rfl) rfl rfl (hv.src) (by omega) (by omega) rfl (fun a' cap' => ?_)
  simp only [Go.K.nmz]
  (repeat' first | refine X.rq ?_ | refine X.rc ?_ ?_ <;> intro hc <;> try omega)
  refine X.sto ?_
  (repeat' first | refine X.rq ?_ | refine X.rc ?_ ?_ <;> intro hc <;> try omega)
  rw [← List.map_append, ← List.length_append]
  refine K.AT.close (wH (some (p, some (a', cap', l ++ b)))) ?_
  refine K.done (by first | exact Or.inl rfl | exact Or.inr rfl) rfl (by first | exact K.Base.le.refl _ | assumption) (H' := [wA (some (p, some (a', cap', l ++ b)))]) rfl ⟨rfl, rfl, some (p, some (a', cap', l ++ b)), ⟨rfl, rfl⟩, rfl⟩
def byC (x : PCell) : List UInt8 := lebs x.data.length 2 ++ if x.used = true then lebs x.killer 4 ++ x.data else []
def cellsB (l : List PCell) : List UInt8 := l.flatMap byC
def bodyB (p : Pag) : List UInt8 := lebs p.kind.toNat 1 ++ lebs p.cells.length 1 ++ lebs p.lsn 8 ++ lebs p.next 4 ++ cellsB p.cells
def padB (p : Pag) : List UInt8 := bodyB p ++ List.replicate (508 - (bodyB p).length) 0
def encB (p : Pag) : List UInt8 := lebs (sumQ 0 (padB p)) 4 ++ padB p
def encQ (p : Pag) : List UInt8 × Int := if mayQ p = true then (encB p, 0) else ([], 5)
theorem may_ok {p : Pag} (hm : mayQ p = true) : ∀ x ∈ p.cells, okCell x := fun x hx => by
 obtain ⟨i, hi, e⟩ := List.getElem_of_mem hx
 exact (((mayQ_iff p).1 hm).2.2.1 i x (by rw [List.getElem?_eq_getElem hi, e])).1
theorem wadd_some {bs : List UInt8} {p : Nat} {a : Option Nat} {cap : Nat} {l : List UInt8} : ∀ {s : WSt}, wadd bs (some (p, some (a, cap, l))) s → ∃ a' cap', s = some (p, some (a', cap', l ++ bs))
 | some (_, some (a', cap', _)), h => ⟨a', cap', by rw [h.1, h.2]⟩
 | none, h => h.elim
 | some (_, none), h => h.elim
end Go.Proofs.YtmcdaegaopfihaaGreat.Pg
end

section
namespace Go.K
set_option linter.unusedVariables false
set_option linter.unusedSimpArgs false

theorem Ok.forget {h h1 : Base} {F : List Asrt} {w : World} (hle : h.le h1) (ok : Ok h1 F w) : Ok h F w :=
 ⟨ok.os.trans hle.os, ok.tape.trans hle.tape, ok.output.trans hle.output, ⟨fun b o hb => ok.sat.imm b o (hle.mem b o hb), ok.sat.own⟩, ok.nd, fun b hb => by
  cases hm : h.mem b with
  | none => rfl
  | some o => have := hle.mem b o hm; rw [ok.dj b hb] at this; cases this⟩
section
variable {P : Program} {n : NN} {Q : Exit → Act → World → Prop} {E : Env} {h h1 : Base} {A R F : List Asrt} {ops : Array Oper}
theorem Tr.give {f : FuncId} {args : List Value} {Q : Value → List Asrt → Prop} (ht : ∀ h', h.le h' → Says h' A → Tr P f args h' R (fun u h1 H1 => Q u H1)) :
  Tr P f args h (A ++ R) (fun u h1 H1 => h1 = h ∧ Q u H1) := fun F w ok => by
 rw [List.append_assoc] at ok
 obtain ⟨h', hle, hs, ok', _⟩ := ok.freezeA
 refine Calls.mono (ht h' hle hs F w ok') fun e w' ⟨u, he, h1, H1, hle1, q2, ok1⟩ => ⟨u, he, h, H1, .refl _, ⟨rfl, q2⟩, ?_⟩
 exact Ok.forget (hle.trans hle1) ok1
end
theorem says_blk {h : Base} {T b : Nat} {cs : List Value} (hs : Says h [blk b T cs]) : Cels h [] b 0 cs := cels_of fun j u hj => ⟨fun w hw => by
 have e := hs.2 w hw _ (List.mem_singleton.2 rfl)
 rw [Nat.zero_add]
 exact (cel_own (K := [blk b T cs]) (h := h) 0 rfl hj).run w ⟨hw.imm, fun A hA => by
  rw [List.mem_singleton] at hA; subst hA; exact e⟩⟩
abbrev n64 (x : Nat) : Value := .int .u64 (x : Int)
def U64s (h : Base) (v : Value) (xs : List Nat) : Prop := SL h 1 v (xs.map fun x => [n64 x])
theorem says_nums {h : Base} {T b : Nat} {xs : List Nat} (hs : Says h [blk b T (xs.map n64)]) : U64s h (.slice (some ⟨b, 0, none⟩) xs.length xs.length) xs := by
 have hc := says_blk hs
 refine .inr ⟨b, 0, xs.length, by rw [List.length_map], by rw [List.length_map]; exact Nat.le_refl _, fun j hj => ?_⟩
 rw [List.length_map] at hj
 rw [List.getElem_map]
 refine ⟨rfl, ?_⟩
 have := hc.get j (n64 xs[j]) (by rw [List.getElem?_map, List.getElem?_eq_getElem hj]; rfl)
 rw [Nat.zero_add, Nat.mul_one]
 rw [Nat.zero_add] at this
 exact ⟨this, trivial⟩
end Go.K
end

section
namespace Go.Proofs.YtmcdaegaopfihaaGreat.Rc
open Go Go.K Go.Proofs Go.Proofs.YtmcdaegaopfihaaGreat Go.Proofs.YtmcdaegaopfihaaGreat.Pg Go.Proofs.YtmcdaegaopfihaaGreat.Ca
set_option linter.unusedVariables false
set_option linter.unusedSimpArgs false
set_option maxRecDepth 10000

def Wr (P : Nat) (l : List UInt8) (u : Value) (h0 h' : Base) (H' : List Asrt) : Prop := h' = h0 ∧ u = unit ∧ ∃ a c, H' = [wA (some (P, some (a, c, l)))]
abbrev wp (P : Nat) : Value := .pointer (some ⟨P, 0, none⟩)
theorem cuF_len : ∀ (f x : Nat), (cuF f x).length ≤ f + 1
 | 0, x => by simp [cuF]
 | f + 1, x => by
  unfold cuF
  split
  ·simp
  ·have := cuF_len f (x / 128)
   rw [List.length_cons]; omega
theorem cu_len (x : Nat) : (cu x).length ≤ 10 := cuF_len 9 x
theorem V_Uint (h : Base) (P : Nat) (a : Option Nat) (c : Nat) (l : List UInt8) (x : Nat) (hx : x < 18446744073709551616) (hl : l.length ≤ 1000000000) :
  Tr Tryz.prog 88 [wp P, .int .u64 x] h [wA (some (P, some (a, c, l)))] (fun u h' H' => Wr P (l ++ cu x) u h h' H') := fun F w ok =>
 Calls.mono (W_Uint h (some (P, some (a, c, l))) x hx (by simp only [wb, big]; omega) F w ok) fun e w' ⟨u, he, h1, H1, hle, ⟨q1, q2, s', q3, q4⟩, ok1⟩ => by
  obtain ⟨a', c', rfl⟩ := wadd_some q3
  exact ⟨u, he, h1, H1, hle, ⟨q2.symm, q1, a', c', q4⟩, ok1⟩
theorem V_U8 (h : Base) (P : Nat) (a : Option Nat) (c : Nat) (l : List UInt8) (x : Nat) (hx : x < 256) (hl : l.length ≤ 1000000000) :
  Tr Tryz.prog 86 [wp P, .int .u8 x] h [wA (some (P, some (a, c, l)))] (fun u h' H' => Wr P (l ++ lebs x 1) u h h' H') := fun F w ok =>
 Calls.mono (W_U8 h (some (P, some (a, c, l))) x hx (by simp only [wb, big]; omega) F w ok) fun e w' ⟨u, he, h1, H1, hle, ⟨q1, q2, s', q3, q4⟩, ok1⟩ => by
  obtain ⟨a', c', rfl⟩ := wadd_some q3
  exact ⟨u, he, h1, H1, hle, ⟨q2.symm, q1, a', c', q4⟩, ok1⟩
theorem V_Raw (h : Base) (P : Nat) (a : Option Nat) (c : Nat) (l : List UInt8) (v : Value) (b : List UInt8) (hv : BV h v b) (hl : l.length ≤ 1000000000) (hb : b.length ≤ 1000000000) :
  Tr Tryz.prog 60 [wp P, v] h [wA (some (P, some (a, c, l)))] (fun u h' H' => Wr P (l ++ b) u h h' H') := fun F w ok =>
 Calls.mono (W_RawB h (some (P, some (a, c, l))) v b hv (by simp only [wb, big]; omega) F w ok) fun e w' ⟨u, he, h1, H1, hle, ⟨q1, q2, s', q3, q4⟩, ok1⟩ => by
  obtain ⟨a', c', rfl⟩ := wadd_some q3
  exact ⟨u, he, h1, H1, hle, ⟨q2.symm, q1, a', c', q4⟩, ok1⟩
theorem V_Text (h : Base) (P : Nat) (a : Option Nat) (c : Nat) (l b : List UInt8) (hl : l.length ≤ 1000000000) (hb : b.length ≤ 1000000000) :
  Tr Tryz.prog 89 [wp P, .string ⟨b.toArray⟩] h [wA (some (P, some (a, c, l)))] (fun u h' H' => Wr P (l ++ (cu b.length ++ b)) u h h' H') := fun F w ok =>
 Calls.mono (W_Text h (some (P, some (a, c, l))) ⟨b.toArray⟩ (by simp only [wb, big]; show _ + b.length + 16 ≤ _; omega) F w ok) fun e w' ⟨u, he, h1, H1, hle, ⟨q1, q2, s', q3, q4⟩, ok1⟩ => by
  obtain ⟨a', c', rfl⟩ := wadd_some q3
  exact ⟨u, he, h1, H1, hle, ⟨q2.symm, q1, a', c', q4⟩, ok1⟩
theorem flat_at {α β : Type} {l : List α} {j : Nat} {x : α} (f : α → List β) (h : l[j]? = some x) : (l.take (j + 1)).flatMap f = (l.take j).flatMap f ++ f x := by
 rw [List.take_add_one, h, List.flatMap_append]
 simp
theorem nums_len : ∀ (xs : List Nat), (xs.flatMap cu).length ≤ 10 * xs.length
 | [] => Nat.le_refl _
 | x :: xs => by
  have h1 := nums_len xs
  have h2 := cu_len x
  rw [List.flatMap_cons, List.length_append, List.length_cons]; omega
set_option maxHeartbeats 1000000 in
theorem Numbers (h : Base) (P : Nat) (a : Option Nat) (c : Nat) (l : List UInt8) (v : Value) (xs : List Nat) (hv : U64s h v xs) (hx : ∀ x ∈ xs, x < 18446744073709551616) (hn : xs.length ≤ 10) (hl : l.length ≤ 900000000) :
  Tr Tryz.prog 87 [wp P, v] h [wA (some (P, some (a, c, l)))] (fun u h' H' => Wr P (l ++ xs.flatMap cu) u h h' H') := by
 unfold U64s at hv
 obtain ⟨ao, ca, rfl⟩ := hv.len
 rw [List.length_map] at hv ⊢
 refine K.enter Tryz.func87 rfl (Nat.le_of_ble_eq_true rfl) (fun F => ?_)
 simp only [List.cons_append, List.nil_append]
 (repeat' first | refine X.rq ?_ | refine X.rc ?_ ?_ <;> intro hc <;> try omega)
 refine K.c_loop (σ := Nat × Option Nat × Nat) (fun s => [(0, wp P), (6, .slice ao xs.length ca), (7, .int .i64 xs.length), (8, .int .i64 s.1)]) (fun _ => h) (fun s => wA (some (P, some (s.2.1, s.2.2, l ++ (xs.take s.1).flatMap cu))) :: F)
  (fun s => s.1 ≤ xs.length) (fun s => xs.length - s.1) (0, a, c) (Nat.zero_le _) (by repeat (first | exact K.Sub.nil _ | refine K.Sub.cons rfl ?_)) rfl (by simp) ?_
 rintro ⟨j, a1, c1⟩ hj KL hKL
 dsimp only at hj ⊢
 by_cases hjl : j < xs.length
 ·have hx1 : xs[j]? = some xs[j] := List.getElem?_eq_getElem hjl
  have hxl := hx _ (List.getElem_mem hjl)
  generalize xs[j] = x at hx1 hxl
  have hc0 : (xs.map fun x => [n64 x])[((j : Nat) : Int).toNat]? = some [n64 x] := by rw [Int.toNat_natCast, List.getElem?_map, hx1]; rfl
  have hlen := nums_len (xs.take j)
  have hlt : (xs.take j).length ≤ 10 := by rw [List.length_take]; omega
  (repeat' first | refine X.rq ?_ | refine X.rc ?_ ?_ <;> intro hc <;> try omega)
  refine K.s_pureE (K.p_indexL hv (Fx.und rfl) (Fx.sz rfl) rfl rfl (by omega) hc0) rfl ?_
  rintro v2 ⟨b, o, rfl, hcel⟩
  refine K.s_pure (K.p_load (Fx.agg rfl) rfl (K.Cel.up hcel.1)) rfl ?_
  (repeat' first | refine X.rq ?_ | refine X.rc ?_ ?_ <;> intro hc <;> try omega)
  refine K.l_call (Fx.cal rfl) rfl (V_Uint h P a1 c1 (l ++ (xs.take j).flatMap cu) x hxl (by rw [List.length_append]; omega)) (K.pp [0] rfl) rfl ?_
  rintro u h' H' - ⟨e, rfl, a2, c2, rfl⟩
  obtain rfl := e.symm
  simp only [Go.K.nmz]
  (repeat' first | refine X.rq ?_ | refine X.rc ?_ ?_ <;> intro hc <;> try omega)
  refine K.a_round hKL (j + 1, a2, c2) (by dsimp only; omega) (by repeat (first | exact K.Sub.nil _ | refine K.Sub.cons rfl ?_)) rfl ?_ (by dsimp only; omega)
  dsimp only
  rw [flat_at cu hx1, List.append_assoc]
 ·obtain rfl : j = xs.length := by omega
  rw [List.take_length]
  (repeat' first | refine X.rq ?_ | refine X.rc ?_ ?_ <;> intro hc <;> try omega)
  refine K.done (by first | exact Or.inl rfl | exact Or.inr rfl) rfl (by first | exact K.Base.le.refl _ | assumption) (H' := [wA (some (P, some (a1, c1, l ++ xs.flatMap cu)))]) rfl ⟨rfl, rfl, a1, c1, rfl⟩
theorem NumsB (h : Base) (P : Nat) (a : Option Nat) (c : Nat) (l : List UInt8) (B T : Nat) (xs : List Nat) (hx : ∀ x ∈ xs, x < 18446744073709551616) (hn : xs.length ≤ 10) (hl : l.length ≤ 900000000) :
  Tr Tryz.prog 87 [wp P, .slice (some ⟨B, 0, none⟩) xs.length xs.length] h ([blk B T (xs.map n64)] ++ [wA (some (P, some (a, c, l)))]) (fun u h' H' => h' = h ∧ u = unit ∧ ∃ a c, H' = [wA (some (P, some (a, c, l ++ xs.flatMap cu)))]) :=
 K.Tr.give fun h' hle hs => fun F w ok => Calls.mono (Numbers h' P a c l _ xs (K.says_nums hs) hx hn hl F w ok) fun e w' ⟨u, he, h1, H1, hle, ⟨_, q1, q2⟩, ok1⟩ => ⟨u, he, h1, H1, hle, ⟨q1, q2⟩, ok1⟩
end Go.Proofs.YtmcdaegaopfihaaGreat.Rc
end
