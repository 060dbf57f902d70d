/-
  Texts joined: Cb Fo. Conditions: each theorem's own.
-/
import Derived.Test.YtijbhgiigddjdaaGreatPC7
import Derived.Test.YtijbhgiigddjdaaGreatPC6
set_option linter.unusedVariables false
set_option linter.unusedSimpArgs false
set_option maxRecDepth 10000
set_option maxHeartbeats 16000000
section
namespace Go.Proofs.YtijbhgiigddjdaaGreat.Ca
open Go.K

theorem NewWriter (h : Base) : Tr Tryz.prog 100 [] h [] (fun v h' H' => h = h' ∧ ∃ p, v = wv (some (p, some (none, 0, []))) ∧ H' = [wA (some (p, some (none, 0, [])))]) := by
 refine K.en Tryz.func100 fun F => ?_
 (repeat' first | refine X.rq ?_ | refine X.rc ?_ ?_ <;> intro hc <;> try omega)
 refine K.l_box rfl rfl rfl (fun B => ?_)
 (repeat' first | refine X.rq ?_ | refine X.rc ?_ ?_ <;> intro hc <;> try omega)
 refine K.AT.nilBuf 5 1 (K.AT.perm (List.Perm.swap ..) (K.AT.close (wH (some (B, some (none, 0, [])))) ?_))
 refine K.dl rfl (H' := [wA (some (B, some (none, 0, [])))]) rfl ⟨rfl, B, rfl, rfl⟩

theorem W_Uint (h : Base) (s : WSt) (x : Nat) (hx : x < 18446744073709551616) (hl : (wb s).length + 16 ≤ big) : Tr Tryz.prog 137 [wv s, .int .u64 x] h [wA s] (Wrote h s (cu x)) := by
 refine K.en Tryz.func137 fun F => ?_
 (repeat' first | refine X.rq ?_ | refine X.rc ?_ ?_ <;> intro hc <;> try omega)
 refine K.c_loop (σ := WSt × Nat) (fun s => [(0, wv s.1), (1, .int .u64 s.2)]) (fun _ => h) (fun s => wA s.1 :: F)
  (fun r => r.2 < 18446744073709551616 ∧ ∃ pre, wadd pre s r.1 ∧ pre ++ cu r.2 = cu x) (fun s => s.2) (s, x) ⟨hx, [], wadd_nil s, rfl⟩ (by repeat (first | exact K.Sub.nil _ | refine K.Sub.cons rfl ?_)) rfl rfl ?_
 rintro ⟨s1, y⟩ ⟨hy, pre, hpre, hcu⟩ KL hKL
 dsimp only at hy hpre hcu ⊢
 have hl1 : (wb s1).length ≤ big := by
  have h1 := wadd_len hpre
  have h2 := congrArg List.length hcu
  have h3 := cu_len x
  rw [List.length_append] at h2
  omega
 (repeat' first | refine X.rq ?_ | refine X.rc ?_ ?_ <;> intro hc <;> try omega)
 ·rw [K.or128 y]
  refine K.l_call (Fx.cal rfl) rfl (W_U8 h s1 (y % 128 + 128) (by omega) hl1) (K.pp [0] rfl) rfl ?_
  rintro v h' H' - ⟨rfl, rfl, s2, hs2, rfl⟩
  (repeat' first | refine X.rq ?_ | refine X.rc ?_ ?_ <;> intro hc <;> try omega)
  rw [K.shr7 y]
  refine K.a_round hKL (s2, y / 128) ⟨by omega, pre ++ lebs (y % 128 + 128) 1, wadd_trans hpre hs2, ?_⟩ ?_ rfl rfl (by dsimp only; omega)
  ·rw [← hcu, cu_ge (x := y) (by omega) hy, List.append_assoc]
   simp [lebs, Nat.mod_eq_of_lt (show y % 128 + 128 < 256 by omega)]
  ·rw [← wadd_val hs2]
   exact (by repeat (first | exact K.Sub.nil _ | refine K.Sub.cons rfl ?_))
 ·refine K.l_call (Fx.cal rfl) rfl (W_U8 h s1 y (by omega) hl1) (K.pp [0] rfl) rfl ?_
  rintro v h' H' - ⟨rfl, rfl, s2, hs2, rfl⟩
  (repeat' first | refine X.rq ?_ | refine X.rc ?_ ?_ <;> intro hc <;> try omega)
  refine K.dl rfl (H' := [wA s2]) rfl ⟨rfl, rfl, s2, ?_, rfl⟩
  have := wadd_trans hpre hs2
  rw [← hcu, cu_lt (x := y) (by omega)]
  simpa [lebs, Nat.mod_eq_of_lt (show y < 256 by omega)] using this

theorem W_Raw (h : Base) (s : WSt) (a : Option Nat) (cap : Nat) (b : List UInt8) (hl : (wb s).length + b.length ≤ big) :
  Tr Tryz.prog 102 [wv s, bufV a b.length cap] h [wA s, bufA 5 1 a b.length cap (b.map u8)] (fun v h' H' => v = unit ∧ h = h' ∧ ∃ s', wadd b s s' ∧ H' = [wA s', bufA 5 1 a b.length cap (b.map u8)]) := by
 unfold big at hl
 match s with
 | none =>
  refine K.en Tryz.func102 fun F => ?_
  simp only [wv]
  (repeat' first | refine X.rq ?_ | refine X.rc ?_ ?_ <;> intro hc <;> try omega)
  refine K.dl rfl (H' := [wA none, _]) rfl ⟨rfl, rfl, none, trivial, rfl⟩
 | some (p, none) =>
  refine K.en Tryz.func102 fun F => ?_
  refine K.WC.open ?_
  simp only [wH, wv, List.cons_append, List.nil_append]
  (repeat' first | refine X.rq ?_ | refine X.rc ?_ ?_ <;> intro hc <;> try omega)
  refine K.AT.close (wH (some (p, none))) ?_
  refine K.dl rfl (H' := [wA (some (p, none)), _]) rfl ⟨rfl, rfl, some (p, none), rfl, rfl⟩
 | some (p, some (a0, cap0, l)) =>
  simp only [wb] at hl
  refine K.en Tryz.func102 fun F => ?_
  refine K.WC.open ?_
  simp only [wH, wv, List.cons_append, List.nil_append]
  (repeat' first | refine X.rq ?_ | refine X.rc ?_ ?_ <;> intro hc <;> try omega)
  refine K.l_append_at 1 rfl (Fx.und rfl) (Fx.und rfl) rfl (Fx.sz rfl) (Fx.zr rfl) rfl (Fx.byt rfl) rfl rfl (K.src_buf 1 rfl (by simp [K.u8_one]) (by simp)) (by omega) (by omega) rfl (fun a' cap' => ?_)
  simp only [Go.K.nmz]
  (repeat' first | refine X.rq ?_ | refine X.rc ?_ ?_ <;> intro hc <;> try omega)
  refine X.sto ?_
  (repeat' first | refine X.rq ?_ | refine X.rc ?_ ?_ <;> intro hc <;> try omega)
  rw [← List.map_append, ← List.length_append]
  refine K.AT.close (wH (some (p, some (a', cap', l ++ b)))) ?_
  refine K.dl rfl (H' := [wA (some (p, some (a', cap', l ++ b))), _]) rfl ⟨rfl, rfl, some (p, some (a', cap', l ++ b)), ⟨rfl, rfl⟩, rfl⟩

theorem W_Text (h : Base) (s : WSt) (t : ByteArray) (hl : (wb s).length + t.size + 16 ≤ big) : Tr Tryz.prog 138 [wv s, .string t] h [wA s] (Wrote h s (cu t.size ++ t.data.toList)) := by
 have hb : t.size ≤ big := by omega
 unfold big at hb
 refine K.en Tryz.func138 fun F => ?_
 (repeat' first | refine X.rq ?_ | refine X.rc ?_ ?_ <;> intro hc <;> try omega)
 refine K.l_call (Fx.cal rfl) rfl (W_Uint h s t.size (by omega) (by omega)) (K.pp [0] rfl) rfl ?_
 rintro v h' H' - ⟨rfl, rfl, s', hs, rfl⟩
 (repeat' first | refine X.rq ?_ | refine X.rc ?_ ?_ <;> intro hc <;> try omega)
 refine K.l_toBytes (Fx.und rfl) (Fx.und rfl) (Fx.und rfl) rfl (by unfold maxLen; omega) rfl (fun B cap => ?_)
 have h3 := wadd_len hs
 have h4 := cu_len t.size
 have h5 : t.data.toList.length = t.size := by simp
 refine K.l_call (vals := [wv s, bufV (some B) t.size cap]) (Fx.cal rfl) rfl (by
  have := W_Raw h s' (some B) cap t.data.toList (by omega)
  rw [h5, wadd_val hs] at this
  exact this) (K.pp [1, 0] rfl) rfl ?_
 rintro v h' H' - ⟨rfl, rfl, s2, hs2, rfl⟩
 (repeat' first | refine X.rq ?_ | refine X.rc ?_ ?_ <;> intro hc <;> try omega)
 refine K.AT.perm (List.Perm.swap ..) (K.AT.drop ?_)
 refine K.dl rfl (H' := [wA s2]) rfl ⟨rfl, rfl, s2, wadd_trans hs hs2, rfl⟩

theorem W_Len (h : Base) (s : WSt) : Tr Tryz.prog 129 [wv s] h [wA s] (fun v h' H' => v = .int .i64 (wb s).length ∧ h = h' ∧ H' = [wA s]) := by
 match s with
 | none =>
  refine K.en Tryz.func129 fun F => ?_
  simp only [wv]
  (repeat' first | refine X.rq ?_ | refine X.rc ?_ ?_ <;> intro hc <;> try omega)
  refine K.dl rfl (H' := [wA none]) rfl ⟨rfl, rfl, rfl⟩
 | some (p, none) =>
  refine K.en Tryz.func129 fun F => ?_
  refine K.WC.open ?_
  simp only [wH, wv, List.cons_append, List.nil_append]
  (repeat' first | refine X.rq ?_ | refine X.rc ?_ ?_ <;> intro hc <;> try omega)
  refine K.AT.close (wH (some (p, none))) ?_
  refine K.dl rfl (H' := [wA (some (p, none))]) rfl ⟨rfl, rfl, rfl⟩
 | some (p, some (a0, cap0, l)) =>
  refine K.en Tryz.func129 fun F => ?_
  refine K.WC.open ?_
  simp only [wH, wv, List.cons_append, List.nil_append]
  (repeat' first | refine X.rq ?_ | refine X.rc ?_ ?_ <;> intro hc <;> try omega)
  refine K.AT.close (wH (some (p, some (a0, cap0, l)))) ?_
  refine K.dl rfl (H' := [wA (some (p, some (a0, cap0, l)))]) rfl ⟨rfl, rfl, rfl⟩

theorem W_Bytes (h : Base) (s : WSt) (hl : (wb s).length ≤ big) : Tr Tryz.prog 104 [wv s] h [wA s] (fun v h' H' => h = h' ∧ ∃ a cap, v = bufV a (wb s).length cap ∧ H' = [bufA 5 1 a (wb s).length cap ((wb s).map u8), wA s]) := by
 unfold big at hl
 match s with
 | none =>
  refine K.en Tryz.func104 fun F => ?_
  simp only [wv]
  (repeat' first | refine X.rq ?_ | refine X.rc ?_ ?_ <;> intro hc <;> try omega)
  refine K.AT.nilBuf 5 1 ?_
  refine K.dl rfl (H' := [_, wA none]) rfl ⟨rfl, none, 0, rfl, rfl⟩
 | some (p, none) =>
  refine K.en Tryz.func104 fun F => ?_
  refine K.WC.open ?_
  simp only [wH, wv, List.cons_append, List.nil_append]
  (repeat' first | refine X.rq ?_ | refine X.rc ?_ ?_ <;> intro hc <;> try omega)
  refine K.WL.nilBuf 5 1 ?_
  refine K.l_append_at 0 rfl (Fx.und rfl) (Fx.und rfl) rfl (Fx.sz rfl) (Fx.zr rfl) rfl (Fx.byt rfl) rfl rfl K.src_nil (by omega) (by omega) rfl (fun a' cap' => ?_)
  simp only [Go.K.nmz]
  (repeat' first | refine X.rq ?_ | refine X.rc ?_ ?_ <;> intro hc <;> try omega)
  refine K.AT.perm (List.Perm.swap ..) (K.AT.close (wH (some (p, none))) (K.AT.perm (List.Perm.swap ..) ?_))
  refine K.dl rfl (H' := [_, wA (some (p, none))]) rfl ⟨rfl, a', cap', rfl, rfl⟩
 | some (p, some (a0, cap0, l)) =>
  simp only [wb] at hl
  refine K.en Tryz.func104 fun F => ?_
  refine K.WC.open ?_
  simp only [wH, wv, List.cons_append, List.nil_append]
  (repeat' first | refine X.rq ?_ | refine X.rc ?_ ?_ <;> intro hc <;> try omega)
  refine K.WL.nilBuf 5 1 ?_
  refine K.l_append_at 0 rfl (Fx.und rfl) (Fx.und rfl) rfl (Fx.sz rfl) (Fx.zr rfl) rfl (Fx.byt rfl) rfl rfl (K.src_buf 1 rfl (by simp [K.u8_one]) (by simp)) (by omega) (by omega) rfl (fun a' cap' => ?_)
  simp only [Go.K.nmz]
  (repeat' first | refine X.rq ?_ | refine X.rc ?_ ?_ <;> intro hc <;> try omega)
  rw [Nat.zero_add]
  refine K.AT.perm (K.perm3 ..) (K.AT.close (wH (some (p, some (a0, cap0, l)))) (K.AT.perm (List.Perm.swap ..) ?_))
  refine K.dl rfl (H' := [_, wA (some (p, some (a0, cap0, l)))]) rfl ⟨rfl, a', cap', rfl, rfl⟩
end Go.Proofs.YtijbhgiigddjdaaGreat.Ca
end

section
namespace Go.Proofs.YtijbhgiigddjdaaGreat.Pg
open Go.K Ca

theorem W_RawB (h : Base) (s : WSt) (v : Value) (b : List UInt8) (hv : BV h v b) (hl : (wb s).length + b.length ≤ big) :
  Tr Tryz.prog 102 [wv s, v] h [wA s] (Wrote h s b) := by
 unfold big at hl
 obtain ⟨ao, ca, rfl⟩ := hv.len
 match s with
 | none =>
  refine K.en Tryz.func102 fun F => ?_
  simp only [wv]
  (repeat' first | refine X.rq ?_ | refine X.rc ?_ ?_ <;> intro hc <;> try omega)
  refine K.dl rfl (H' := [wA none]) rfl ⟨rfl, rfl, none, trivial, rfl⟩
 | some (p, none) =>
  refine K.en Tryz.func102 fun F => ?_
  refine K.WC.open ?_
  simp only [wH, wv, List.cons_append, List.nil_append]
  (repeat' first | refine X.rq ?_ | refine X.rc ?_ ?_ <;> intro hc <;> try omega)
  refine K.AT.close (wH (some (p, none))) ?_
  refine K.dl rfl (H' := [wA (some (p, none))]) rfl ⟨rfl, rfl, some (p, none), rfl, rfl⟩
 | some (p, some (a0, cap0, l)) =>
  simp only [wb] at hl
  refine K.en Tryz.func102 fun F => ?_
  refine K.WC.open ?_
  simp only [wH, wv, List.cons_append, List.nil_append]
  (repeat' first | refine X.rq ?_ | refine X.rc ?_ ?_ <;> intro hc <;> try omega)
  refine K.l_append_at 1 rfl (Fx.und rfl) (Fx.und rfl) rfl (Fx.sz rfl) (Fx.zr rfl) rfl (Fx.byt rfl) rfl rfl (hv.src) (by omega) (by omega) rfl (fun a' cap' => ?_)
  simp only [Go.K.nmz]
  (repeat' first | refine X.rq ?_ | refine X.rc ?_ ?_ <;> intro hc <;> try omega)
  refine X.sto ?_
  (repeat' first | refine X.rq ?_ | refine X.rc ?_ ?_ <;> intro hc <;> try omega)
  rw [← List.map_append, ← List.length_append]
  refine K.AT.close (wH (some (p, some (a', cap', l ++ b)))) ?_
  refine K.dl rfl (H' := [wA (some (p, some (a', cap', l ++ b)))]) rfl ⟨rfl, rfl, some (p, some (a', cap', l ++ b)), ⟨rfl, rfl⟩, rfl⟩
def byC (x : PCell) : List UInt8 := lebs x.data.length 2 ++ if x.used = true then lebs x.killer 4 ++ x.data else []
def cellsB (l : List PCell) : List UInt8 := l.flatMap byC
def bodyB (p : Pag) : List UInt8 := lebs p.kind.toNat 1 ++ lebs p.cells.length 1 ++ lebs p.lsn 8 ++ lebs p.next 4 ++ cellsB p.cells
def padB (p : Pag) : List UInt8 := bodyB p ++ List.replicate (508 - (bodyB p).length) 0
def encB (p : Pag) : List UInt8 := lebs (sumQ 0 (padB p)) 4 ++ padB p
def encQ (p : Pag) : List UInt8 × Int := if mayQ p = true then (encB p, 0) else ([], 5)
theorem byC_len (x : PCell) (ho : okCell x) : (byC x).length = sizeC x := by
 unfold byC sizeC
 rw [List.length_append, lebs_length]
 cases hu : x.used with
 | true => simp [lebs_length]; omega
 | false => simp
theorem cellsB_len : ∀ {l : List PCell}, (∀ x ∈ l, okCell x) → (cellsB l).length = sizeS l
 | [], _ => rfl
 | x :: r, h => by
  unfold cellsB
  rw [List.flatMap_cons, List.length_append, byC_len x (h x (List.mem_cons_self ..)), sizeS]
  have := cellsB_len (l := r) fun y hy => h y (List.mem_cons_of_mem _ hy)
  unfold cellsB at this
  rw [this]
theorem may_ok {p : Pag} (hm : mayQ p = true) : ∀ x ∈ p.cells, okCell x := fun x hx => by
 obtain ⟨i, hi, e⟩ := List.getElem_of_mem hx
 exact (((mayQ_iff p).1 hm).2.2.1 i x (by rw [List.getElem?_eq_getElem hi, e])).1
theorem bodyB_len {p : Pag} (hm : mayQ p = true) : (bodyB p).length + 4 = sizeQ p.cells := by
 unfold bodyB sizeQ
 simp only [List.length_append, lebs_length, cellsB_len (may_ok hm)]
 omega
theorem bodyB_le {p : Pag} (hm : mayQ p = true) : (bodyB p).length ≤ 508 := by
 have h1 := bodyB_len hm
 have h2 := ((mayQ_iff p).1 hm).2.2.2
 omega
theorem padB_len {p : Pag} (hm : mayQ p = true) : (padB p).length = 508 := by
 have := bodyB_le hm
 unfold padB
 rw [List.length_append, List.length_replicate]; omega
theorem encB_len {p : Pag} (hm : mayQ p = true) : (encB p).length = 512 := by
 unfold encB
 rw [List.length_append, lebs_length, padB_len hm]
theorem cellsB_at {l : List PCell} {j : Nat} {x : PCell} (h : l[j]? = some x) : cellsB (l.take (j + 1)) = cellsB (l.take j) ++ byC x := by
 unfold cellsB
 rw [List.take_add_one, h, List.flatMap_append]; simp
theorem zeros_made (m : Nat) : (madeCells #[Value.int .u8 0] (m * 1)).toList.take (m * 1) = (List.replicate m (0 : UInt8)).map u8 := by
 rw [List.map_replicate]
 refine List.ext_getElem? fun i => ?_
 by_cases hi : i < m
 ·rw [List.getElem?_take, if_pos (by omega)]
  simp only [madeCells, List.size_toArray, Array.toList_map, Array.toList_range, List.getElem?_map]
  rw [List.getElem?_range (by omega), List.getElem?_replicate, if_pos hi]
  simp [Nat.mod_one]
  rfl
 ·have hml : (madeCells #[Value.int .u8 0] (m * 1)).toList.length = m * 1 := (Array.length_toList ..).trans (size_madeCells _ _)
  rw [List.getElem?_eq_none (by rw [List.length_take, hml]; omega), List.getElem?_eq_none (by simp; omega)]
theorem wadd_some {bs : List UInt8} {p : Nat} {a : Option Nat} {cap : Nat} {l : List UInt8} : ∀ {s : WSt}, wadd bs (some (p, some (a, cap, l))) s → ∃ a' cap', s = some (p, some (a', cap', l ++ bs))
 | some (_, some (a', cap', _)), h => ⟨a', cap', by rw [h.1, h.2]⟩
 | none, h => h.elim
 | some (_, none), h => h.elim
theorem Encode (h : Base) (cs : List Value) (p : Pag) (hx : PagC h cs p) :
  Tr Tryz.prog 91 [.agg cs.toArray] h [] (fun v h' H' => h' = h ∧ ∃ a cap, v = .tuple #[bufV a (encQ p).1.length cap, .int .i64 (encQ p).2] ∧ H' = [bufA 5 1 a (encQ p).1.length cap ((encQ p).1.map u8)]) := by
 have hmay := PMay h _ p hx
 obtain ⟨hw, cv, rfl, es, hv, hel, hr⟩ := hx
 obtain ⟨ao, ca, rfl⟩ := hv.len
 rw [hel] at hv hmay ⊢
 refine K.en Tryz.func91 fun F => ?_
 (repeat' first | refine X.rq ?_ | refine X.rc ?_ ?_ <;> intro hc <;> try omega)
 refine K.l_box rfl rfl rfl (fun B => ?_)
 (repeat' first | refine X.rq ?_ | refine X.rc ?_ ?_ <;> intro hc <;> try omega)
 refine K.l_callV (Fx.cal rfl) rfl hmay (K.pp [] rfl) rfl rfl ?_
 simp only [Go.K.nmz]
 cases hm : mayQ p with
 | false =>
  have hres : encQ p = ([], 5) := by rw [encQ, if_neg (by rw [hm]; decide)]
  rw [hres]
  (repeat' first | refine X.rq ?_ | refine X.rc ?_ ?_ <;> intro hc <;> try omega)
  refine K.AT.drop ?_
  refine K.AT.nilBuf 5 1 ?_
  refine K.dl rfl (H' := [bufA 5 1 none 0 0 []]) rfl ⟨rfl, none, 0, rfl, rfl⟩
 | true =>
  have hres : encQ p = (encB p, 0) := by rw [encQ, if_pos hm]
  rw [hres]
  obtain ⟨⟨hk1, hk3⟩, h60, hcells, _⟩ := (mayQ_iff p).1 hm
  have hbl := bodyB_le hm
  obtain ⟨k, hk⟩ : ∃ k : Nat, p.kind = k := ⟨p.kind.toNat, by omega⟩
  have hkn : p.kind.toNat = k := by omega
  have hwl := hw.lsn
  have hwn := hw.next
  have hok := may_ok hm
  have hbody : bodyB p = [] ++ lebs k 1 ++ lebs p.cells.length 1 ++ lebs p.lsn 8 ++ lebs p.next 4 ++ cellsB p.cells := by rw [bodyB, hkn]; rfl
  (repeat' first | refine X.rq ?_ | refine X.rc ?_ ?_ <;> intro hc <;> try omega)
  refine K.l_call (Fx.cal rfl) rfl (NewWriter h) (K.pp [] rfl) rfl ?_
  rintro u h' H' - ⟨rfl, P1, rfl, rfl⟩
  simp only [Go.K.nmz]
  (repeat' first | refine X.rq ?_ | refine X.rc ?_ ?_ <;> intro hc <;> try omega)
  rw [hk]
  refine K.l_call (Fx.cal rfl) rfl (W_U8 h (some (P1, some (none, 0, []))) k (by omega) (by simp [wb])) (K.pp [0] rfl) rfl ?_
  rintro v h' H' - ⟨rfl, rfl, s1, hs1, rfl⟩
  obtain ⟨a1, c1, rfl⟩ := wadd_some hs1
  simp only [Go.K.nmz]
  generalize hl1 : lebs k 1 = l1
  (repeat' first | refine X.rq ?_ | refine X.rc ?_ ?_ <;> intro hc <;> try omega)
  refine K.l_call (Fx.cal rfl) rfl (W_U8 h (some (P1, some (a1, c1, l1))) p.cells.length (by omega) (by simp [wb, big, ← hl1, lebs_length])) (K.pp [0] rfl) rfl ?_
  rintro v h' H' - ⟨rfl, rfl, s2, hs2, rfl⟩
  obtain ⟨a2, c2, rfl⟩ := wadd_some hs2
  simp only [Go.K.nmz]
  generalize hl2 : l1 ++ lebs p.cells.length 1 = l2
  (repeat' first | refine X.rq ?_ | refine X.rc ?_ ?_ <;> intro hc <;> try omega)
  refine K.l_call (Fx.cal rfl) rfl (W_U64 h (some (P1, some (a2, c2, l2))) p.lsn hwl (by simp [wb, big, ← hl1, ← hl2, lebs_length])) (K.pp [0] rfl) rfl ?_
  rintro v h' H' - ⟨rfl, rfl, s3, hs3, rfl⟩
  obtain ⟨a3, c3, rfl⟩ := wadd_some hs3
  simp only [Go.K.nmz]
  generalize hl3 : l2 ++ lebs p.lsn 8 = l3
  (repeat' first | refine X.rq ?_ | refine X.rc ?_ ?_ <;> intro hc <;> try omega)
  refine K.l_call (Fx.cal rfl) rfl (W_U32 h (some (P1, some (a3, c3, l3))) p.next hwn (by simp [wb, big, ← hl1, ← hl2, ← hl3, lebs_length])) (K.pp [0] rfl) rfl ?_
  rintro v h' H' - ⟨rfl, rfl, s4, hs4, rfl⟩
  obtain ⟨a4, c4, rfl⟩ := wadd_some hs4
  simp only [Go.K.nmz]
  generalize hl4 : l3 ++ lebs p.next 4 = l4
  (repeat' first | refine X.rq ?_ | refine X.rc ?_ ?_ <;> intro hc <;> try omega)
  rw [List.nil_append, hl1, hl2, hl3, hl4] at hbody
  have hhd : l4.length = 14 := by simp [← hl1, ← hl2, ← hl3, ← hl4, lebs_length]
  clear hs1 hs2 hs3 hs4 hl1 hl2 hl3 hl4
  refine K.c_loop (σ := Nat × Option Nat × Nat × List UInt8) (fun s => [(4, wv (some (P1, some (s.2)))), (32, .slice ao p.cells.length ca), (33, .int .i64 p.cells.length), (34, .int .i64 s.1)]) (fun _ => h) (fun s => wA (some (P1, some s.2)) :: blk B 41 (cP p (.slice ao p.cells.length ca)) :: F)
   (fun s => s.1 ≤ p.cells.length ∧ s.2.2.2 = l4 ++ cellsB (p.cells.take s.1)) (fun s => p.cells.length - s.1) (0, a4, c4, l4) ⟨Nat.zero_le _, by simp [cellsB]⟩ (by repeat (first | exact K.Sub.nil _ | refine K.Sub.cons rfl ?_)) rfl rfl ?_
  rintro ⟨j, a5, c5, l5⟩ ⟨hj, hl5⟩ KL hKL
  dsimp only at hj hl5 ⊢
  by_cases hjl : j < p.cells.length
  ·have hc1 : es[j]? = some (es[j]'(by omega)) := List.getElem?_eq_getElem (by omega)
   have hc0 : es[((j : Nat) : Int).toNat]? = some (es[j]'(by omega)) := by rw [Int.toNat_natCast]; exact hc1
   have he1 : p.cells[j]? = some p.cells[j] := List.getElem?_eq_getElem hjl
   have hox := hok _ (List.getElem_mem hjl)
   have hat := cellsB_at he1
   have hlj : (cellsB (p.cells.take j)).length ≤ 1000 := by
    rw [cellsB_len fun x hx => hok x (List.mem_of_mem_take hx)]
    have h1 := sizeS_append (p.cells.take j) (p.cells.drop j)
    rw [List.take_append_drop] at h1
    have h2 := ((mayQ_iff p).1 hm).2.2.2
    unfold sizeQ at h2
    omega
   generalize es[j]'(by omega) = c at hc0 hc1
   generalize p.cells[j] = x at he1 hox hat
   obtain ⟨hkl, hdl, ao3, ca3, rfl, hbv⟩ := hr j c x hc1 he1
   have hl5n : l5.length ≤ 1014 := by rw [hl5, List.length_append, hhd]; omega
   have hxd : x.data.length ≤ 180 := by
    cases hu : x.used with
    | true => have := hox.1 hu; omega
    | false => have := hox.2 hu; omega
   (repeat' first | refine X.rq ?_ | refine X.rc ?_ ?_ <;> intro hc <;> try omega)
   refine K.s_pureE (K.p_indexL hv (Fx.und rfl) (Fx.sz rfl) rfl rfl (by omega) hc0) rfl ?_
   rintro v2 ⟨b, o, rfl, hcel⟩
   refine K.s_pure (K.p_loadM (Fx.agg rfl) rfl (Cels.up hcel) (Fx.sz rfl) rfl) rfl ?_
   refine K.l_alloc (Fx.zr rfl) rfl rfl (fun B5 => ?_)
   (repeat' first | refine X.rq ?_ | refine X.rc ?_ ?_ <;> intro hc <;> try omega)
   refine X.stw ?_
   simp only [Go.K.nmz]
   (repeat' first | refine X.rq ?_ | refine X.rc ?_ ?_ <;> intro hc <;> try omega)
   refine K.l_call (Fx.cal rfl) rfl (W_U16 h (some (P1, some (a5, c5, l5))) x.data.length (by omega) (by simp only [wb, big]; omega)) (K.pp [1] rfl) rfl ?_
   rintro v h' H' - ⟨rfl, rfl, s6, hs6, rfl⟩
   obtain ⟨a6, c6, rfl⟩ := wadd_some hs6
   simp only [Go.K.nmz]
   generalize hl6 : l5 ++ lebs x.data.length 2 = l6
   have hl6n : l6.length ≤ 1016 := by rw [← hl6, List.length_append, lebs_length]; omega
   cases hu : x.used with
   | true =>
    (repeat' first | refine X.rq ?_ | refine X.rc ?_ ?_ <;> intro hc <;> try omega)
    refine K.l_call (Fx.cal rfl) rfl (W_U32 h (some (P1, some (a6, c6, l6))) x.killer hkl (by simp only [wb, big]; omega)) (K.pp [0] rfl) rfl ?_
    rintro v h' H' - ⟨rfl, rfl, s7, hs7, rfl⟩
    obtain ⟨a7, c7, rfl⟩ := wadd_some hs7
    simp only [Go.K.nmz]
    generalize hl7 : l6 ++ lebs x.killer 4 = l7
    have hl7n : l7.length ≤ 1020 := by rw [← hl7, List.length_append, lebs_length]; omega
    (repeat' first | refine X.rq ?_ | refine X.rc ?_ ?_ <;> intro hc <;> try omega)
    refine K.l_call (Fx.cal rfl) rfl (W_RawB h (some (P1, some (a7, c7, l7))) _ x.data hbv (by simp only [wb, big]; omega)) (K.pp [0] rfl) rfl ?_
    rintro v h' H' - ⟨rfl, rfl, s8, hs8, rfl⟩
    obtain ⟨a8, c8, rfl⟩ := wadd_some hs8
    simp only [Go.K.nmz]
    generalize hl8 : l7 ++ x.data = l8
    (repeat' first | refine X.rq ?_ | refine X.rc ?_ ?_ <;> intro hc <;> try omega)
    refine K.AT.perm (K.pp [1] rfl) ?_
    simp only [Go.K.nmz]
    refine K.AT.drop ?_
    refine K.a_round hKL (j + 1, a8, c8, l8) ⟨by dsimp only; omega, ?_⟩ (by repeat (first | exact K.Sub.nil _ | refine K.Sub.cons rfl ?_)) rfl rfl (by dsimp only; omega)
    dsimp only
    rw [← hl8, ← hl7, ← hl6, hl5, hat, byC, if_pos hu]
    simp only [List.append_assoc]
   | false =>
    (repeat' first | refine X.rq ?_ | refine X.rc ?_ ?_ <;> intro hc <;> try omega)
    refine K.AT.perm (K.pp [1] rfl) ?_
    simp only [Go.K.nmz]
    refine K.AT.drop ?_
    refine K.a_round hKL (j + 1, a6, c6, l6) ⟨by dsimp only; omega, ?_⟩ (by repeat (first | exact K.Sub.nil _ | refine K.Sub.cons rfl ?_)) rfl rfl (by dsimp only; omega)
    dsimp only
    rw [← hl6, hl5, hat, byC, if_neg (by rw [hu]; decide), List.append_nil]
    simp only [List.append_assoc]
  ·have hl5b : l5 = bodyB p := by rw [hl5, hbody, show j = p.cells.length by omega, List.take_length]
   rw [← hl5b] at hbl
   have hpad : l5 ++ List.replicate (508 - l5.length) 0 = padB p := by rw [padB, ← hl5b]
   have hraw := W_Raw h (some (P1, some (a5, c5, l5)))
   show WC Tryz.prog Tryz.f91.ntmps _ _ _ _ _
   (repeat' first | refine X.rq ?_ | refine X.rc ?_ ?_ <;> intro hc <;> try omega)
   refine K.l_call (Fx.cal rfl) rfl (W_Len h (some (P1, some (a5, c5, l5)))) (K.pp [0] rfl) rfl ?_
   rintro u h' H' - ⟨rfl, rfl, rfl⟩
   simp only [wb]
   simp only [Go.K.nmz]
   (repeat' first | refine X.rq ?_ | refine X.rc ?_ ?_ <;> intro hc <;> try omega)
   rw [show (508 : Int) - (l5.length : Int) = ((508 - l5.length : Nat) : Int) by omega]
   refine K.l_makeSlice (m := 508 - l5.length) (c := 508 - l5.length) (Fx.und rfl) (Fx.sz rfl) (Fx.zr rfl) rfl (Fx.byt rfl) rfl rfl (by omega) (by omega) (by unfold maxLen; omega) rfl (fun B6 => ?_)
   rw [show (Value.int .u8 0).cells = #[Value.int .u8 0] from rfl, zeros_made]
   (repeat' first | refine X.rq ?_ | refine X.rc ?_ ?_ <;> intro hc <;> try omega)
   refine K.l_call (Fx.cal rfl) rfl (by
    have := hraw (some B6) (508 - l5.length) (List.replicate (508 - l5.length) 0) (by rw [List.length_replicate]; simp only [wb, big]; omega)
    rw [List.length_replicate] at this
    exact this) (K.pp [1, 0] rfl) rfl ?_
   rintro v h' H' - ⟨rfl, rfl, s9, hs9, rfl⟩
   obtain ⟨a9, c9, rfl⟩ := wadd_some hs9
   simp only [Go.K.nmz]
   rw [hpad]
   have hpl := padB_len hm
   have hsum := sumQ_lt (s := 0) (by decide) (padB p)
   have henc : encB p = lebs (sumQ 0 (padB p)) 4 ++ padB p := rfl
   have henl := encB_len hm
   generalize padB p = l9 at hpl hsum henc ⊢
   (repeat' first | refine X.rq ?_ | refine X.rc ?_ ?_ <;> intro hc <;> try omega)
   refine K.l_call (Fx.cal rfl) rfl (NewWriter h) (K.pp [] rfl) rfl ?_
   rintro u h' H' - ⟨rfl, P2, rfl, rfl⟩
   simp only [Go.K.nmz]
   (repeat' first | refine X.rq ?_ | refine X.rc ?_ ?_ <;> intro hc <;> try omega)
   refine K.l_call (Fx.cal rfl) rfl (W_Bytes h (some (P1, some (a9, c9, l9))) (by simp only [wb, big]; omega)) (K.pp [1] rfl) rfl ?_
   rintro u h' H' - ⟨rfl, a10, c10, rfl, rfl⟩
   simp only [wb]
   simp only [Go.K.nmz]
   (repeat' first | refine X.rq ?_ | refine X.rc ?_ ?_ <;> intro hc <;> try omega)
   refine K.l_callV (Fx.cal rfl) rfl (K.TrV.borrow (h := h) (A := [bufA 5 1 a10 l9.length c10 (l9.map u8)]) (R := []) fun h' hle hs => SumOf h' _ l9 (K.says_bv hs) (by omega)) (K.pp [0] rfl) rfl rfl ?_
   simp only [Go.K.nmz]
   (repeat' first | refine X.rq ?_ | refine X.rc ?_ ?_ <;> intro hc <;> try omega)
   refine K.l_call (Fx.cal rfl) rfl (W_U32 h (some (P2, some (none, 0, []))) (sumQ 0 l9) hsum (by simp [wb])) (K.pp [2] rfl) rfl ?_
   rintro v h' H' - ⟨rfl, rfl, s11, hs11, rfl⟩
   obtain ⟨a11, c11, rfl⟩ := wadd_some hs11
   simp only [Go.K.nmz]
   (repeat' first | refine X.rq ?_ | refine X.rc ?_ ?_ <;> intro hc <;> try omega)
   refine K.l_call (Fx.cal rfl) rfl (W_Bytes h (some (P1, some (a9, c9, l9))) (by simp only [wb, big]; omega)) (K.pp [2] rfl) rfl ?_
   rintro u h' H' - ⟨rfl, a12, c12, rfl, rfl⟩
   simp only [wb]
   simp only [Go.K.nmz]
   (repeat' first | refine X.rq ?_ | refine X.rc ?_ ?_ <;> intro hc <;> try omega)
   refine K.l_call (Fx.cal rfl) rfl (W_Raw h (some (P2, some (a11, c11, lebs (sumQ 0 l9) 4))) a12 c12 l9 (by simp only [wb, big, lebs_length]; omega)) (K.pp [2, 0] rfl) rfl ?_
   rintro v h' H' - ⟨rfl, rfl, s13, hs13, rfl⟩
   obtain ⟨a13, c13, rfl⟩ := wadd_some hs13
   simp only [Go.K.nmz]
   rw [← henc]
   (repeat' first | refine X.rq ?_ | refine X.rc ?_ ?_ <;> intro hc <;> try omega)
   refine K.l_call (Fx.cal rfl) rfl (W_Bytes h (some (P2, some (a13, c13, encB p))) (by simp only [wb, big]; omega)) (K.pp [0] rfl) rfl ?_
   rintro u h' H' - ⟨rfl, a14, c14, rfl, rfl⟩
   simp only [wb]
   simp only [Go.K.nmz]
   (repeat' first | refine X.rq ?_ | refine X.rc ?_ ?_ <;> intro hc <;> try omega)
   refine K.AT.sel [1, 1, 1, 1, 1, 1] rfl ?_
   refine K.dl rfl (H' := [bufA 5 1 a14 (encB p).length c14 ((encB p).map u8)]) rfl ⟨rfl, a14, c14, rfl, rfl⟩
end Go.Proofs.YtijbhgiigddjdaaGreat.Pg
end
