/-
 The walks of package code, the writer: what each function does to the memory it owns. Conditions: each theorem's own.
-/
import Derived.Test.YtijbhgiigddjdaaGreatPC0
import Derived.Test.YtijbhgiigddjdaaGreatPC3
set_option linter.unusedVariables false
set_option linter.unusedSimpArgs false
set_option maxRecDepth 10000
set_option maxHeartbeats 16000000
namespace Go.Proofs.YtijbhgiigddjdaaGreat.Ca
open Go.K

def WSt : Type := Option (Nat × Option (Option Nat × Nat × List UInt8))
def wv : WSt → Value
 | none => .pointer none
 | some (p, _) => .pointer (some ⟨p, 0, none⟩)
def wH : WSt → List Asrt
 | none => []
 | some (p, none) => [blk p 204 [.bool false, .slice none 0 0]]
 | some (p, some (a, cap, l)) => [blk p 204 [.bool true, bufV a l.length cap], bufA 5 1 a l.length cap (l.map u8)]
abbrev wA (s : WSt) : Asrt := all (wH s)
def wb : WSt → List UInt8
 | some (_, some (_, _, l)) => l
 | _ => []
def wadd (bs : List UInt8) : WSt → WSt → Prop
 | none, none => True
 | some (p, none), some (p', none) => p' = p
 | some (p, some (_, _, l)), some (p', some (_, _, l')) => p' = p ∧ l' = l ++ bs
 | _, _ => False
theorem wadd_trans {b1 b2 : List UInt8} : ∀ {s1 s2 s3 : WSt}, wadd b1 s1 s2 → wadd b2 s2 s3 → wadd (b1 ++ b2) s1 s3
 | none, none, none, _, _ => trivial
 | some (_, none), some (_, none), some (_, none), h1, h2 => h2.trans h1
 | some (_, some (_, _, _)), some (_, some (_, _, _)), some (_, some (_, _, _)), h1, h2 => ⟨h2.1.trans h1.1, by rw [h2.2, h1.2, List.append_assoc]⟩
 | none, some _, _, h1, _ => h1.elim
 | none, none, some _, _, h2 => h2.elim
 | some (_, none), none, _, h1, _ => h1.elim
 | some (_, none), some (_, some _), _, h1, _ => h1.elim
 | some (_, none), some (_, none), none, _, h2 => h2.elim
 | some (_, none), some (_, none), some (_, some _), _, h2 => h2.elim
 | some (_, some _), none, _, h1, _ => h1.elim
 | some (_, some _), some (_, none), _, h1, _ => h1.elim
 | some (_, some _), some (_, some _), none, _, h2 => h2.elim
 | some (_, some _), some (_, some _), some (_, none), _, h2 => h2.elim
theorem wadd_nil : ∀ (s : WSt), wadd [] s s
 | none => trivial
 | some (_, none) => rfl
 | some (_, some (_, _, l)) => ⟨rfl, (List.append_nil l).symm⟩
theorem wadd_len {bs : List UInt8} : ∀ {s s' : WSt}, wadd bs s s' → (wb s').length ≤ (wb s).length + bs.length
 | none, none, _ => by simp [wb]
 | some (_, none), some (_, none), _ => by simp [wb]
 | some (_, some (_, _, _)), some (_, some (_, _, _)), h => by simp [wb, h.2]
 | none, some _, h => h.elim
 | some (_, none), none, h => h.elim
 | some (_, none), some (_, some _), h => h.elim
 | some (_, some _), none, h => h.elim
 | some (_, some _), some (_, none), h => h.elim
theorem wadd_val {bs : List UInt8} : ∀ {s s' : WSt}, wadd bs s s' → wv s' = wv s
 | none, none, _ => rfl
 | some (_, none), some (_, none), h => by show Value.pointer _ = Value.pointer _; rw [show _ = _ from h]
 | some (_, some (_, _, _)), some (_, some (_, _, _)), h => by show Value.pointer _ = Value.pointer _; rw [h.1]
 | none, some _, h => h.elim
 | some (_, none), none, h => h.elim
 | some (_, none), some (_, some _), h => h.elim
 | some (_, some _), none, h => h.elim
 | some (_, some _), some (_, none), h => h.elim
abbrev unit : Value := .tuple #[]
abbrev Wrote (h : Base) (s : WSt) (bs : List UInt8) (v : Value) (h' : Base) (H' : List Asrt) : Prop := v = unit ∧ h = h' ∧ ∃ s', wadd bs s s' ∧ H' = [wA s']
def big : Nat := 1099511627776

theorem put_u8 (h : Base) (s : WSt) (x m : Nat) (hx : x < 256) (hm : m ≤ 8) (hl : (wb s).length ≤ big) :
  Tr Tryz.prog 145 [wv s, .int .u8 x, .int .i64 m] h [wA s] (Wrote h s (lebs x m)) := by
 unfold big at hl
 match s with
 | none =>
  refine K.en Tryz.func145 fun F => ?_
  refine K.WC.open ?_
  simp only [wH, wv]
  (repeat' first | refine X.rq ?_ | refine X.rc ?_ ?_ <;> intro hc <;> try omega)
  refine K.AT.close (wH none) ?_
  refine K.dl rfl (H' := [wA none]) rfl ⟨rfl, rfl, none, trivial, rfl⟩
 | some (p, none) =>
  refine K.en Tryz.func145 fun F => ?_
  refine K.WC.open ?_
  simp only [wH, wv, List.cons_append, List.nil_append]
  (repeat' first | refine X.rq ?_ | refine X.rc ?_ ?_ <;> intro hc <;> try omega)
  refine K.AT.close (wH (some (p, none))) ?_
  refine K.dl rfl (H' := [wA (some (p, none))]) rfl ⟨rfl, rfl, some (p, none), rfl, rfl⟩
 | some (p, some (a, cap, l)) =>
  simp only [wb] at hl
  refine K.en Tryz.func145 fun F => ?_
  refine K.WC.open ?_
  simp only [wH, wv, List.cons_append, List.nil_append]
  (repeat' first | refine X.rq ?_ | refine X.rc ?_ ?_ <;> intro hc <;> try omega)
  refine K.c_loop (σ := Nat × Option Nat × Nat) (fun s => [(0, .pointer (some ⟨p, 0, none⟩)), (1, .int .u8 x), (17, .int .i64 m), (18, .int .i64 s.1)]) (fun _ => h)
   (fun s => blk p 204 [.bool true, bufV s.2.1 (l.length + s.1) s.2.2] :: bufA 5 1 s.2.1 (l.length + s.1) s.2.2 ((l ++ lebs x s.1).map u8) :: F) (fun s => s.1 ≤ m) (fun s => m - s.1) (0, a, cap) (Nat.zero_le _)
   (by repeat (first | exact K.Sub.nil _ | refine K.Sub.cons rfl ?_)) rfl (by rw [show lebs x 0 = [] from rfl, List.append_nil]; rfl) ?_
  rintro ⟨j, a, cap⟩ hj KL hKL
  dsimp only at hj ⊢
  (repeat' first | refine X.rq ?_ | refine X.rc ?_ ?_ <;> intro hc <;> try omega)
  ·refine X.draw (_) [13, 17] (.pu 0 (.pu 1 (.pu 2 (.pu 3 (.pu 4 (.pu 6 (.pu 7 (.pu 8 (.pu 9 (.pu 10 (.pu 11 (.st 5 (.on 12 (.cl 13 (.pu 14 (.pu 15 (.pu 16 (.cl 17 .nil)))))))))))))))))) ?_
   refine X.u_mv ?_
   refine X.u_mv ?_
   refine X.u_nc ?_
   refine X.u_fa ?_
   refine X.u_fa ?_
   refine X.u_mv ?_
   refine X.u_cv ?_
   refine X.u_mv ?_
   refine X.u_bmul ?_
   refine X.u_bshr ?_
   refine X.u_cv ?_
   refine X.s_ld ?_
   refine K.d_on rfl (fun KK hKK => ?_)
   refine X.bs (fun B => ?_)
   refine K.l_nil ?_
   refine X.onE hKK ?_
   refine K.d_cl rfl (fun KK hKK => ?_)
   refine K.l_append_at 2 rfl (Fx.und rfl) (Fx.und rfl) rfl (Fx.sz rfl) (Fx.zr rfl) rfl (Fx.byt rfl) rfl rfl (K.src_one (K.cel_own 0 rfl rfl) rfl) (by omega) (by omega) rfl (fun a' cap' => ?_)
   simp only [Go.K.nmz]
   refine K.l_nil ?_
   refine K.d_clE hKK ?_
   refine X.u_nc ?_
   refine X.u_fa ?_
   refine X.u_fa ?_
   refine K.d_cl rfl (fun KK hKK => ?_)
   refine X.sto ?_
   refine K.l_nil ?_
   refine K.d_clE hKK ?_
   refine K.d_nil ?_
   (repeat' first | refine X.rq ?_ | refine X.rc ?_ ?_ <;> intro hc <;> try omega)
   rw [K.byte_val x j (by omega)]
   refine K.AT.drop (K.a_round hKL (j + 1, a', cap') (by omega) (by repeat (first | exact K.Sub.nil _ | refine K.Sub.cons rfl ?_)) rfl ?_ (by dsimp only; omega))
   dsimp only
   rw [lebs_snoc, ← List.append_assoc, List.map_append (l₁ := l ++ lebs x j)]
   rfl
  ·obtain rfl : j = m := by omega
   have e : [blk p 204 [.bool true, bufV a (l.length + j) cap], bufA 5 1 a (l.length + j) cap ((l ++ lebs x j).map u8)] = wH (some (p, some (a, cap, l ++ lebs x j))) := by
    simp only [wH, List.length_append, lebs_length]
   refine K.AT.close [blk p 204 [.bool true, bufV a (l.length + j) cap], bufA 5 1 a (l.length + j) cap ((l ++ lebs x j).map u8)] ?_
   rw [e]
   refine K.dl rfl (H' := [wA (some (p, some (a, cap, l ++ lebs x j)))]) rfl ⟨rfl, rfl, some (p, some (a, cap, l ++ lebs x j)), ⟨rfl, rfl⟩, rfl⟩
theorem put_u16 (h : Base) (s : WSt) (x m : Nat) (hx : x < 65536) (hm : m ≤ 8) (hl : (wb s).length ≤ big) :
  Tr Tryz.prog 135 [wv s, .int .u16 x, .int .i64 m] h [wA s] (Wrote h s (lebs x m)) := by
 unfold big at hl
 match s with
 | none =>
  refine K.en Tryz.func135 fun F => ?_
  refine K.WC.open ?_
  simp only [wH, wv]
  (repeat' first | refine X.rq ?_ | refine X.rc ?_ ?_ <;> intro hc <;> try omega)
  refine K.AT.close (wH none) ?_
  refine K.dl rfl (H' := [wA none]) rfl ⟨rfl, rfl, none, trivial, rfl⟩
 | some (p, none) =>
  refine K.en Tryz.func135 fun F => ?_
  refine K.WC.open ?_
  simp only [wH, wv, List.cons_append, List.nil_append]
  (repeat' first | refine X.rq ?_ | refine X.rc ?_ ?_ <;> intro hc <;> try omega)
  refine K.AT.close (wH (some (p, none))) ?_
  refine K.dl rfl (H' := [wA (some (p, none))]) rfl ⟨rfl, rfl, some (p, none), rfl, rfl⟩
 | some (p, some (a, cap, l)) =>
  simp only [wb] at hl
  refine K.en Tryz.func135 fun F => ?_
  refine K.WC.open ?_
  simp only [wH, wv, List.cons_append, List.nil_append]
  (repeat' first | refine X.rq ?_ | refine X.rc ?_ ?_ <;> intro hc <;> try omega)
  refine K.c_loop (σ := Nat × Option Nat × Nat) (fun s => [(0, .pointer (some ⟨p, 0, none⟩)), (1, .int .u16 x), (17, .int .i64 m), (18, .int .i64 s.1)]) (fun _ => h)
   (fun s => blk p 204 [.bool true, bufV s.2.1 (l.length + s.1) s.2.2] :: bufA 5 1 s.2.1 (l.length + s.1) s.2.2 ((l ++ lebs x s.1).map u8) :: F) (fun s => s.1 ≤ m) (fun s => m - s.1) (0, a, cap) (Nat.zero_le _)
   (by repeat (first | exact K.Sub.nil _ | refine K.Sub.cons rfl ?_)) rfl (by rw [show lebs x 0 = [] from rfl, List.append_nil]; rfl) ?_
  rintro ⟨j, a, cap⟩ hj KL hKL
  dsimp only at hj ⊢
  (repeat' first | refine X.rq ?_ | refine X.rc ?_ ?_ <;> intro hc <;> try omega)
  ·refine X.draw (_) [13, 17] (.pu 0 (.pu 1 (.pu 2 (.pu 3 (.pu 4 (.pu 6 (.pu 7 (.pu 8 (.pu 9 (.pu 10 (.pu 11 (.st 5 (.on 12 (.cl 13 (.pu 14 (.pu 15 (.pu 16 (.cl 17 .nil)))))))))))))))))) ?_
   refine X.u_mv ?_
   refine X.u_mv ?_
   refine X.u_nc ?_
   refine X.u_fa ?_
   refine X.u_fa ?_
   refine X.u_mv ?_
   refine X.u_cv ?_
   refine X.u_mv ?_
   refine X.u_bmul ?_
   refine X.u_bshr ?_
   refine X.u_cv ?_
   refine X.s_ld ?_
   refine K.d_on rfl (fun KK hKK => ?_)
   refine X.bs (fun B => ?_)
   refine K.l_nil ?_
   refine X.onE hKK ?_
   refine K.d_cl rfl (fun KK hKK => ?_)
   refine K.l_append_at 2 rfl (Fx.und rfl) (Fx.und rfl) rfl (Fx.sz rfl) (Fx.zr rfl) rfl (Fx.byt rfl) rfl rfl (K.src_one (K.cel_own 0 rfl rfl) rfl) (by omega) (by omega) rfl (fun a' cap' => ?_)
   simp only [Go.K.nmz]
   refine K.l_nil ?_
   refine K.d_clE hKK ?_
   refine X.u_nc ?_
   refine X.u_fa ?_
   refine X.u_fa ?_
   refine K.d_cl rfl (fun KK hKK => ?_)
   refine X.sto ?_
   refine K.l_nil ?_
   refine K.d_clE hKK ?_
   refine K.d_nil ?_
   (repeat' first | refine X.rq ?_ | refine X.rc ?_ ?_ <;> intro hc <;> try omega)
   rw [K.byte_val x j (by omega)]
   refine K.AT.drop (K.a_round hKL (j + 1, a', cap') (by omega) (by repeat (first | exact K.Sub.nil _ | refine K.Sub.cons rfl ?_)) rfl ?_ (by dsimp only; omega))
   dsimp only
   rw [lebs_snoc, ← List.append_assoc, List.map_append (l₁ := l ++ lebs x j)]
   rfl
  ·obtain rfl : j = m := by omega
   have e : [blk p 204 [.bool true, bufV a (l.length + j) cap], bufA 5 1 a (l.length + j) cap ((l ++ lebs x j).map u8)] = wH (some (p, some (a, cap, l ++ lebs x j))) := by
    simp only [wH, List.length_append, lebs_length]
   refine K.AT.close [blk p 204 [.bool true, bufV a (l.length + j) cap], bufA 5 1 a (l.length + j) cap ((l ++ lebs x j).map u8)] ?_
   rw [e]
   refine K.dl rfl (H' := [wA (some (p, some (a, cap, l ++ lebs x j)))]) rfl ⟨rfl, rfl, some (p, some (a, cap, l ++ lebs x j)), ⟨rfl, rfl⟩, rfl⟩
theorem put_u32 (h : Base) (s : WSt) (x m : Nat) (hx : x < 4294967296) (hm : m ≤ 8) (hl : (wb s).length ≤ big) :
  Tr Tryz.prog 147 [wv s, .int .u32 x, .int .i64 m] h [wA s] (Wrote h s (lebs x m)) := by
 unfold big at hl
 match s with
 | none =>
  refine K.en Tryz.func147 fun F => ?_
  refine K.WC.open ?_
  simp only [wH, wv]
  (repeat' first | refine X.rq ?_ | refine X.rc ?_ ?_ <;> intro hc <;> try omega)
  refine K.AT.close (wH none) ?_
  refine K.dl rfl (H' := [wA none]) rfl ⟨rfl, rfl, none, trivial, rfl⟩
 | some (p, none) =>
  refine K.en Tryz.func147 fun F => ?_
  refine K.WC.open ?_
  simp only [wH, wv, List.cons_append, List.nil_append]
  (repeat' first | refine X.rq ?_ | refine X.rc ?_ ?_ <;> intro hc <;> try omega)
  refine K.AT.close (wH (some (p, none))) ?_
  refine K.dl rfl (H' := [wA (some (p, none))]) rfl ⟨rfl, rfl, some (p, none), rfl, rfl⟩
 | some (p, some (a, cap, l)) =>
  simp only [wb] at hl
  refine K.en Tryz.func147 fun F => ?_
  refine K.WC.open ?_
  simp only [wH, wv, List.cons_append, List.nil_append]
  (repeat' first | refine X.rq ?_ | refine X.rc ?_ ?_ <;> intro hc <;> try omega)
  refine K.c_loop (σ := Nat × Option Nat × Nat) (fun s => [(0, .pointer (some ⟨p, 0, none⟩)), (1, .int .u32 x), (17, .int .i64 m), (18, .int .i64 s.1)]) (fun _ => h)
   (fun s => blk p 204 [.bool true, bufV s.2.1 (l.length + s.1) s.2.2] :: bufA 5 1 s.2.1 (l.length + s.1) s.2.2 ((l ++ lebs x s.1).map u8) :: F) (fun s => s.1 ≤ m) (fun s => m - s.1) (0, a, cap) (Nat.zero_le _)
   (by repeat (first | exact K.Sub.nil _ | refine K.Sub.cons rfl ?_)) rfl (by rw [show lebs x 0 = [] from rfl, List.append_nil]; rfl) ?_
  rintro ⟨j, a, cap⟩ hj KL hKL
  dsimp only at hj ⊢
  (repeat' first | refine X.rq ?_ | refine X.rc ?_ ?_ <;> intro hc <;> try omega)
  ·refine X.draw (_) [13, 17] (.pu 0 (.pu 1 (.pu 2 (.pu 3 (.pu 4 (.pu 6 (.pu 7 (.pu 8 (.pu 9 (.pu 10 (.pu 11 (.st 5 (.on 12 (.cl 13 (.pu 14 (.pu 15 (.pu 16 (.cl 17 .nil)))))))))))))))))) ?_
   refine X.u_mv ?_
   refine X.u_mv ?_
   refine X.u_nc ?_
   refine X.u_fa ?_
   refine X.u_fa ?_
   refine X.u_mv ?_
   refine X.u_cv ?_
   refine X.u_mv ?_
   refine X.u_bmul ?_
   refine X.u_bshr ?_
   refine X.u_cv ?_
   refine X.s_ld ?_
   refine K.d_on rfl (fun KK hKK => ?_)
   refine X.bs (fun B => ?_)
   refine K.l_nil ?_
   refine X.onE hKK ?_
   refine K.d_cl rfl (fun KK hKK => ?_)
   refine K.l_append_at 2 rfl (Fx.und rfl) (Fx.und rfl) rfl (Fx.sz rfl) (Fx.zr rfl) rfl (Fx.byt rfl) rfl rfl (K.src_one (K.cel_own 0 rfl rfl) rfl) (by omega) (by omega) rfl (fun a' cap' => ?_)
   simp only [Go.K.nmz]
   refine K.l_nil ?_
   refine K.d_clE hKK ?_
   refine X.u_nc ?_
   refine X.u_fa ?_
   refine X.u_fa ?_
   refine K.d_cl rfl (fun KK hKK => ?_)
   refine X.sto ?_
   refine K.l_nil ?_
   refine K.d_clE hKK ?_
   refine K.d_nil ?_
   (repeat' first | refine X.rq ?_ | refine X.rc ?_ ?_ <;> intro hc <;> try omega)
   rw [K.byte_val x j (by omega)]
   refine K.AT.drop (K.a_round hKL (j + 1, a', cap') (by omega) (by repeat (first | exact K.Sub.nil _ | refine K.Sub.cons rfl ?_)) rfl ?_ (by dsimp only; omega))
   dsimp only
   rw [lebs_snoc, ← List.append_assoc, List.map_append (l₁ := l ++ lebs x j)]
   rfl
  ·obtain rfl : j = m := by omega
   have e : [blk p 204 [.bool true, bufV a (l.length + j) cap], bufA 5 1 a (l.length + j) cap ((l ++ lebs x j).map u8)] = wH (some (p, some (a, cap, l ++ lebs x j))) := by
    simp only [wH, List.length_append, lebs_length]
   refine K.AT.close [blk p 204 [.bool true, bufV a (l.length + j) cap], bufA 5 1 a (l.length + j) cap ((l ++ lebs x j).map u8)] ?_
   rw [e]
   refine K.dl rfl (H' := [wA (some (p, some (a, cap, l ++ lebs x j)))]) rfl ⟨rfl, rfl, some (p, some (a, cap, l ++ lebs x j)), ⟨rfl, rfl⟩, rfl⟩
theorem put_u64 (h : Base) (s : WSt) (x m : Nat) (hx : x < 18446744073709551616) (hm : m ≤ 8) (hl : (wb s).length ≤ big) :
  Tr Tryz.prog 146 [wv s, .int .u64 x, .int .i64 m] h [wA s] (Wrote h s (lebs x m)) := by
 unfold big at hl
 match s with
 | none =>
  refine K.en Tryz.func146 fun F => ?_
  refine K.WC.open ?_
  simp only [wH, wv]
  (repeat' first | refine X.rq ?_ | refine X.rc ?_ ?_ <;> intro hc <;> try omega)
  refine K.AT.close (wH none) ?_
  refine K.dl rfl (H' := [wA none]) rfl ⟨rfl, rfl, none, trivial, rfl⟩
 | some (p, none) =>
  refine K.en Tryz.func146 fun F => ?_
  refine K.WC.open ?_
  simp only [wH, wv, List.cons_append, List.nil_append]
  (repeat' first | refine X.rq ?_ | refine X.rc ?_ ?_ <;> intro hc <;> try omega)
  refine K.AT.close (wH (some (p, none))) ?_
  refine K.dl rfl (H' := [wA (some (p, none))]) rfl ⟨rfl, rfl, some (p, none), rfl, rfl⟩
 | some (p, some (a, cap, l)) =>
  simp only [wb] at hl
  refine K.en Tryz.func146 fun F => ?_
  refine K.WC.open ?_
  simp only [wH, wv, List.cons_append, List.nil_append]
  (repeat' first | refine X.rq ?_ | refine X.rc ?_ ?_ <;> intro hc <;> try omega)
  refine K.c_loop (σ := Nat × Option Nat × Nat) (fun s => [(0, .pointer (some ⟨p, 0, none⟩)), (1, .int .u64 x), (17, .int .i64 m), (18, .int .i64 s.1)]) (fun _ => h)
   (fun s => blk p 204 [.bool true, bufV s.2.1 (l.length + s.1) s.2.2] :: bufA 5 1 s.2.1 (l.length + s.1) s.2.2 ((l ++ lebs x s.1).map u8) :: F) (fun s => s.1 ≤ m) (fun s => m - s.1) (0, a, cap) (Nat.zero_le _)
   (by repeat (first | exact K.Sub.nil _ | refine K.Sub.cons rfl ?_)) rfl (by rw [show lebs x 0 = [] from rfl, List.append_nil]; rfl) ?_
  rintro ⟨j, a, cap⟩ hj KL hKL
  dsimp only at hj ⊢
  (repeat' first | refine X.rq ?_ | refine X.rc ?_ ?_ <;> intro hc <;> try omega)
  ·refine X.draw (_) [12, 16] (.pu 0 (.pu 1 (.pu 2 (.pu 3 (.pu 4 (.pu 6 (.pu 7 (.pu 8 (.pu 9 (.pu 10 (.st 5 (.on 11 (.cl 12 (.pu 13 (.pu 14 (.pu 15 (.cl 16 .nil))))))))))))))))) ?_
   refine X.u_mv ?_
   refine X.u_mv ?_
   refine X.u_nc ?_
   refine X.u_fa ?_
   refine X.u_fa ?_
   refine X.u_mv ?_
   refine X.u_mv ?_
   refine X.u_bmul ?_
   refine X.u_bshr ?_
   refine X.u_cv ?_
   refine X.s_ld ?_
   refine K.d_on rfl (fun KK hKK => ?_)
   refine X.bs (fun B => ?_)
   refine K.l_nil ?_
   refine X.onE hKK ?_
   refine K.d_cl rfl (fun KK hKK => ?_)
   refine K.l_append_at 2 rfl (Fx.und rfl) (Fx.und rfl) rfl (Fx.sz rfl) (Fx.zr rfl) rfl (Fx.byt rfl) rfl rfl (K.src_one (K.cel_own 0 rfl rfl) rfl) (by omega) (by omega) rfl (fun a' cap' => ?_)
   simp only [Go.K.nmz]
   refine K.l_nil ?_
   refine K.d_clE hKK ?_
   refine X.u_nc ?_
   refine X.u_fa ?_
   refine X.u_fa ?_
   refine K.d_cl rfl (fun KK hKK => ?_)
   refine X.sto ?_
   refine K.l_nil ?_
   refine K.d_clE hKK ?_
   refine K.d_nil ?_
   (repeat' first | refine X.rq ?_ | refine X.rc ?_ ?_ <;> intro hc <;> try omega)
   rw [K.byte_val x j (by omega)]
   refine K.AT.drop (K.a_round hKL (j + 1, a', cap') (by omega) (by repeat (first | exact K.Sub.nil _ | refine K.Sub.cons rfl ?_)) rfl ?_ (by dsimp only; omega))
   dsimp only
   rw [lebs_snoc, ← List.append_assoc, List.map_append (l₁ := l ++ lebs x j)]
   rfl
  ·obtain rfl : j = m := by omega
   have e : [blk p 204 [.bool true, bufV a (l.length + j) cap], bufA 5 1 a (l.length + j) cap ((l ++ lebs x j).map u8)] = wH (some (p, some (a, cap, l ++ lebs x j))) := by
    simp only [wH, List.length_append, lebs_length]
   refine K.AT.close [blk p 204 [.bool true, bufV a (l.length + j) cap], bufA 5 1 a (l.length + j) cap ((l ++ lebs x j).map u8)] ?_
   rw [e]
   refine K.dl rfl (H' := [wA (some (p, some (a, cap, l ++ lebs x j)))]) rfl ⟨rfl, rfl, some (p, some (a, cap, l ++ lebs x j)), ⟨rfl, rfl⟩, rfl⟩

theorem W_U8 (h : Base) (s : WSt) (x : Nat) (hx : x < 256) (hl : (wb s).length ≤ big) : Tr Tryz.prog 126 [wv s, .int .u8 x] h [wA s] (Wrote h s (lebs x 1)) := by
 refine K.en Tryz.func126 fun F => ?_
 have hput := put_u8 h s x 1 hx (by omega) hl
 (repeat' first | refine X.rq ?_ | refine X.rc ?_ ?_ <;> intro hc <;> try omega)
 refine K.l_call (Fx.cal rfl) rfl hput (K.pp [0] rfl) rfl ?_
 rintro v h' H' - ⟨rfl, rfl, s', hs, rfl⟩
 (repeat' first | refine X.rq ?_ | refine X.rc ?_ ?_ <;> intro hc <;> try omega)
 refine K.dl rfl (H' := [wA s']) rfl ⟨rfl, rfl, s', hs, rfl⟩
theorem W_U16 (h : Base) (s : WSt) (x : Nat) (hx : x < 65536) (hl : (wb s).length ≤ big) : Tr Tryz.prog 101 [wv s, .int .u16 x] h [wA s] (Wrote h s (lebs x 2)) := by
 refine K.en Tryz.func101 fun F => ?_
 have hput := put_u16 h s x 2 hx (by omega) hl
 (repeat' first | refine X.rq ?_ | refine X.rc ?_ ?_ <;> intro hc <;> try omega)
 refine K.l_call (Fx.cal rfl) rfl hput (K.pp [0] rfl) rfl ?_
 rintro v h' H' - ⟨rfl, rfl, s', hs, rfl⟩
 (repeat' first | refine X.rq ?_ | refine X.rc ?_ ?_ <;> intro hc <;> try omega)
 refine K.dl rfl (H' := [wA s']) rfl ⟨rfl, rfl, s', hs, rfl⟩
theorem W_U32 (h : Base) (s : WSt) (x : Nat) (hx : x < 4294967296) (hl : (wb s).length ≤ big) : Tr Tryz.prog 128 [wv s, .int .u32 x] h [wA s] (Wrote h s (lebs x 4)) := by
 refine K.en Tryz.func128 fun F => ?_
 have hput := put_u32 h s x 4 hx (by omega) hl
 (repeat' first | refine X.rq ?_ | refine X.rc ?_ ?_ <;> intro hc <;> try omega)
 refine K.l_call (Fx.cal rfl) rfl hput (K.pp [0] rfl) rfl ?_
 rintro v h' H' - ⟨rfl, rfl, s', hs, rfl⟩
 (repeat' first | refine X.rq ?_ | refine X.rc ?_ ?_ <;> intro hc <;> try omega)
 refine K.dl rfl (H' := [wA s']) rfl ⟨rfl, rfl, s', hs, rfl⟩
theorem W_U64 (h : Base) (s : WSt) (x : Nat) (hx : x < 18446744073709551616) (hl : (wb s).length ≤ big) : Tr Tryz.prog 127 [wv s, .int .u64 x] h [wA s] (Wrote h s (lebs x 8)) := by
 refine K.en Tryz.func127 fun F => ?_
 have hput := put_u64 h s x 8 hx (by omega) hl
 (repeat' first | refine X.rq ?_ | refine X.rc ?_ ?_ <;> intro hc <;> try omega)
 refine K.l_call (Fx.cal rfl) rfl hput (K.pp [0] rfl) rfl ?_
 rintro v h' H' - ⟨rfl, rfl, s', hs, rfl⟩
 (repeat' first | refine X.rq ?_ | refine X.rc ?_ ?_ <;> intro hc <;> try omega)
 refine K.dl rfl (H' := [wA s']) rfl ⟨rfl, rfl, s', hs, rfl⟩
end Go.Proofs.YtijbhgiigddjdaaGreat.Ca
