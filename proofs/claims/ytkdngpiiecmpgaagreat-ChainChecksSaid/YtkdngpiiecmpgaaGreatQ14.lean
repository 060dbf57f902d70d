/-
  Texts joined: Ca Cb. Conditions: each theorem's own.
-/
import Derived.Test.YtkdngpiiecmpgaaGreatQ0
import Derived.Test.YtkdngpiiecmpgaaGreatQ3
section
namespace Go.Proofs.YtkdngpiiecmpgaaGreat.Ca
open Go Go.K Go.Proofs Go.Proofs.YtkdngpiiecmpgaaGreat
set_option linter.unusedVariables false
set_option linter.unusedSimpArgs false
set_option maxRecDepth 10000

def WSt : Type := Option (Nat × Option (Option Nat × Nat × List UInt8))
def wv : WSt → Value
 | none => .pointer none
 | some (p, _) => .pointer (some ⟨p, 0, none⟩)
def wH : WSt → List Asrt
 | none => []
 | some (p, none) => [blk p 166 [.bool false, .slice none 0 0]]
 | some (p, some (a, cap, l)) => [blk p 166 [.bool true, bufV a l.length cap], bufA 5 1 a l.length cap (l.map u8)]
abbrev wA (s : WSt) : Asrt := all (wH s)
def wb : WSt → List UInt8
 | some (_, some (_, _, l)) => l
 | _ => []
def wadd (bs : List UInt8) : WSt → WSt → Prop
 | none, none => True
 | some (p, none), some (p', none) => p' = p
 | some (p, some (_, _, l)), some (p', some (_, _, l')) => p' = p ∧ l' = l ++ bs
 | _, _ => False
theorem wadd_trans {b1 b2 : List UInt8} : ∀ {s1 s2 s3 : WSt}, wadd b1 s1 s2 → wadd b2 s2 s3 → wadd (b1 ++ b2) s1 s3
 | none, none, none, _, _ => trivial
 | some (_, none), some (_, none), some (_, none), h1, h2 => h2.trans h1
 | some (_, some (_, _, _)), some (_, some (_, _, _)), some (_, some (_, _, _)), h1, h2 => ⟨h2.1.trans h1.1, by rw [h2.2, h1.2, List.append_assoc]⟩
 | none, some _, _, h1, _ => h1.elim
 | none, none, some _, _, h2 => h2.elim
 | some (_, none), none, _, h1, _ => h1.elim
 | some (_, none), some (_, some _), _, h1, _ => h1.elim
 | some (_, none), some (_, none), none, _, h2 => h2.elim
 | some (_, none), some (_, none), some (_, some _), _, h2 => h2.elim
 | some (_, some _), none, _, h1, _ => h1.elim
 | some (_, some _), some (_, none), _, h1, _ => h1.elim
 | some (_, some _), some (_, some _), none, _, h2 => h2.elim
 | some (_, some _), some (_, some _), some (_, none), _, h2 => h2.elim
theorem wadd_nil : ∀ (s : WSt), wadd [] s s
 | none => trivial
 | some (_, none) => rfl
 | some (_, some (_, _, l)) => ⟨rfl, (List.append_nil l).symm⟩
theorem wadd_len {bs : List UInt8} : ∀ {s s' : WSt}, wadd bs s s' → (wb s').length ≤ (wb s).length + bs.length
 | none, none, _ => by simp [wb]
 | some (_, none), some (_, none), _ => by simp [wb]
 | some (_, some (_, _, _)), some (_, some (_, _, _)), h => by simp [wb, h.2]
 | none, some _, h => h.elim
 | some (_, none), none, h => h.elim
 | some (_, none), some (_, some _), h => h.elim
 | some (_, some _), none, h => h.elim
 | some (_, some _), some (_, none), h => h.elim
theorem wadd_val {bs : List UInt8} : ∀ {s s' : WSt}, wadd bs s s' → wv s' = wv s
 | none, none, _ => rfl
 | some (_, none), some (_, none), h => by show Value.pointer _ = Value.pointer _; rw [show _ = _ from h]
 | some (_, some (_, _, _)), some (_, some (_, _, _)), h => by show Value.pointer _ = Value.pointer _; rw [h.1]
 | none, some _, h => h.elim
 | some (_, none), none, h => h.elim
 | some (_, none), some (_, some _), h => h.elim
 | some (_, some _), none, h => h.elim
 | some (_, some _), some (_, none), h => h.elim
abbrev unit : Value := .tuple #[]
abbrev Wrote (h : Base) (s : WSt) (bs : List UInt8) (v : Value) (h' : Base) (H' : List Asrt) : Prop := v = unit ∧ h = h' ∧ ∃ s', wadd bs s s' ∧ H' = [wA s']
def big : Nat := 1099511627776

theorem put_u8 (h : Base) (s : WSt) (x m : Nat) (hx : x < 256) (hm : m ≤ 8) (hl : (wb s).length ≤ big) :
  Tr Tryz.prog 136 [wv s, .int .u8 x, .int .i64 m] h [wA s] (Wrote h s (lebs x m)) := by
 unfold big at hl
 match s with
 | none =>
  refine K.enter Tryz.func136 rfl (Nat.le_of_ble_eq_true rfl) (fun F => ?_)
  refine K.WC.open ?_
  simp only [wH, wv]
  (repeat' (first | refine X.rq ?_ | (refine X.rc ?_ ?_ <;> intro hc <;> first | (exfalso; omega) | skip)))
  refine K.AT.close (wH none) ?_
  refine K.done (by first | exact Or.inl rfl | exact Or.inr rfl) rfl (by first | exact K.Base.le.refl _ | assumption) (H' := [wA none]) rfl ⟨rfl, rfl, none, trivial, rfl⟩
 | some (p, none) =>
  refine K.enter Tryz.func136 rfl (Nat.le_of_ble_eq_true rfl) (fun F => ?_)
  refine K.WC.open ?_
  simp only [wH, wv, List.cons_append, List.nil_append]
  (repeat' (first | refine X.rq ?_ | (refine X.rc ?_ ?_ <;> intro hc <;> first | (exfalso; omega) | skip)))
  refine K.AT.close (wH (some (p, none))) ?_
  refine K.done (by first | exact Or.inl rfl | exact Or.inr rfl) rfl (by first | exact K.Base.le.refl _ | assumption) (H' := [wA (some (p, none))]) rfl ⟨rfl, rfl, some (p, none), rfl, rfl⟩
 | some (p, some (a, cap, l)) =>
  simp only [wb] at hl
  refine K.enter Tryz.func136 rfl (Nat.le_of_ble_eq_true rfl) (fun F => ?_)
  refine K.WC.open ?_
  simp only [wH, wv, List.cons_append, List.nil_append]
  (repeat' (first | refine X.rq ?_ | (refine X.rc ?_ ?_ <;> intro hc <;> first | (exfalso; omega) | skip)))
  refine K.c_loop (σ := Nat × Option Nat × Nat) (fun s => [(0, .pointer (some ⟨p, 0, none⟩)), (1, .int .u8 x), (17, .int .i64 m), (18, .int .i64 s.1)]) (fun _ => h)
   (fun s => blk p 166 [.bool true, bufV s.2.1 (l.length + s.1) s.2.2] :: bufA 5 1 s.2.1 (l.length + s.1) s.2.2 ((l ++ lebs x s.1).map u8) :: F) (fun s => s.1 ≤ m) (fun s => m - s.1) (0, a, cap) (Nat.zero_le _)
   (by repeat (first | exact K.Sub.nil _ | refine K.Sub.cons rfl ?_)) rfl (by rw [show lebs x 0 = [] from rfl, List.append_nil]; rfl) ?_
  rintro ⟨j, a, cap⟩ hj KL hKL
  dsimp only at hj ⊢
  (repeat' (first | refine X.rq ?_ | (refine X.rc ?_ ?_ <;> intro hc <;> first | (exfalso; omega) | skip)))
  ·refine X.draw (_) [13, 17] (.pu 0 (.pu 1 (.pu 2 (.pu 3 (.pu 4 (.pu 6 (.pu 7 (.pu 8 (.pu 9 (.pu 10 (.pu 11 (.st 5 (.on 12 (.cl 13 (.pu 14 (.pu 15 (.pu 16 (.cl 17 .nil)))))))))))))))))) ?_
   refine K.d_pu rfl (fun _ _ => X.mv) rfl ?_
   refine K.d_pu rfl (fun _ _ => X.mv) rfl ?_
   refine K.d_pu rfl (fun _ _ => X.nc) rfl ?_
   refine K.d_pu rfl (fun _ _ => X.fa) rfl ?_
   refine K.d_pu rfl (fun _ _ => X.fa) rfl ?_
   refine K.d_pu rfl (fun _ _ => X.mv) rfl ?_
   refine K.d_pu rfl (fun _ _ => X.cv) rfl ?_
   refine K.d_pu rfl (fun _ _ => X.mv) rfl ?_
   refine K.d_pu rfl (fun _ _ => X.bmul) rfl ?_
   refine K.d_pu rfl (fun _ _ => X.bshr) rfl ?_
   refine K.d_pu rfl (fun _ _ => X.cv) rfl ?_
   refine K.d_st rfl X.ld rfl ?_
   refine K.d_on rfl (fun KK hKK => ?_)
   refine X.bs (fun B => ?_)
   refine K.l_nil ?_
   refine X.onE hKK ?_
   refine K.d_cl rfl (fun KK hKK => ?_)
   refine K.l_append_at 2 rfl (Fx.und rfl) (Fx.und rfl) rfl (Fx.sz rfl) (Fx.zr rfl) rfl (Fx.byt rfl) rfl rfl (K.src_one (K.cel_own 0 rfl rfl) rfl) (by omega) (by omega) rfl (fun a' cap' => ?_)
   simp only [List.set_cons_zero, List.set_cons_succ, List.eraseIdx_cons_zero, List.eraseIdx_cons_succ, List.cons_append, List.nil_append]
   refine K.l_nil ?_
   refine K.d_clE hKK ?_
   refine K.d_pu rfl (fun _ _ => X.nc) rfl ?_
   refine K.d_pu rfl (fun _ _ => X.fa) rfl ?_
   refine K.d_pu rfl (fun _ _ => X.fa) rfl ?_
   refine K.d_cl rfl (fun KK hKK => ?_)
   refine X.sto ?_
   refine K.l_nil ?_
   refine K.d_clE hKK ?_
   refine K.d_nil ?_
   (repeat' (first | refine X.rq ?_ | (refine X.rc ?_ ?_ <;> intro hc <;> first | (exfalso; omega) | skip)))
   rw [K.byte_val x j (by omega)]
   refine K.AT.drop (K.a_round hKL (j + 1, a', cap') (by omega) (by repeat (first | exact K.Sub.nil _ | refine K.Sub.cons rfl ?_)) rfl ?_ (by dsimp only; omega))
   dsimp only
   rw [lebs_snoc, ← List.append_assoc, List.map_append (l₁ := l ++ lebs x j)]
   rfl
  ·obtain rfl : j = m := by omega
   have e : [blk p 166 [.bool true, bufV a (l.length + j) cap], bufA 5 1 a (l.length + j) cap ((l ++ lebs x j).map u8)] = wH (some (p, some (a, cap, l ++ lebs x j))) := by
    simp only [wH, List.length_append, lebs_length]
   refine K.AT.close [blk p 166 [.bool true, bufV a (l.length + j) cap], bufA 5 1 a (l.length + j) cap ((l ++ lebs x j).map u8)] ?_
   rw [e]
   refine K.done (by first | exact Or.inl rfl | exact Or.inr rfl) rfl (by first | exact K.Base.le.refl _ | assumption) (H' := [wA (some (p, some (a, cap, l ++ lebs x j)))]) rfl ⟨rfl, rfl, some (p, some (a, cap, l ++ lebs x j)), ⟨rfl, rfl⟩, rfl⟩

theorem W_U8 (h : Base) (s : WSt) (x : Nat) (hx : x < 256) (hl : (wb s).length ≤ big) : Tr Tryz.prog 118 [wv s, .int .u8 x] h [wA s] (Wrote h s (lebs x 1)) := by
 refine K.enter Tryz.func118 rfl (Nat.le_of_ble_eq_true rfl) (fun F => ?_)
 have hput := put_u8 h s x 1 hx (by omega) hl
 (repeat' (first | refine X.rq ?_ | (refine X.rc ?_ ?_ <;> intro hc <;> first | (exfalso; omega) | skip)))
 refine K.l_call (Fx.cal rfl) rfl hput (K.pp [0] rfl) rfl ?_
 rintro v h' H' - ⟨rfl, rfl, s', hs, rfl⟩
 (repeat' (first | refine X.rq ?_ | (refine X.rc ?_ ?_ <;> intro hc <;> first | (exfalso; omega) | skip)))
 refine K.done (by first | exact Or.inl rfl | exact Or.inr rfl) rfl (by first | exact K.Base.le.refl _ | assumption) (H' := [wA s']) rfl ⟨rfl, rfl, s', hs, rfl⟩
end Go.Proofs.YtkdngpiiecmpgaaGreat.Ca
end

section
namespace Go.Proofs.YtkdngpiiecmpgaaGreat.Ca
open Go Go.K Go.Proofs Go.Proofs.YtkdngpiiecmpgaaGreat
set_option linter.unusedVariables false
set_option linter.unusedSimpArgs false
set_option maxRecDepth 10000

theorem NewWriter (h : Base) : Tr Tryz.prog 117 [] h [] (fun v h' H' => h = h' ∧ ∃ p, v = wv (some (p, some (none, 0, []))) ∧ H' = [wA (some (p, some (none, 0, [])))]) := by
 refine K.enter Tryz.func117 rfl (Nat.le_of_ble_eq_true rfl) (fun F => ?_)
 (repeat' (first | refine X.rq ?_ | (refine X.rc ?_ ?_ <;> intro hc <;> first | (exfalso; omega) | skip)))
 refine K.l_box rfl rfl rfl (fun B => ?_)
 (repeat' (first | refine X.rq ?_ | (refine X.rc ?_ ?_ <;> intro hc <;> first | (exfalso; omega) | skip)))
 refine K.AT.nilBuf 5 1 (K.AT.perm (List.Perm.swap ..) (K.AT.close (wH (some (B, some (none, 0, [])))) ?_))
 refine K.done (by first | exact Or.inl rfl | exact Or.inr rfl) rfl (by first | exact K.Base.le.refl _ | assumption) (H' := [wA (some (B, some (none, 0, [])))]) rfl ⟨rfl, B, rfl, rfl⟩

theorem W_Uint (h : Base) (s : WSt) (x : Nat) (hx : x < 18446744073709551616) (hl : (wb s).length + 16 ≤ big) : Tr Tryz.prog 120 [wv s, .int .u64 x] h [wA s] (Wrote h s (cu x)) := by
 refine K.enter Tryz.func120 rfl (Nat.le_of_ble_eq_true rfl) (fun F => ?_)
 (repeat' (first | refine X.rq ?_ | (refine X.rc ?_ ?_ <;> intro hc <;> first | (exfalso; omega) | skip)))
 refine K.c_loop (σ := WSt × Nat) (fun s => [(0, wv s.1), (1, .int .u64 s.2)]) (fun _ => h) (fun s => wA s.1 :: F)
  (fun r => r.2 < 18446744073709551616 ∧ ∃ pre, wadd pre s r.1 ∧ pre ++ cu r.2 = cu x) (fun s => s.2) (s, x) ⟨hx, [], wadd_nil s, rfl⟩ (by repeat (first | exact K.Sub.nil _ | refine K.Sub.cons rfl ?_)) rfl rfl ?_
 rintro ⟨s1, y⟩ ⟨hy, pre, hpre, hcu⟩ KL hKL
 dsimp only at hy hpre hcu ⊢
 have hl1 : (wb s1).length ≤ big := by
  have h1 := wadd_len hpre
  have h2 := congrArg List.length hcu
  have h3 := cu_len x
  rw [List.length_append] at h2
  omega
 (repeat' (first | refine X.rq ?_ | (refine X.rc ?_ ?_ <;> intro hc <;> first | (exfalso; omega) | skip)))
 ·rw [K.or128 y]
  refine K.l_call (Fx.cal rfl) rfl (W_U8 h s1 (y % 128 + 128) (by omega) hl1) (K.pp [0] rfl) rfl ?_
  rintro v h' H' - ⟨rfl, rfl, s2, hs2, rfl⟩
  (repeat' (first | refine X.rq ?_ | (refine X.rc ?_ ?_ <;> intro hc <;> first | (exfalso; omega) | skip)))
  rw [K.shr7 y]
  refine K.a_round hKL (s2, y / 128) ⟨by omega, pre ++ lebs (y % 128 + 128) 1, wadd_trans hpre hs2, ?_⟩ ?_ rfl rfl (by dsimp only; omega)
  ·rw [← hcu, cu_ge (x := y) (by omega) hy, List.append_assoc]
   simp [lebs, Nat.mod_eq_of_lt (show y % 128 + 128 < 256 by omega)]
  ·rw [← wadd_val hs2]
   exact (by repeat (first | exact K.Sub.nil _ | refine K.Sub.cons rfl ?_))
 ·refine K.l_call (Fx.cal rfl) rfl (W_U8 h s1 y (by omega) hl1) (K.pp [0] rfl) rfl ?_
  rintro v h' H' - ⟨rfl, rfl, s2, hs2, rfl⟩
  (repeat' (first | refine X.rq ?_ | (refine X.rc ?_ ?_ <;> intro hc <;> first | (exfalso; omega) | skip)))
  refine K.done (by first | exact Or.inl rfl | exact Or.inr rfl) rfl (by first | exact K.Base.le.refl _ | assumption) (H' := [wA s2]) rfl ⟨rfl, rfl, s2, ?_, rfl⟩
  have := wadd_trans hpre hs2
  rw [← hcu, cu_lt (x := y) (by omega)]
  simpa [lebs, Nat.mod_eq_of_lt (show y < 256 by omega)] using this

theorem W_Raw (h : Base) (s : WSt) (a : Option Nat) (cap : Nat) (b : List UInt8) (hl : (wb s).length + b.length ≤ big) :
  Tr Tryz.prog 137 [wv s, bufV a b.length cap] h [wA s, bufA 5 1 a b.length cap (b.map u8)] (fun v h' H' => v = unit ∧ h = h' ∧ ∃ s', wadd b s s' ∧ H' = [wA s', bufA 5 1 a b.length cap (b.map u8)]) := by
 unfold big at hl
 match s with
 | none =>
  refine K.enter Tryz.func137 rfl (Nat.le_of_ble_eq_true rfl) (fun F => ?_)
  simp only [wv]
  (repeat' (first | refine X.rq ?_ | (refine X.rc ?_ ?_ <;> intro hc <;> first | (exfalso; omega) | skip)))
  refine K.done (by first | exact Or.inl rfl | exact Or.inr rfl) rfl (by first | exact K.Base.le.refl _ | assumption) (H' := [wA none, _]) rfl ⟨rfl, rfl, none, trivial, rfl⟩
 | some (p, none) =>
  refine K.enter Tryz.func137 rfl (Nat.le_of_ble_eq_true rfl) (fun F => ?_)
  refine K.WC.open ?_
  simp only [wH, wv, List.cons_append, List.nil_append]
  (repeat' (first | refine X.rq ?_ | (refine X.rc ?_ ?_ <;> intro hc <;> first | (exfalso; omega) | skip)))
  refine K.AT.close (wH (some (p, none))) ?_
  refine K.done (by first | exact Or.inl rfl | exact Or.inr rfl) rfl (by first | exact K.Base.le.refl _ | assumption) (H' := [wA (some (p, none)), _]) rfl ⟨rfl, rfl, some (p, none), rfl, rfl⟩
 | some (p, some (a0, cap0, l)) =>
  simp only [wb] at hl
  refine K.enter Tryz.func137 rfl (Nat.le_of_ble_eq_true rfl) (fun F => ?_)
  refine K.WC.open ?_
  simp only [wH, wv, List.cons_append, List.nil_append]
  (repeat' (first | refine X.rq ?_ | (refine X.rc ?_ ?_ <;> intro hc <;> first | (exfalso; omega) | skip)))
  refine K.l_append_at 1 rfl (Fx.und rfl) (Fx.und rfl) rfl (Fx.sz rfl) (Fx.zr rfl) rfl (Fx.byt rfl) rfl rfl (K.src_buf 1 rfl (by simp [K.u8_one]) (by simp)) (by omega) (by omega) rfl (fun a' cap' => ?_)
  simp only [List.set_cons_zero, List.set_cons_succ, List.eraseIdx_cons_zero, List.eraseIdx_cons_succ, List.cons_append, List.nil_append]
  (repeat' (first | refine X.rq ?_ | (refine X.rc ?_ ?_ <;> intro hc <;> first | (exfalso; omega) | skip)))
  refine X.sto ?_
  (repeat' (first | refine X.rq ?_ | (refine X.rc ?_ ?_ <;> intro hc <;> first | (exfalso; omega) | skip)))
  rw [← List.map_append, ← List.length_append]
  refine K.AT.close (wH (some (p, some (a', cap', l ++ b)))) ?_
  refine K.done (by first | exact Or.inl rfl | exact Or.inr rfl) rfl (by first | exact K.Base.le.refl _ | assumption) (H' := [wA (some (p, some (a', cap', l ++ b))), _]) rfl ⟨rfl, rfl, some (p, some (a', cap', l ++ b)), ⟨rfl, rfl⟩, rfl⟩

theorem W_Text (h : Base) (s : WSt) (t : ByteArray) (hl : (wb s).length + t.size + 16 ≤ big) : Tr Tryz.prog 121 [wv s, .string t] h [wA s] (Wrote h s (cu t.size ++ t.data.toList)) := by
 have hb : t.size ≤ big := by omega
 unfold big at hb
 refine K.enter Tryz.func121 rfl (Nat.le_of_ble_eq_true rfl) (fun F => ?_)
 (repeat' (first | refine X.rq ?_ | (refine X.rc ?_ ?_ <;> intro hc <;> first | (exfalso; omega) | skip)))
 refine K.l_call (Fx.cal rfl) rfl (W_Uint h s t.size (by omega) (by omega)) (K.pp [0] rfl) rfl ?_
 rintro v h' H' - ⟨rfl, rfl, s', hs, rfl⟩
 (repeat' (first | refine X.rq ?_ | (refine X.rc ?_ ?_ <;> intro hc <;> first | (exfalso; omega) | skip)))
 refine K.l_toBytes (Fx.und rfl) (Fx.und rfl) (Fx.und rfl) rfl (by unfold maxLen; omega) rfl (fun B cap => ?_)
 have h3 := wadd_len hs
 have h4 := cu_len t.size
 have h5 : t.data.toList.length = t.size := by simp
 refine K.l_call (vals := [wv s, bufV (some B) t.size cap]) (Fx.cal rfl) rfl (by
  have := W_Raw h s' (some B) cap t.data.toList (by omega)
  rw [h5, wadd_val hs] at this
  exact this) (K.pp [1, 0] rfl) rfl ?_
 rintro v h' H' - ⟨rfl, rfl, s2, hs2, rfl⟩
 (repeat' (first | refine X.rq ?_ | (refine X.rc ?_ ?_ <;> intro hc <;> first | (exfalso; omega) | skip)))
 refine K.AT.perm (List.Perm.swap ..) (K.AT.drop ?_)
 refine K.done (by first | exact Or.inl rfl | exact Or.inr rfl) rfl (by first | exact K.Base.le.refl _ | assumption) (H' := [wA s2]) rfl ⟨rfl, rfl, s2, wadd_trans hs hs2, rfl⟩

theorem W_Bytes (h : Base) (s : WSt) (hl : (wb s).length ≤ big) : Tr Tryz.prog 123 [wv s] h [wA s] (fun v h' H' => h = h' ∧ ∃ a cap, v = bufV a (wb s).length cap ∧ H' = [bufA 5 1 a (wb s).length cap ((wb s).map u8), wA s]) := by
 unfold big at hl
 match s with
 | none =>
  refine K.enter Tryz.func123 rfl (Nat.le_of_ble_eq_true rfl) (fun F => ?_)
  simp only [wv]
  (repeat' (first | refine X.rq ?_ | (refine X.rc ?_ ?_ <;> intro hc <;> first | (exfalso; omega) | skip)))
  refine K.AT.nilBuf 5 1 ?_
  refine K.done (by first | exact Or.inl rfl | exact Or.inr rfl) rfl (by first | exact K.Base.le.refl _ | assumption) (H' := [_, wA none]) rfl ⟨rfl, none, 0, rfl, rfl⟩
 | some (p, none) =>
  refine K.enter Tryz.func123 rfl (Nat.le_of_ble_eq_true rfl) (fun F => ?_)
  refine K.WC.open ?_
  simp only [wH, wv, List.cons_append, List.nil_append]
  (repeat' (first | refine X.rq ?_ | (refine X.rc ?_ ?_ <;> intro hc <;> first | (exfalso; omega) | skip)))
  refine K.WL.nilBuf 5 1 ?_
  refine K.l_append_at 0 rfl (Fx.und rfl) (Fx.und rfl) rfl (Fx.sz rfl) (Fx.zr rfl) rfl (Fx.byt rfl) rfl rfl K.src_nil (by omega) (by omega) rfl (fun a' cap' => ?_)
  simp only [List.set_cons_zero, List.set_cons_succ, List.eraseIdx_cons_zero, List.eraseIdx_cons_succ, List.cons_append, List.nil_append]
  (repeat' (first | refine X.rq ?_ | (refine X.rc ?_ ?_ <;> intro hc <;> first | (exfalso; omega) | skip)))
  refine K.AT.perm (List.Perm.swap ..) (K.AT.close (wH (some (p, none))) (K.AT.perm (List.Perm.swap ..) ?_))
  refine K.done (by first | exact Or.inl rfl | exact Or.inr rfl) rfl (by first | exact K.Base.le.refl _ | assumption) (H' := [_, wA (some (p, none))]) rfl ⟨rfl, a', cap', rfl, rfl⟩
 | some (p, some (a0, cap0, l)) =>
  simp only [wb] at hl
  refine K.enter Tryz.func123 rfl (Nat.le_of_ble_eq_true rfl) (fun F => ?_)
  refine K.WC.open ?_
  simp only [wH, wv, List.cons_append, List.nil_append]
  (repeat' (first | refine X.rq ?_ | (refine X.rc ?_ ?_ <;> intro hc <;> first | (exfalso; omega) | skip)))
  refine K.WL.nilBuf 5 1 ?_
  refine K.l_append_at 0 rfl (Fx.und rfl) (Fx.und rfl) rfl (Fx.sz rfl) (Fx.zr rfl) rfl (Fx.byt rfl) rfl rfl (K.src_buf 1 rfl (by simp [K.u8_one]) (by simp)) (by omega) (by omega) rfl (fun a' cap' => ?_)
  simp only [List.set_cons_zero, List.set_cons_succ, List.eraseIdx_cons_zero, List.eraseIdx_cons_succ, List.cons_append, List.nil_append]
  (repeat' (first | refine X.rq ?_ | (refine X.rc ?_ ?_ <;> intro hc <;> first | (exfalso; omega) | skip)))
  rw [Nat.zero_add]
  refine K.AT.perm (K.perm3 ..) (K.AT.close (wH (some (p, some (a0, cap0, l)))) (K.AT.perm (List.Perm.swap ..) ?_))
  refine K.done (by first | exact Or.inl rfl | exact Or.inr rfl) rfl (by first | exact K.Base.le.refl _ | assumption) (H' := [_, wA (some (p, some (a0, cap0, l)))]) rfl ⟨rfl, a', cap', rfl, rfl⟩
end Go.Proofs.YtkdngpiiecmpgaaGreat.Ca
end
