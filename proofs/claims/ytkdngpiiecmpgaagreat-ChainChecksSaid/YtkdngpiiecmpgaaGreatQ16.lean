/-
  Texts joined: MX Ra Fr Hj. Conditions: each theorem's own.
-/
import Derived.Test.YtkdngpiiecmpgaaGreatQ0
import Derived.Test.YtkdngpiiecmpgaaGreatQ3
import Derived.Test.YtkdngpiiecmpgaaGreatQ15
import Derived.Test.YtkdngpiiecmpgaaGreatQ11
section
/-! M1: plain laws of numbers in bytes, no program in sight. Conditions: each theorem's own. -/
namespace Go.K
set_option linter.unusedVariables false
set_option linter.unusedSimpArgs false

def leNum : List UInt8 → Nat
 | [] => 0
 | c :: r => c.toNat + 256 * leNum r
theorem u8_of {x : Nat} (h : x < 256) : u8 (UInt8.ofNat x) = .int .u8 (x : Int) := by
 simp [u8]; omega
def frontF : Nat → Nat → List UInt8 → Option (Nat × Nat)
 | _, _, [] => none
 | i, acc, c :: r =>
  if i = 10 ∨ (i = 9 ∧ 1 < c.toNat) then none
  else if c.toNat < 128 then (if 0 < c.toNat ∨ i = 0 then some (acc + c.toNat % 128 * 128 ^ i, i + 1) else none)
  else frontF (i + 1) (acc + c.toNat % 128 * 128 ^ i) r
def front (l : List UInt8) : Option (Nat × Nat) := frontF 0 0 l
def unzig (x : Nat) : Int := if x % 2 = 0 then ((x / 2 : Nat) : Int) else -((x / 2 : Nat) : Int) - 1
end Go.K

/-! M2: a counted number has one form. Plain law, no program. Conditions: none. -/
namespace Go.K
set_option linter.unusedVariables false
set_option linter.unusedSimpArgs false

end Go.K

/-! M3: the reference's way to a counted number: how many bytes go on, then the number from its end. Plain law, no program. Conditions: none. -/
namespace Go.K
set_option linter.unusedVariables false
set_option linter.unusedSimpArgs false

def num7 : List UInt8 → Nat
 | [] => 0
 | c :: r => c.toNat % 128 + 128 * num7 r
def badEnd (i : Nat) (l : List UInt8) (n : Nat) : Prop := match l[n]? with
 | none => True
 | some c => 9 < i + n ∨ (i + n = 9 ∧ 1 < c.toNat) ∨ (0 < i + n ∧ c.toNat = 0)
end Go.K
end

section
namespace Go.Proofs.YtkdngpiiecmpgaaGreat.Ra
open Go Go.K Go.Proofs Go.Proofs.YtkdngpiiecmpgaaGreat
set_option linter.unusedVariables false
set_option linter.unusedSimpArgs false
set_option maxRecDepth 10000

def Gave (h : Base) (l : List UInt8) (v : Value) (h' : Base) (H' : List Asrt) : Prop := h = h' ∧ ∃ a cap, v = bufV a l.length cap ∧ H' = [bufA 5 1 a l.length cap (l.map u8)]

theorem RefUint (h : Base) (x : Nat) (hx : x < 18446744073709551616) : Tr Tryz.prog 115 [.int .u64 x] h [] (Gave h (cu x)) := by
 refine K.enter Tryz.func115 rfl (Nat.le_of_ble_eq_true rfl) (fun F => ?_)
 refine K.WC.nilBuf 5 1 ?_
 (repeat' (first | refine X.rq ?_ | (refine X.rc ?_ ?_ <;> intro hc <;> first | (exfalso; omega) | skip)))
 refine K.c_loop (σ := Nat × Option Nat × Nat × List UInt8) (fun s => [(0, .int .u64 s.1), (3, bufV s.2.1 s.2.2.2.length s.2.2.1)]) (fun _ => h)
  (fun s => bufA 5 1 s.2.1 s.2.2.2.length s.2.2.1 (s.2.2.2.map u8) :: F) (fun s => s.1 < 18446744073709551616 ∧ s.2.2.2 ++ cu s.1 = cu x) (fun s => s.1) (x, none, 0, []) ⟨hx, rfl⟩ (by repeat (first | exact K.Sub.nil _ | refine K.Sub.cons rfl ?_)) rfl rfl ?_
 rintro ⟨y, a, cap, pre⟩ ⟨hy, hpre⟩ KL hKL
 dsimp only at hy hpre ⊢
 have hlen : pre.length ≤ 10 := by
  have h1 := congrArg List.length hpre
  have h2 := cu_len x
  rw [List.length_append] at h1
  omega
 (repeat' (first | refine X.rq ?_ | (refine X.rc ?_ ?_ <;> intro hc <;> first | (exfalso; omega) | skip)))
 ·refine X.bs (fun B => ?_)
  refine K.l_append_at 1 rfl (Fx.und rfl) (Fx.und rfl) rfl (Fx.sz rfl) (Fx.zr rfl) rfl (Fx.byt rfl) rfl rfl (K.src_one (K.cel_own 0 rfl rfl) rfl) (by omega) (by omega) rfl (fun a' cap' => ?_)
  simp only [List.set_cons_zero, List.set_cons_succ, List.eraseIdx_cons_zero, List.eraseIdx_cons_succ, List.cons_append, List.nil_append]
  (repeat' (first | refine X.rq ?_ | (refine X.rc ?_ ?_ <;> intro hc <;> first | (exfalso; omega) | skip)))
  have e : pre.length + 1 = (pre ++ [UInt8.ofNat (y % 128 + 128)]).length := by simp
  rw [e]
  refine K.AT.drop (K.a_round hKL (y / 128, a', cap', pre ++ [UInt8.ofNat (y % 128 + 128)]) ⟨by omega, ?_⟩ (by repeat (first | exact K.Sub.nil _ | refine K.Sub.cons rfl ?_)) rfl ?_ (by dsimp only; omega))
  ·dsimp only
   rw [← hpre, cu_ge (x := y) (by omega) hy, List.append_assoc]; rfl
  ·dsimp only
   rw [List.map_append, List.map_singleton, K.u8_of (by omega), show ((y % 128 + 128 : Nat) : Int) = 128 + (y : Int) % 128 from by omega]
 ·rw [cu_lt (by omega)] at hpre
  refine X.bs (fun B => ?_)
  refine K.l_append_at 1 rfl (Fx.und rfl) (Fx.und rfl) rfl (Fx.sz rfl) (Fx.zr rfl) rfl (Fx.byt rfl) rfl rfl (K.src_one (K.cel_own 0 rfl rfl) rfl) (by omega) (by omega) rfl (fun a' cap' => ?_)
  simp only [List.set_cons_zero, List.set_cons_succ, List.eraseIdx_cons_zero, List.eraseIdx_cons_succ, List.cons_append, List.nil_append]
  (repeat' (first | refine X.rq ?_ | (refine X.rc ?_ ?_ <;> intro hc <;> first | (exfalso; omega) | skip)))
  refine K.AT.drop ?_
  have e : pre.length + 1 = (pre ++ [UInt8.ofNat y]).length := by simp
  rw [e]
  refine K.done (by first | exact Or.inl rfl | exact Or.inr rfl) rfl (by first | exact K.Base.le.refl _ | assumption) (H' := [bufA 5 1 a' (pre ++ [UInt8.ofNat y]).length cap' (pre.map u8 ++ [.int .u8 y])]) rfl ⟨rfl, a', cap', ?_, ?_⟩
  ·rw [← hpre]; rfl
  ·rw [← hpre, List.map_append, List.map_singleton, K.u8_of (by omega)]

theorem RefText (h : Base) (t : ByteArray) (hb : t.size ≤ 1099511627776) : Tr Tryz.prog 78 [.string t] h [] (Gave h (cu t.size ++ t.data.toList)) := by
 refine K.enter Tryz.func78 rfl (Nat.le_of_ble_eq_true rfl) (fun F => ?_)
 have hcl := cu_len t.size
 have hsz : t.data.toList.length = t.size := by simp
 (repeat' (first | refine X.rq ?_ | (refine X.rc ?_ ?_ <;> intro hc <;> first | (exfalso; omega) | skip)))
 refine K.l_call (Fx.cal rfl) rfl (RefUint h t.size (by omega)) (K.pp [] rfl) rfl ?_
 rintro v h' H' - ⟨rfl, a, cap, rfl, rfl⟩
 (repeat' (first | refine X.rq ?_ | (refine X.rc ?_ ?_ <;> intro hc <;> first | (exfalso; omega) | skip)))
 refine K.c_loop (σ := Nat × Option Nat × Nat) (fun s => [(0, .string t), (3, bufV s.2.1 ((cu t.size).length + s.1) s.2.2), (4, .int .i64 s.1)]) (fun _ => h)
  (fun s => bufA 5 1 s.2.1 ((cu t.size).length + s.1) s.2.2 ((cu t.size ++ t.data.toList.take s.1).map u8) :: F) (fun s => s.1 ≤ t.size) (fun s => t.size - s.1) (0, a, cap) (Nat.zero_le _) (by repeat (first | exact K.Sub.nil _ | refine K.Sub.cons rfl ?_)) rfl (by rw [List.take_zero, List.append_nil]; rfl) ?_
 rintro ⟨j, a, cap⟩ hj KL hKL
 dsimp only at hj ⊢
 by_cases hjl : j < t.size
 ·have hc0 : t.data.toList[((j : Nat) : Int).toNat]? = some (t.data.toList[j]'(by omega)) := by rw [Int.toNat_natCast]; exact List.getElem?_eq_getElem (by omega)
  have htk : t.data.toList.take (j + 1) = t.data.toList.take j ++ [t.data.toList[j]'(by omega)] := List.take_succ_eq_append_getElem (by omega)
  generalize t.data.toList[j]'(by omega) = c at hc0 htk
  (repeat' (first | refine X.rq ?_ | (refine X.rc ?_ ?_ <;> intro hc <;> first | (exfalso; omega) | skip)))
  refine X.bs (fun B => ?_)
  refine K.l_append_at 1 rfl (Fx.und rfl) (Fx.und rfl) rfl (Fx.sz rfl) (Fx.zr rfl) rfl (Fx.byt rfl) rfl rfl (K.src_one (K.cel_own 0 rfl rfl) rfl) (by omega) (by omega) rfl (fun a' cap' => ?_)
  simp only [List.set_cons_zero, List.set_cons_succ, List.eraseIdx_cons_zero, List.eraseIdx_cons_succ, List.cons_append, List.nil_append]
  (repeat' (first | refine X.rq ?_ | (refine X.rc ?_ ?_ <;> intro hc <;> first | (exfalso; omega) | skip)))
  refine K.AT.drop (K.a_round hKL (j + 1, a', cap') (by omega) (by repeat (first | exact K.Sub.nil _ | refine K.Sub.cons rfl ?_)) rfl ?_ (by dsimp only; omega))
  dsimp only
  rw [htk, ← List.append_assoc, List.map_append (l₁ := cu t.size ++ _)]; rfl
 ·(repeat' (first | refine X.rq ?_ | (refine X.rc ?_ ?_ <;> intro hc <;> first | (exfalso; omega) | skip)))
  obtain rfl : j = t.size := by omega
  rw [List.take_of_length_le (by omega)]
  refine K.done (by first | exact Or.inl rfl | exact Or.inr rfl) rfl (by first | exact K.Base.le.refl _ | assumption) (H' := [bufA 5 1 a ((cu t.size).length + t.size) cap ((cu t.size ++ t.data.toList).map u8)]) rfl ⟨rfl, a, cap, ?_, ?_⟩
  ·rw [List.length_append, hsz]; rfl
  ·rw [List.length_append, hsz]
end Go.Proofs.YtkdngpiiecmpgaaGreat.Ra
end

section
namespace Go.Proofs.YtkdngpiiecmpgaaGreat.Pg
open Go Go.K Go.Proofs Go.Proofs.YtkdngpiiecmpgaaGreat Go.Proofs.YtkdngpiiecmpgaaGreat.Ra
set_option linter.unusedVariables false
set_option linter.unusedSimpArgs false
set_option maxRecDepth 10000

theorem u8_ones (l : List UInt8) : ∀ u ∈ l.map u8, oneCell u = true := fun u hu => by
 obtain ⟨c, _, rfl⟩ := List.mem_map.1 hu
 rfl
section
variable {n : Nat} {Q : Exit → Act → World → Prop} {E : Env} {h : Base} {H R : List Asrt} {ops : Array Oper} {rest : List Oper} {t t2 ty : TypeId} {ps : String} {af : Array Edge} {d : Nat} {x y : Operand}
theorem l_appBB {a a2 : Option Nat} {cap cap2 : Nat} {l l2 : List UInt8} (hu : Tryz.prog.underlying t = some (.slice 5)) (hu2 : Tryz.prog.underlying t2 = some (.slice 5)) (hx : lkO E x = some (bufV a l.length cap)) (hy : lkO E y = some (bufV a2 l2.length cap2))
  (hl : l.length + l2.length ≤ 1000000000) (hd : Nat.blt d n = true) (hk : ∀ a' cap', WL Tryz.prog n ops Q rest ((d, bufV a' (l ++ l2).length cap') :: E) h (bufA 5 1 a' (l ++ l2).length cap' ((l ++ l2).map u8) :: R)) :
  WL Tryz.prog n ops Q (⟨some d, .call ⟨.builtin .append, #[x, y], #[t, t2]⟩, ty, ps, af, none⟩ :: rest) E h (bufA 5 1 a2 l2.length cap2 (l2.map u8) :: bufA 5 1 a l.length cap (l.map u8) :: R) := by
 refine K.l_append_at (e := 5) 1 rfl hu hu2 rfl (Fx.sz rfl) (Fx.zr rfl) rfl (Fx.byt rfl) hx hy (K.src_buf 0 rfl (u8_ones l2) (by simp)) (by omega) (by omega) hd (fun a' cap' => ?_)
 simp only [List.set_cons_zero, List.set_cons_succ, List.eraseIdx_cons_zero, List.eraseIdx_cons_succ, List.cons_append, List.nil_append]
 refine K.WL.drop ?_
 have := hk a' cap'
 rw [List.length_append, List.map_append] at this
 exact this
theorem l_appBV {a : Option Nat} {cap : Nat} {l l2 : List UInt8} {v : Value} (hb : BV h v l2) (hu : Tryz.prog.underlying t = some (.slice 5)) (hu2 : Tryz.prog.underlying t2 = some (.slice 5)) (hx : lkO E x = some (bufV a l.length cap)) (hy : lkO E y = some v)
  (hl : l.length + l2.length ≤ 1000000000) (hd : Nat.blt d n = true) (hk : ∀ a' cap', WL Tryz.prog n ops Q rest ((d, bufV a' (l ++ l2).length cap') :: E) h (bufA 5 1 a' (l ++ l2).length cap' ((l ++ l2).map u8) :: R)) :
  WL Tryz.prog n ops Q (⟨some d, .call ⟨.builtin .append, #[x, y], #[t, t2]⟩, ty, ps, af, none⟩ :: rest) E h (bufA 5 1 a l.length cap (l.map u8) :: R) := by
 refine K.l_append_at (e := 5) 0 rfl hu hu2 rfl (Fx.sz rfl) (Fx.zr rfl) rfl (Fx.byt rfl) hx hy hb.src (by omega) (by omega) hd (fun a' cap' => ?_)
 simp only [List.set_cons_zero, List.set_cons_succ, List.eraseIdx_cons_zero, List.eraseIdx_cons_succ, List.cons_append, List.nil_append]
 have := hk a' cap'
 rw [List.length_append, List.map_append] at this
 exact this
end
end Go.Proofs.YtkdngpiiecmpgaaGreat.Pg
end

section
namespace Go.Proofs.YtkdngpiiecmpgaaGreat.Rc
open Go Go.K Go.Proofs Go.Proofs.YtkdngpiiecmpgaaGreat Go.Proofs.YtkdngpiiecmpgaaGreat.Pg Go.Proofs.YtkdngpiiecmpgaaGreat.Ca Go.Proofs.YtkdngpiiecmpgaaGreat.Ra
set_option linter.unusedVariables false
set_option linter.unusedSimpArgs false
set_option maxRecDepth 10000

set_option maxHeartbeats 8000000 in
theorem RefBare (h : Base) (cs : List Value) (r : Recd) (hx : RecC h cs r) (hk18 : 1 ≤ r.kind ∧ r.kind ≤ 8) : TrV Tryz.prog 51 [.agg cs.toArray] h [] (.bool (decide (bareP r))) [] := by
 obtain ⟨hw, ad, ai, al, ay, cd, ci, cl, cy, rfl, hb, ⟨es, hi1, hi2, hi3⟩, hl4, hd2⟩ := hx.cells
 have hkk : r.kind = 1 ∨ r.kind = 2 ∨ r.kind = 3 ∨ r.kind = 4 ∨ r.kind = 8 ∨ (r.kind ≠ 1 ∧ r.kind ≠ 2 ∧ r.kind ≠ 3 ∧ r.kind ≠ 4 ∧ r.kind ≠ 8) := by omega
 refine K.enter Tryz.func51 rfl (Nat.le_of_ble_eq_true rfl) (fun F => ?_)
 simp only [List.nil_append]
 (repeat' (first | refine X.rq ?_ | (refine X.rc ?_ ?_ <;> intro hc <;> first | (exfalso; omega) | skip)))
 refine K.l_box rfl rfl rfl (fun B1 => ?_)
 unfold cR
 clear hi1 hi2 hi3 hb hl4 hd2 hx
 rcases hkk with hk | hk | hk | hk | hk | hk
 all_goals
  (repeat' (first | refine X.rq ?_ | (refine X.rc ?_ ?_ <;> intro hc <;> first | (exfalso; omega) | skip)))
 all_goals
  refine K.AT.drop ?_
  refine K.done (by first | exact Or.inl rfl | exact Or.inr rfl) rfl (by first | exact K.Base.le.refl _ | assumption) (H' := []) rfl ⟨?_, rfl, rfl⟩
  refine congrArg Value.bool (Bool.eq_iff_iff.2 ?_)
  simp only [decide_eq_true_eq, Bool.false_eq_true, false_iff, bareP_iff, hasT]
 all_goals skip
 all_goals first | omega | (simp_all; done) | (simp_all; omega)
set_option maxHeartbeats 1000000 in
theorem RefPut (h : Base) (a : Option Nat) (c : Nat) (l : List UInt8) (v : Value) (xs : List Nat) (hv : U64s h v xs) (hx : ∀ x ∈ xs, x < 18446744073709551616) (hn : xs.length ≤ 10) (hl : l.length ≤ 900000000) :
  Tr Tryz.prog 77 [bufV a l.length c, v] h [bufA 5 1 a l.length c (l.map u8)] (Gave h (l ++ xs.flatMap cu)) := by
 unfold U64s at hv
 obtain ⟨ao, ca, rfl⟩ := hv.len
 rw [List.length_map] at hv ⊢
 refine K.enter Tryz.func77 rfl (Nat.le_of_ble_eq_true rfl) (fun F => ?_)
 simp only [List.cons_append, List.nil_append]
 (repeat' (first | refine X.rq ?_ | (refine X.rc ?_ ?_ <;> intro hc <;> first | (exfalso; omega) | skip)))
 refine K.c_loop (σ := Nat × Option Nat × Nat × List UInt8) (fun s => [(0, bufV s.2.1 s.2.2.2.length s.2.2.1), (1, .slice ao xs.length ca), (5, .int .i64 s.1)]) (fun _ => h) (fun s => bufA 5 1 s.2.1 s.2.2.2.length s.2.2.1 (s.2.2.2.map u8) :: F)
  (fun s => s.1 ≤ xs.length ∧ s.2.2.2 = l ++ (xs.take s.1).flatMap cu) (fun s => xs.length - s.1) (0, a, c, l) ⟨Nat.zero_le _, by simp⟩ (by repeat (first | exact K.Sub.nil _ | refine K.Sub.cons rfl ?_)) rfl rfl ?_
 rintro ⟨j, a1, c1, l1⟩ ⟨hj, hl1⟩ KL hKL
 dsimp only at hj hl1 ⊢
 by_cases hjl : j < xs.length
 ·have hx1 : xs[j]? = some xs[j] := List.getElem?_eq_getElem hjl
  have hxl := hx _ (List.getElem_mem hjl)
  generalize xs[j] = x at hx1 hxl
  have hc0 : (xs.map fun x => [n64 x])[((j : Nat) : Int).toNat]? = some [n64 x] := by rw [Int.toNat_natCast, List.getElem?_map, hx1]; rfl
  have hlen := nums_len (xs.take j)
  have hlt : (xs.take j).length ≤ 10 := by rw [List.length_take]; omega
  have hl1n : l1.length ≤ 900000100 := by rw [hl1, List.length_append]; omega
  have hcx := cu_len x
  (repeat' (first | refine X.rq ?_ | (refine X.rc ?_ ?_ <;> intro hc <;> first | (exfalso; omega) | skip)))
  refine K.s_pureE (K.p_indexL hv (Fx.und rfl) (Fx.sz rfl) rfl rfl (by omega) hc0) rfl ?_
  rintro v2 ⟨b, o, rfl, hcel⟩
  refine K.s_pure (K.p_load (Fx.agg rfl) rfl (K.Cel.up hcel.1)) rfl ?_
  (repeat' (first | refine X.rq ?_ | (refine X.rc ?_ ?_ <;> intro hc <;> first | (exfalso; omega) | skip)))
  refine K.l_call (Fx.cal rfl) rfl (RefUint h x hxl) (K.pp [] rfl) rfl ?_
  rintro u h' H' - ⟨e, a2, c2, rfl, rfl⟩
  obtain rfl := e.symm
  simp only [List.cons_append, List.nil_append]
  refine l_appBB (Fx.und rfl) (Fx.und rfl) rfl rfl (by omega) rfl (fun a3 c3 => ?_)
  (repeat' (first | refine X.rq ?_ | (refine X.rc ?_ ?_ <;> intro hc <;> first | (exfalso; omega) | skip)))
  refine K.a_round hKL (j + 1, a3, c3, l1 ++ cu x) ⟨by dsimp only; omega, ?_⟩ (by repeat (first | exact K.Sub.nil _ | refine K.Sub.cons rfl ?_)) rfl rfl (by dsimp only; omega)
  dsimp only
  rw [flat_at cu hx1, hl1, List.append_assoc]
 ·obtain rfl : j = xs.length := by omega
  rw [List.take_length] at hl1
  subst hl1
  (repeat' (first | refine X.rq ?_ | (refine X.rc ?_ ?_ <;> intro hc <;> first | (exfalso; omega) | skip)))
  refine K.done (by first | exact Or.inl rfl | exact Or.inr rfl) rfl (by first | exact K.Base.le.refl _ | assumption) (H' := [bufA 5 1 a1 (l ++ xs.flatMap cu).length c1 ((l ++ xs.flatMap cu).map u8)]) rfl ⟨rfl, a1, c1, rfl, rfl⟩
theorem PutB (h : Base) (a : Option Nat) (c : Nat) (l : List UInt8) (B T : Nat) (xs : List Nat) (hx : ∀ x ∈ xs, x < 18446744073709551616) (hn : xs.length ≤ 10) (hl : l.length ≤ 900000000) :
  Tr Tryz.prog 77 [bufV a l.length c, .slice (some ⟨B, 0, none⟩) xs.length xs.length] h ([blk B T (xs.map n64)] ++ [bufA 5 1 a l.length c (l.map u8)]) (fun u h' H' => h' = h ∧ ∃ a c, u = bufV a (l ++ xs.flatMap cu).length c ∧ H' = [bufA 5 1 a (l ++ xs.flatMap cu).length c ((l ++ xs.flatMap cu).map u8)]) :=
 K.Tr.give fun h' hle hs => fun F w ok => Calls.mono (RefPut h' a c l _ xs (K.says_nums hs) hx hn hl F w ok) fun e w' ⟨u, he, h1, H1, hle, ⟨_, q2⟩, ok1⟩ => ⟨u, he, h1, H1, hle, q2, ok1⟩
theorem one_u8 {k : Nat} (hk : k < 256) : [Value.int .u8 (k : Int)] = (lebs k 1).map u8 := by
 simp [lebs, u8, UInt8.toNat_ofNat', Nat.mod_eq_of_lt hk]
end Go.Proofs.YtkdngpiiecmpgaaGreat.Rc
end
