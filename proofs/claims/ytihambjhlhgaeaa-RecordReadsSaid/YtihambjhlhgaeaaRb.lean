/-
  The walks of the reference, reading. Conditions: each theorem's own.
-/
import Derived.Test.YtihambjhlhgaeaaCf
import Derived.Test.YtihambjhlhgaeaaMX
import Derived.Test.YtihambjhlhgaeaaRa

namespace Go.Proofs.Ytihambjhlhgaeaa.Rb
open Go Go.K Go.Proofs Go.Proofs.Ytihambjhlhgaeaa Go.Proofs.Ytihambjhlhgaeaa.Cc
set_option linter.unusedVariables false
set_option linter.unusedSimpArgs false
set_option maxRecDepth 10000

def qv (p : Nat) : Value := .pointer (some ⟨p, 0, none⟩)
def qA (p : Nat) (sv : Value) (bad : Bool) : Asrt := blk p 87 [sv, .bool bad]
/-- What every reading does. -/
def QPost (h : Base) (p : Nat) (ok : Bool) (rem : List UInt8) (V : Value → Prop) (v : Value) (h' : Base) (H' : List Asrt) : Prop := h = h' ∧ V v ∧ ∃ sv', BV h sv' rem ∧ H' = [qA p sv' (!ok)]

theorem Q_Err (h : Base) (p : Nat) (sv : Value) (ok : Bool) : TrV Try.prog 81 [qv p] h [qA p sv (!ok)] (errV ok) [qA p sv (!ok)] := by
  refine K.enter Try.func81 rfl (Nat.le_of_ble_eq_true rfl) (fun F => ?_)
  simp only [qv, qA, List.cons_append, List.nil_append]
  cases ok
  all_goals
    simp only [Bool.not_false, Bool.not_true]
    (repeat' (first | refine X.rq ?_ | (refine X.rc ?_ ?_ <;> intro hc <;> first | (exfalso; omega) | skip)))
    refine K.done (by first | exact Or.inl rfl | exact Or.inr rfl) rfl (by first | exact K.Base.le.refl _ | assumption) (H' := [qA p sv _]) rfl ⟨rfl, rfl, rfl⟩

theorem Q_End (h : Base) (p : Nat) (sv : Value) (ok : Bool) (rem : List UInt8) (hb : BV h sv rem) (hl : rem.length ≤ big) :
    Tr Try.prog 50 [qv p] h [qA p sv (!ok)] (QPost h p (ok && decide (rem = [])) rem (· = errV (ok && decide (rem = [])))) := by
  unfold big at hl
  obtain ⟨ao, c, rfl⟩ := hb.len
  refine K.enter Try.func50 rfl (Nat.le_of_ble_eq_true rfl) (fun F => ?_)
  simp only [qv, qA, List.cons_append, List.nil_append]
  cases ok with
  | false =>
    simp only [Bool.not_false]
    (repeat' (first | refine X.rq ?_ | (refine X.rc ?_ ?_ <;> intro hc <;> first | (exfalso; omega) | skip)))
    refine X.sto ?_
    (repeat' (first | refine X.rq ?_ | (refine X.rc ?_ ?_ <;> intro hc <;> first | (exfalso; omega) | skip)))
    refine K.l_callV (vals := [qv p]) (Fx.cal rfl) rfl (Q_Err h p _ false) (K.pp [0] rfl) rfl rfl ?_
    (repeat' (first | refine X.rq ?_ | (refine X.rc ?_ ?_ <;> intro hc <;> first | (exfalso; omega) | skip)))
    refine K.done (by first | exact Or.inl rfl | exact Or.inr rfl) rfl (by first | exact K.Base.le.refl _ | assumption) (H' := [qA p _ true]) rfl ⟨rfl, rfl, _, hb, rfl⟩
  | true =>
    simp only [Bool.not_true]
    have e : decide ((0 : Int) < (rem.length : Int)) = !decide (rem = []) := by
      cases rem with
      | nil => simp
      | cons c r => simp
    (repeat' (first | refine X.rq ?_ | (refine X.rc ?_ ?_ <;> intro hc <;> first | (exfalso; omega) | skip)))
    rw [e]
    refine X.sto ?_
    (repeat' (first | refine X.rq ?_ | (refine X.rc ?_ ?_ <;> intro hc <;> first | (exfalso; omega) | skip)))
    refine K.l_callV (vals := [qv p]) (Fx.cal rfl) rfl (Q_Err h p _ (decide (rem = []))) (K.pp [0] rfl) rfl rfl ?_
    (repeat' (first | refine X.rq ?_ | (refine X.rc ?_ ?_ <;> intro hc <;> first | (exfalso; omega) | skip)))
    refine K.done (by first | exact Or.inl rfl | exact Or.inr rfl) rfl (by first | exact K.Base.le.refl _ | assumption) (H' := [qA p _ (!decide (rem = []))]) rfl ⟨rfl, rfl, _, hb, by simp⟩

theorem Q_take_no (h : Base) (p : Nat) (sv : Value) (ok : Bool) (rem : List UInt8) (m : Int) (hb : BV h sv rem) (hl : rem.length ≤ big) (hm1 : -9223372036854775808 ≤ m) (hm2 : m ≤ 9223372036854775807) (hno : ok = false ∨ m < 0 ∨ (rem.length : Int) < m) :
    Tr Try.prog 78 [qv p, .int .i64 m] h [qA p sv (!ok)] (QPost h p false rem (· = .slice none 0 0)) := by
  unfold big at hl
  obtain ⟨ao, c, rfl⟩ := hb.len
  refine K.enter Try.func78 rfl (Nat.le_of_ble_eq_true rfl) (fun F => ?_)
  simp only [qv, qA, List.cons_append, List.nil_append]
  cases ok with
  | false =>
    simp only [Bool.not_false]
    (repeat' (first | refine X.rq ?_ | (refine X.rc ?_ ?_ <;> intro hc <;> first | (exfalso; omega) | skip)))
    refine X.sto ?_
    (repeat' (first | refine X.rq ?_ | (refine X.rc ?_ ?_ <;> intro hc <;> first | (exfalso; omega) | skip)))
    refine K.done (by first | exact Or.inl rfl | exact Or.inr rfl) rfl (by first | exact K.Base.le.refl _ | assumption) (H' := [qA p _ true]) rfl ⟨rfl, rfl, _, hb, rfl⟩
  | true =>
    have hno' : m < 0 ∨ (rem.length : Int) < m := by simpa using hno
    clear hno
    simp only [Bool.not_true]
    by_cases hneg : m < 0
    · (repeat' (first | refine X.rq ?_ | (refine X.rc ?_ ?_ <;> intro hc <;> first | (exfalso; omega) | skip)))
      · refine X.sto ?_
        (repeat' (first | refine X.rq ?_ | (refine X.rc ?_ ?_ <;> intro hc <;> first | (exfalso; omega) | skip)))
        refine K.done (by first | exact Or.inl rfl | exact Or.inr rfl) rfl (by first | exact K.Base.le.refl _ | assumption) (H' := [qA p _ true]) rfl ⟨rfl, rfl, _, hb, rfl⟩
    · (repeat' (first | refine X.rq ?_ | (refine X.rc ?_ ?_ <;> intro hc <;> first | (exfalso; omega) | skip)))
      · refine X.sto ?_
        (repeat' (first | refine X.rq ?_ | (refine X.rc ?_ ?_ <;> intro hc <;> first | (exfalso; omega) | skip)))
        refine K.done (by first | exact Or.inl rfl | exact Or.inr rfl) rfl (by first | exact K.Base.le.refl _ | assumption) (H' := [qA p _ true]) rfl ⟨rfl, rfl, _, hb, rfl⟩

theorem Q_take (h : Base) (p : Nat) (sv : Value) (rem : List UInt8) (m : Nat) (hb : BV h sv rem) (hl : rem.length ≤ big) (hm : m ≤ rem.length) :
    Tr Try.prog 78 [qv p, .int .i64 m] h [qA p sv false] (fun v h' H' => h = h' ∧ ∃ a cap sv', v = bufV a m cap ∧ BV h sv' (rem.drop m) ∧ H' = [bufA 5 1 a m cap ((rem.take m).map u8), qA p sv' false]) := by
  unfold big at hl
  obtain ⟨ao, c, rfl⟩ := hb.len
  refine K.enter Try.func78 rfl (Nat.le_of_ble_eq_true rfl) (fun F => ?_)
  simp only [qv, qA, List.cons_append, List.nil_append]
  (repeat' (first | refine X.rq ?_ | (refine X.rc ?_ ?_ <;> intro hc <;> first | (exfalso; omega) | skip)))
  refine K.WC.nilBuf 5 1 ?_
  refine K.c_loop (σ := Nat × Option Nat × Nat) (fun r => [(0, qv p), (1, .int .i64 m), (5, bufV r.2.1 r.1 r.2.2), (6, .int .i64 r.1)]) (fun _ => h)
    (fun r => bufA 5 1 r.2.1 r.1 r.2.2 ((rem.take r.1).map u8) :: qA p (.slice ao rem.length c) false :: F) (fun r => r.1 ≤ m) (fun r => m - r.1) (0, none, 0) (Nat.zero_le _) (by repeat (first | exact K.Sub.nil _ | refine K.Sub.cons rfl ?_)) rfl rfl ?_
  rintro ⟨j, a, cap⟩ hj KL hKL
  dsimp only at hj ⊢
  simp only [qv, qA]
  by_cases hjm : j < m
  · have hjl : j < rem.length := by omega
    have hc0 : rem[((j : Nat) : Int).toNat]? = some rem[j] := by simp [hjl]
    (repeat' (first | refine X.rq ?_ | (refine X.rc ?_ ?_ <;> intro hc <;> first | (exfalso; omega) | skip)))
    refine K.s_pureE (K.p_indexB hb (Fx.und rfl) (Fx.sz rfl) rfl rfl (by omega) hc0) rfl ?_
    rintro v2 ⟨b, o, rfl, hcel⟩
    have hcel' := hcel.up (K := bufA 5 1 a j cap ((rem.take j).map u8) :: blk p 87 [.slice ao rem.length c, .bool false] :: F)
    (repeat' (first | refine X.rq ?_ | (refine X.rc ?_ ?_ <;> intro hc <;> first | (exfalso; omega) | skip)))
    refine X.bs (fun B => ?_)
    refine K.l_append_at 1 rfl (Fx.und rfl) (Fx.und rfl) rfl (Fx.sz rfl) (Fx.zr rfl) rfl (Fx.byt rfl) rfl rfl (K.src_one (K.cel_own 0 rfl rfl) rfl) (by omega) (by omega) rfl (fun a' cap' => ?_)
    simp only [List.set_cons_zero, List.set_cons_succ, List.eraseIdx_cons_zero, List.eraseIdx_cons_succ, List.cons_append, List.nil_append]
    (repeat' (first | refine X.rq ?_ | (refine X.rc ?_ ?_ <;> intro hc <;> first | (exfalso; omega) | skip)))
    refine K.AT.drop (K.a_round hKL (j + 1, a', cap') (by dsimp only; omega) (by repeat (first | exact K.Sub.nil _ | refine K.Sub.cons rfl ?_)) rfl ?_ (by dsimp only; omega))
    dsimp only
    rw [List.take_add_one, List.getElem?_eq_getElem hjl, Option.toList_some, List.map_append]
    rfl
  · obtain rfl : j = m := by omega
    (repeat' (first | refine X.rq ?_ | (refine X.rc ?_ ?_ <;> intro hc <;> first | (exfalso; omega) | skip)))
    refine K.s_pureE (K.p_sliceB (k1 := .i64) (k2 := .i64) (p := j) (q := rem.length) hb (Fx.und rfl) (Fx.sz rfl) rfl ⟨_, rfl, rfl⟩ rfl hm (Nat.le_refl _)) rfl ?_
    rintro sv' hb'
    rw [List.take_length] at hb'
    obtain ⟨ao', c', rfl⟩ := hb'.len
    (repeat' (first | refine X.rq ?_ | (refine X.rc ?_ ?_ <;> intro hc <;> first | (exfalso; omega) | skip)))
    refine X.sto ?_
    (repeat' (first | refine X.rq ?_ | (refine X.rc ?_ ?_ <;> intro hc <;> first | (exfalso; omega) | skip)))
    refine K.done (by first | exact Or.inl rfl | exact Or.inr rfl) rfl (by first | exact K.Base.le.refl _ | assumption) (H' := [bufA 5 1 a j cap ((rem.take j).map u8), qA p _ false]) rfl ⟨rfl, a, cap, _, rfl, hb', rfl⟩

theorem Q_Fixed (h : Base) (p : Nat) (sv : Value) (ok : Bool) (rem : List UInt8) (m : Nat) (hb : BV h sv rem) (hl : rem.length ≤ big) (hm : m ≤ 8) :
    Tr Try.prog 77 [qv p, .int .i64 m] h [qA p sv (!ok)] (QPost h p (getOk ok m rem) (getRem ok m rem) (· = .int .u64 (getN ok m rem : Nat))) := by
  refine K.enter Try.func77 rfl (Nat.le_of_ble_eq_true rfl) (fun F => ?_)
  by_cases hno : ok = false ∨ (m : Int) < 0 ∨ (rem.length : Int) < m
  · have hneg : ¬ (ok = true ∧ m ≤ rem.length) := by rintro ⟨rfl, h2⟩; simp at hno; omega
    have e1 : getN ok m rem = 0 := by rw [getN, if_neg hneg]
    have e2 : getRem ok m rem = rem := by rw [getRem, if_neg hneg]
    have e3 : getOk ok m rem = false := by
      unfold getOk
      cases ok
      · rfl
      · simpa using hneg
    rw [e1, e2, e3]
    (repeat' (first | refine X.rq ?_ | (refine X.rc ?_ ?_ <;> intro hc <;> first | (exfalso; omega) | skip)))
    refine K.l_call (Fx.cal rfl) rfl (Q_take_no h p sv ok rem m hb hl (by omega) (by omega) hno) (K.pp [0] rfl) rfl ?_
    rintro v h' H' - ⟨rfl, rfl, sv', hb', rfl⟩
    (repeat' (first | refine X.rq ?_ | (refine X.rc ?_ ?_ <;> intro hc <;> first | (exfalso; omega) | skip)))
    refine K.c_loop (σ := Unit) (fun _ => [(6, .int .u64 0), (7, .int .i64 (-1))]) (fun _ => h) (fun _ => qA p sv' true :: F) (fun _ => True) (fun _ => 0) () trivial (by repeat (first | exact K.Sub.nil _ | refine K.Sub.cons rfl ?_)) rfl rfl ?_
    rintro _ - KL hKL
    (repeat' (first | refine X.rq ?_ | (refine X.rc ?_ ?_ <;> intro hc <;> first | (exfalso; omega) | skip)))
    refine K.done (by first | exact Or.inl rfl | exact Or.inr rfl) rfl (by first | exact K.Base.le.refl _ | assumption) (H' := [qA p sv' true]) rfl ⟨rfl, rfl, sv', hb', rfl⟩
  · obtain ⟨rfl, hm0⟩ : ok = true ∧ m ≤ rem.length := by
      cases ok
      · simp at hno
      · simp at hno; exact ⟨rfl, by omega⟩
    have hpos : true = true ∧ m ≤ rem.length := ⟨rfl, hm0⟩
    have e1 : getN true m rem = leNum (rem.take m) := by rw [getN, if_pos hpos]
    have e2 : getRem true m rem = rem.drop m := by rw [getRem, if_pos hpos]
    have e3 : getOk true m rem = true := by simp [getOk, hm0]
    rw [e1, e2, e3]
    (repeat' (first | refine X.rq ?_ | (refine X.rc ?_ ?_ <;> intro hc <;> first | (exfalso; omega) | skip)))
    refine K.l_call (Fx.cal rfl) rfl (Q_take h p sv rem m hb hl hm0) (K.pp [0] rfl) rfl ?_
    rintro v h' H' - ⟨rfl, a, cap, sv', rfl, hb', rfl⟩
    have hlt : (rem.take m).length = m := by simp; omega
    generalize rem.take m = l at hlt
    (repeat' (first | refine X.rq ?_ | (refine X.rc ?_ ?_ <;> intro hc <;> first | (exfalso; omega) | skip)))
    refine K.c_loop (σ := Nat) (fun j => [(5, bufV a m cap), (6, .int .u64 (leNum (l.drop j) : Nat)), (7, .int .i64 ((j : Int) - 1))]) (fun _ => h)
      (fun _ => bufA 5 1 a m cap (l.map u8) :: qA p sv' false :: F) (fun j => j ≤ m) (fun j => j) m (Nat.le_refl _) ?_ rfl rfl ?_
    · have hd : leNum (l.drop m) = 0 := by rw [List.drop_of_length_le (by omega)]; rfl
      rw [hd]
      exact (by repeat (first | exact K.Sub.nil _ | refine K.Sub.cons rfl ?_))
    rintro j hj KL hKL
    by_cases h0 : j = 0
    · subst h0
      (repeat' (first | refine X.rq ?_ | (refine X.rc ?_ ?_ <;> intro hc <;> first | (exfalso; omega) | skip)))
      rw [List.drop_zero]
      refine K.AT.drop ?_
      refine K.done (by first | exact Or.inl rfl | exact Or.inr rfl) rfl (by first | exact K.Base.le.refl _ | assumption) (H' := [qA p sv' false]) rfl ⟨rfl, rfl, sv', hb', rfl⟩
    · obtain ⟨i, rfl⟩ : ∃ i, j = i + 1 := ⟨j - 1, by omega⟩
      have hil : i < l.length := by omega
      have hc0 : l[i]? = some l[i] := List.getElem?_eq_getElem hil
      have ei : (((i + 1 : Nat) : Int) - 1) = (i : Int) := by omega
      have hx : leNum (l.drop (i + 1)) < 72057594037927936 := by
        have h1 := leNum_lt (l.drop (i + 1))
        have h2 : (256 : Nat) ^ (l.drop (i + 1)).length ≤ 256 ^ 7 := Nat.pow_le_pow_right (by omega) (by simp; omega)
        have h3 : (256 : Nat) ^ 7 = 72057594037927936 := by decide
        omega
      have hdr := leNum_drop hc0
      generalize l[i] = c at hc0 hdr
      have hcl := c.toNat_lt
      rw [ei]
      refine K.oc_buf (fun _ e _ _ => by omega) ?_
      rintro bb sp fz rfl g2 g3 g4 g5 g6
      have hcel : Cel h (blkF bb 5 (l.map u8 ++ sp) fz :: qA p sv' false :: F) bb i (u8 c) := K.cel_own 0 rfl (by rw [List.getElem?_append_left (by simpa using hil), List.getElem?_map, hc0]; rfl)
      unfold K.u8 at hcel
      (repeat' (first | refine X.rq ?_ | (refine X.rc ?_ ?_ <;> intro hc <;> first | (exfalso; omega) | skip)))
      rw [show (256 * ((leNum (l.drop (i+1)) : Nat) : Int) + (c.toNat : Int)) = ((leNum (l.drop i) : Nat) : Int) from by rw [hdr]; omega]
      refine K.AT.shut (s := 1) (m := m) (cap := cap) g2 g3 g4 g5 g6 ?_
      refine K.a_round hKL i (by omega) (by repeat (first | exact K.Sub.nil _ | refine K.Sub.cons rfl ?_)) rfl rfl (by omega)
/-- What Front answers. -/
def frontV (o : Option (Nat × Nat)) : Value := match o with
  | some (x, m) => .tuple #[.int .u64 x, .int .i64 m]
  | none => .tuple #[.int .u64 0, .int .i64 0]

theorem Q_Front (h : Base) (sv : Value) (rem : List UInt8) (hb : BV h sv rem) (hl : rem.length ≤ big) : TrV Try.prog 92 [sv] h [] (frontV (front rem)) [] := by
  unfold big at hl
  obtain ⟨ao, cp, rfl⟩ := hb.len
  refine K.enter Try.func92 rfl (Nat.le_of_ble_eq_true rfl) (fun F => ?_)
  simp only [List.nil_append]
  (repeat' (first | refine X.rq ?_ | (refine X.rc ?_ ?_ <;> intro hc <;> first | (exfalso; omega) | skip)))
  refine K.c_loop (σ := Nat) (fun j => [(0, .slice ao rem.length cp), (4, .int .i64 j)]) (fun _ => h) (fun _ => F) (fun j => j ≤ rem.length ∧ ∀ k c, k < j → rem[k]? = some c → 128 ≤ c.toNat) (fun j => rem.length - j) 0 ⟨Nat.zero_le _, fun k c hk => by omega⟩ (by repeat (first | exact K.Sub.nil _ | refine K.Sub.cons rfl ?_)) rfl rfl ?_
  rintro j ⟨hj, hge⟩ KL hKL
  by_cases hjl : j < rem.length
  · have hc0 : rem[((j : Nat) : Int).toNat]? = some rem[j] := by simp [hjl]
    have hc1 : rem[j]? = some rem[j] := by simp [hjl]
    generalize rem[j] = c at hc0 hc1
    have hcl := c.toNat_lt
    (repeat' (first | refine X.rq ?_ | (refine X.rc ?_ ?_ <;> intro hc <;> first | (exfalso; omega) | skip)))
    refine K.s_pureE (K.p_indexB hb (Fx.und rfl) (Fx.sz rfl) rfl rfl (by omega) hc0) rfl ?_
    rintro v2 ⟨b, o, rfl, hcel⟩
    have hcel' := hcel.up (K := F)
    unfold K.u8 at hcel'
    by_cases h128 : 128 ≤ c.toNat
    · (repeat' (first | refine X.rq ?_ | (refine X.rc ?_ ?_ <;> intro hc <;> first | (exfalso; omega) | skip)))
      refine K.a_round hKL (j + 1) ⟨by omega, fun k d hk hd => ?_⟩ (by repeat (first | exact K.Sub.nil _ | refine K.Sub.cons rfl ?_)) rfl rfl (by omega)
      by_cases hkj : k < j
      · exact hge k d hkj hd
      · obtain rfl : k = j := by omega
        rw [hc1] at hd; cases hd; exact h128
    · (repeat' (first | refine X.rq ?_ | (refine X.rc ?_ ?_ <;> intro hc <;> first | (exfalso; omega) | skip)))
      · rw [front_bad hge (fun c' e => by rw [hc1] at e; cases e; omega) (by rw [badEnd, hc1]; dsimp only; omega)]
        refine K.done (by first | exact Or.inl rfl | exact Or.inr rfl) rfl (by first | exact K.Base.le.refl _ | assumption) (H' := []) rfl ⟨rfl, rfl, rfl⟩
      · skip
        refine K.s_pureE (K.p_indexB hb (Fx.und rfl) (Fx.sz rfl) rfl rfl (by omega) hc0) rfl ?_
        rintro v2 ⟨b2, o2, rfl, hcel2⟩
        have hcel2' := hcel2.up (K := F)
        unfold K.u8 at hcel2'
        (repeat' (first | refine X.rq ?_ | (refine X.rc ?_ ?_ <;> intro hc <;> first | (exfalso; omega) | skip)))
        · rw [front_bad hge (fun c' e => by rw [hc1] at e; cases e; omega) (by rw [badEnd, hc1]; dsimp only; omega)]
          refine K.done (by first | exact Or.inl rfl | exact Or.inr rfl) rfl (by first | exact K.Base.le.refl _ | assumption) (H' := []) rfl ⟨rfl, rfl, rfl⟩
        · skip
          refine K.s_pureE (K.p_indexB hb (Fx.und rfl) (Fx.sz rfl) rfl rfl (by omega) hc0) rfl ?_
          rintro v2 ⟨b2, o2, rfl, hcel2⟩
          have hcel2' := hcel2.up (K := F)
          unfold K.u8 at hcel2'
          (repeat' (first | refine X.rq ?_ | (refine X.rc ?_ ?_ <;> intro hc <;> first | (exfalso; omega) | skip)))
          · rw [front_bad hge (fun c' e => by rw [hc1] at e; cases e; omega) (by rw [badEnd, hc1]; dsimp only; omega)]
            refine K.done (by first | exact Or.inl rfl | exact Or.inr rfl) rfl (by first | exact K.Base.le.refl _ | assumption) (H' := []) rfl ⟨rfl, rfl, rfl⟩
          · have hnb : ¬ badEnd 0 rem j := by rw [badEnd, hc1]; dsimp only; omega
            have hfr := front_good hge hc1 (by omega) hnb
            have hx64 := front_lt hfr
            rw [hfr]
            refine K.c_loop (σ := Nat) (fun r => [(0, .slice ao rem.length cp), (4, .int .i64 j), (5, .int .u64 (num7 ((rem.take (j + 1)).drop r) : Nat)), (6, .int .i64 ((r : Int) - 1))]) (fun _ => h) (fun _ => F) (fun r => r ≤ j + 1) (fun r => r) (j + 1) (Nat.le_refl _) ?_ rfl rfl ?_
            · have hd : num7 ((rem.take (j + 1)).drop (j + 1)) = 0 := by rw [List.drop_of_length_le (by simp; omega)]; rfl
              rw [hd, show (((j + 1 : Nat) : Int) - 1) = (j : Int) from by omega]
              exact (by repeat (first | exact K.Sub.nil _ | refine K.Sub.cons rfl ?_))
            rintro r hr KM hKM
            by_cases h0 : r = 0
            · subst h0
              (repeat' (first | refine X.rq ?_ | (refine X.rc ?_ ?_ <;> intro hc <;> first | (exfalso; omega) | skip)))
              rw [List.drop_zero]
              refine K.done (by first | exact Or.inl rfl | exact Or.inr rfl) rfl (by first | exact K.Base.le.refl _ | assumption) (H' := []) rfl ⟨rfl, rfl, rfl⟩
            · obtain ⟨i, rfl⟩ : ∃ i, r = i + 1 := ⟨r - 1, by omega⟩
              have hil : i < rem.length := by omega
              have hi0 : rem[((i : Nat) : Int).toNat]? = some rem[i] := by simp [hil]
              have hi1 : rem[i]? = some rem[i] := by simp [hil]
              have hdr := num7_take hi1 (j + 1) (by omega)
              have hle := num7_drop_le (rem.take (j + 1)) i
              generalize rem[i] = d at hi0 hi1 hdr
              have hdl := d.toNat_lt
              rw [show (((i + 1 : Nat) : Int) - 1) = (i : Int) from by omega]
              (repeat' (first | refine X.rq ?_ | (refine X.rc ?_ ?_ <;> intro hc <;> first | (exfalso; omega) | skip)))
              refine K.s_pureE (K.p_indexB hb (Fx.und rfl) (Fx.sz rfl) rfl rfl (by omega) hi0) rfl ?_
              rintro v3 ⟨b3, o3, rfl, hcel3⟩
              have hcel3' := hcel3.up (K := F)
              unfold K.u8 at hcel3'
              (repeat' (first | refine X.rq ?_ | (refine X.rc ?_ ?_ <;> intro hc <;> first | (exfalso; omega) | skip)))
              rw [show (128 * ((num7 ((rem.take (j + 1)).drop (i + 1)) : Nat) : Int) + (d.toNat : Int) % 128) = ((num7 ((rem.take (j + 1)).drop i) : Nat) : Int) from by rw [hdr]; omega]
              refine K.a_round hKM i (by omega) (by repeat (first | exact K.Sub.nil _ | refine K.Sub.cons rfl ?_)) rfl rfl (by omega)
      · skip
        refine K.s_pureE (K.p_indexB hb (Fx.und rfl) (Fx.sz rfl) rfl rfl (by omega) hc0) rfl ?_
        rintro v2 ⟨b2, o2, rfl, hcel2⟩
        have hcel2' := hcel2.up (K := F)
        unfold K.u8 at hcel2'
        (repeat' (first | refine X.rq ?_ | (refine X.rc ?_ ?_ <;> intro hc <;> first | (exfalso; omega) | skip)))
        · rw [front_bad hge (fun c' e => by rw [hc1] at e; cases e; omega) (by rw [badEnd, hc1]; dsimp only; omega)]
          refine K.done (by first | exact Or.inl rfl | exact Or.inr rfl) rfl (by first | exact K.Base.le.refl _ | assumption) (H' := []) rfl ⟨rfl, rfl, rfl⟩
        · have hnb : ¬ badEnd 0 rem j := by rw [badEnd, hc1]; dsimp only; omega
          have hfr := front_good hge hc1 (by omega) hnb
          have hx64 := front_lt hfr
          rw [hfr]
          refine K.c_loop (σ := Nat) (fun r => [(0, .slice ao rem.length cp), (4, .int .i64 j), (5, .int .u64 (num7 ((rem.take (j + 1)).drop r) : Nat)), (6, .int .i64 ((r : Int) - 1))]) (fun _ => h) (fun _ => F) (fun r => r ≤ j + 1) (fun r => r) (j + 1) (Nat.le_refl _) ?_ rfl rfl ?_
          · have hd : num7 ((rem.take (j + 1)).drop (j + 1)) = 0 := by rw [List.drop_of_length_le (by simp; omega)]; rfl
            rw [hd, show (((j + 1 : Nat) : Int) - 1) = (j : Int) from by omega]
            exact (by repeat (first | exact K.Sub.nil _ | refine K.Sub.cons rfl ?_))
          rintro r hr KM hKM
          by_cases h0 : r = 0
          · subst h0
            (repeat' (first | refine X.rq ?_ | (refine X.rc ?_ ?_ <;> intro hc <;> first | (exfalso; omega) | skip)))
            rw [List.drop_zero]
            refine K.done (by first | exact Or.inl rfl | exact Or.inr rfl) rfl (by first | exact K.Base.le.refl _ | assumption) (H' := []) rfl ⟨rfl, rfl, rfl⟩
          · obtain ⟨i, rfl⟩ : ∃ i, r = i + 1 := ⟨r - 1, by omega⟩
            have hil : i < rem.length := by omega
            have hi0 : rem[((i : Nat) : Int).toNat]? = some rem[i] := by simp [hil]
            have hi1 : rem[i]? = some rem[i] := by simp [hil]
            have hdr := num7_take hi1 (j + 1) (by omega)
            have hle := num7_drop_le (rem.take (j + 1)) i
            generalize rem[i] = d at hi0 hi1 hdr
            have hdl := d.toNat_lt
            rw [show (((i + 1 : Nat) : Int) - 1) = (i : Int) from by omega]
            (repeat' (first | refine X.rq ?_ | (refine X.rc ?_ ?_ <;> intro hc <;> first | (exfalso; omega) | skip)))
            refine K.s_pureE (K.p_indexB hb (Fx.und rfl) (Fx.sz rfl) rfl rfl (by omega) hi0) rfl ?_
            rintro v3 ⟨b3, o3, rfl, hcel3⟩
            have hcel3' := hcel3.up (K := F)
            unfold K.u8 at hcel3'
            (repeat' (first | refine X.rq ?_ | (refine X.rc ?_ ?_ <;> intro hc <;> first | (exfalso; omega) | skip)))
            rw [show (128 * ((num7 ((rem.take (j + 1)).drop (i + 1)) : Nat) : Int) + (d.toNat : Int) % 128) = ((num7 ((rem.take (j + 1)).drop i) : Nat) : Int) from by rw [hdr]; omega]
            refine K.a_round hKM i (by omega) (by repeat (first | exact K.Sub.nil _ | refine K.Sub.cons rfl ?_)) rfl rfl (by omega)
      · have hnb : ¬ badEnd 0 rem j := by rw [badEnd, hc1]; dsimp only; omega
        have hfr := front_good hge hc1 (by omega) hnb
        have hx64 := front_lt hfr
        rw [hfr]
        refine K.c_loop (σ := Nat) (fun r => [(0, .slice ao rem.length cp), (4, .int .i64 j), (5, .int .u64 (num7 ((rem.take (j + 1)).drop r) : Nat)), (6, .int .i64 ((r : Int) - 1))]) (fun _ => h) (fun _ => F) (fun r => r ≤ j + 1) (fun r => r) (j + 1) (Nat.le_refl _) ?_ rfl rfl ?_
        · have hd : num7 ((rem.take (j + 1)).drop (j + 1)) = 0 := by rw [List.drop_of_length_le (by simp; omega)]; rfl
          rw [hd, show (((j + 1 : Nat) : Int) - 1) = (j : Int) from by omega]
          exact (by repeat (first | exact K.Sub.nil _ | refine K.Sub.cons rfl ?_))
        rintro r hr KM hKM
        by_cases h0 : r = 0
        · subst h0
          (repeat' (first | refine X.rq ?_ | (refine X.rc ?_ ?_ <;> intro hc <;> first | (exfalso; omega) | skip)))
          rw [List.drop_zero]
          refine K.done (by first | exact Or.inl rfl | exact Or.inr rfl) rfl (by first | exact K.Base.le.refl _ | assumption) (H' := []) rfl ⟨rfl, rfl, rfl⟩
        · obtain ⟨i, rfl⟩ : ∃ i, r = i + 1 := ⟨r - 1, by omega⟩
          have hil : i < rem.length := by omega
          have hi0 : rem[((i : Nat) : Int).toNat]? = some rem[i] := by simp [hil]
          have hi1 : rem[i]? = some rem[i] := by simp [hil]
          have hdr := num7_take hi1 (j + 1) (by omega)
          have hle := num7_drop_le (rem.take (j + 1)) i
          generalize rem[i] = d at hi0 hi1 hdr
          have hdl := d.toNat_lt
          rw [show (((i + 1 : Nat) : Int) - 1) = (i : Int) from by omega]
          (repeat' (first | refine X.rq ?_ | (refine X.rc ?_ ?_ <;> intro hc <;> first | (exfalso; omega) | skip)))
          refine K.s_pureE (K.p_indexB hb (Fx.und rfl) (Fx.sz rfl) rfl rfl (by omega) hi0) rfl ?_
          rintro v3 ⟨b3, o3, rfl, hcel3⟩
          have hcel3' := hcel3.up (K := F)
          unfold K.u8 at hcel3'
          (repeat' (first | refine X.rq ?_ | (refine X.rc ?_ ?_ <;> intro hc <;> first | (exfalso; omega) | skip)))
          rw [show (128 * ((num7 ((rem.take (j + 1)).drop (i + 1)) : Nat) : Int) + (d.toNat : Int) % 128) = ((num7 ((rem.take (j + 1)).drop i) : Nat) : Int) from by rw [hdr]; omega]
          refine K.a_round hKM i (by omega) (by repeat (first | exact K.Sub.nil _ | refine K.Sub.cons rfl ?_)) rfl rfl (by omega)
  · obtain rfl : j = rem.length := by omega
    have hnn : rem[rem.length]? = none := by simp
    (repeat' (first | refine X.rq ?_ | (refine X.rc ?_ ?_ <;> intro hc <;> first | (exfalso; omega) | skip)))
    rw [front_bad hge (fun c' e => by rw [hnn] at e; cases e) (by rw [badEnd, hnn]; trivial)]
    refine K.done (by first | exact Or.inl rfl | exact Or.inr rfl) rfl (by first | exact K.Base.le.refl _ | assumption) (H' := []) rfl ⟨rfl, rfl, rfl⟩
theorem Q_Uint (h : Base) (p : Nat) (sv : Value) (ok : Bool) (rem : List UInt8) (hb : BV h sv rem) (hl : rem.length ≤ big) :
    Tr Try.prog 79 [qv p] h [qA p sv (!ok)] (QPost h p (found ok rem).isSome (uRem (found ok rem) rem) (· = .int .u64 (uN (found ok rem) : Nat))) := by
  have hl0 := hl
  unfold big at hl
  obtain ⟨ao, cp, rfl⟩ := hb.len
  refine K.enter Try.func79 rfl (Nat.le_of_ble_eq_true rfl) (fun F => ?_)
  simp only [qv, qA, List.cons_append, List.nil_append]
  (repeat' (first | refine X.rq ?_ | (refine X.rc ?_ ?_ <;> intro hc <;> first | (exfalso; omega) | skip)))
  refine K.l_callV (Fx.cal rfl) rfl (Q_Front h _ rem hb hl0) (K.pp [] rfl) rfl rfl ?_
  cases ok with
  | false =>
    have e : found false rem = none := rfl
    rw [e]
    cases hf : front rem with
    | none =>
      simp only [frontV, Bool.not_false]
      (repeat' (first | refine X.rq ?_ | (refine X.rc ?_ ?_ <;> intro hc <;> first | (exfalso; omega) | skip)))
      refine X.sto ?_
      (repeat' (first | refine X.rq ?_ | (refine X.rc ?_ ?_ <;> intro hc <;> first | (exfalso; omega) | skip)))
      refine K.done (by first | exact Or.inl rfl | exact Or.inr rfl) rfl (by first | exact K.Base.le.refl _ | assumption) (H' := [qA p _ true]) rfl ⟨rfl, rfl, _, hb, rfl⟩
    | some xm =>
      obtain ⟨x, m⟩ := xm
      simp only [frontV, Bool.not_false]
      (repeat' (first | refine X.rq ?_ | (refine X.rc ?_ ?_ <;> intro hc <;> first | (exfalso; omega) | skip)))
      refine X.sto ?_
      (repeat' (first | refine X.rq ?_ | (refine X.rc ?_ ?_ <;> intro hc <;> first | (exfalso; omega) | skip)))
      refine K.done (by first | exact Or.inl rfl | exact Or.inr rfl) rfl (by first | exact K.Base.le.refl _ | assumption) (H' := [qA p _ true]) rfl ⟨rfl, rfl, _, hb, rfl⟩
  | true =>
    have e : found true rem = front rem := rfl
    rw [e]
    cases hf : front rem with
    | none =>
      simp only [frontV, Bool.not_true]
      (repeat' (first | refine X.rq ?_ | (refine X.rc ?_ ?_ <;> intro hc <;> first | (exfalso; omega) | skip)))
      refine X.sto ?_
      (repeat' (first | refine X.rq ?_ | (refine X.rc ?_ ?_ <;> intro hc <;> first | (exfalso; omega) | skip)))
      refine K.done (by first | exact Or.inl rfl | exact Or.inr rfl) rfl (by first | exact K.Base.le.refl _ | assumption) (H' := [qA p _ true]) rfl ⟨rfl, rfl, _, hb, rfl⟩
    | some xm =>
      obtain ⟨x, m⟩ := xm
      obtain ⟨h1, h2, h3⟩ := front_le hf
      simp only [frontV, Bool.not_true]
      (repeat' (first | refine X.rq ?_ | (refine X.rc ?_ ?_ <;> intro hc <;> first | (exfalso; omega) | skip)))
      refine K.s_pureE (K.p_sliceB (k1 := .i64) (k2 := .i64) (p := m) (q := rem.length) hb (Fx.und rfl) (Fx.sz rfl) rfl ⟨_, rfl, rfl⟩ rfl h2 (Nat.le_refl _)) rfl ?_
      rintro sv' hb'
      rw [List.take_length] at hb'
      obtain ⟨ao', c', rfl⟩ := hb'.len
      (repeat' (first | refine X.rq ?_ | (refine X.rc ?_ ?_ <;> intro hc <;> first | (exfalso; omega) | skip)))
      refine X.sto ?_
      (repeat' (first | refine X.rq ?_ | (refine X.rc ?_ ?_ <;> intro hc <;> first | (exfalso; omega) | skip)))
      refine K.done (by first | exact Or.inl rfl | exact Or.inr rfl) rfl (by first | exact K.Base.le.refl _ | assumption) (H' := [qA p _ false]) rfl ⟨rfl, rfl, _, hb', rfl⟩

theorem Tr.mono {P : Program} {f : FuncId} {args : List Value} {h : Base} {Pre : List Asrt} {Post Post' : Value → Base → List Asrt → Prop} (ht : Tr P f args h Pre Post)
    (hk : ∀ v h' H', h.le h' → Post v h' H' → ∀ F w, Ok h' (H' ++ F) w → ∃ H'', Post' v h' H'' ∧ Ok h' (H'' ++ F) w) : Tr P f args h Pre Post' :=
  fun F w ok => Calls.mono (ht F w ok) fun e w' ⟨v, he, h', H', hle, hp, ok'⟩ => by
    obtain ⟨H'', hp', ok''⟩ := hk v h' H' hle hp F w' ok'
    exact ⟨v, he, h', H'', hle, hp', ok''⟩

/-- What Take answers. -/
def tk (ok : Bool) (rem : List UInt8) (m : Int) : List UInt8 := if ok = true ∧ 0 ≤ m ∧ m ≤ rem.length then rem.take m.toNat else []
def tkOk (ok : Bool) (rem : List UInt8) (m : Int) : Bool := ok && decide (0 ≤ m ∧ m ≤ rem.length)
def tkRem (ok : Bool) (rem : List UInt8) (m : Int) : List UInt8 := if ok = true ∧ 0 ≤ m ∧ m ≤ rem.length then rem.drop m.toNat else rem

theorem Q_Take (h : Base) (p : Nat) (sv : Value) (ok : Bool) (rem : List UInt8) (m : Int) (hb : BV h sv rem) (hl : rem.length ≤ big) (hm1 : -9223372036854775808 ≤ m) (hm2 : m ≤ 9223372036854775807) :
    Tr Try.prog 78 [qv p, .int .i64 m] h [qA p sv (!ok)] (fun v h' H' => h = h' ∧ ∃ a cap sv', v = bufV a (tk ok rem m).length cap ∧ BV h sv' (tkRem ok rem m) ∧ H' = [bufA 5 1 a (tk ok rem m).length cap ((tk ok rem m).map u8), qA p sv' (!(tkOk ok rem m))]) := by
  by_cases hc : ok = true ∧ 0 ≤ m ∧ m ≤ rem.length
  · have e3 : tkOk ok rem m = true := by simp [tkOk, hc]
    rw [tk, tkRem, if_pos hc, if_pos hc, e3]
    obtain ⟨rfl, h1, h2⟩ := hc
    obtain ⟨k, rfl⟩ := Int.eq_ofNat_of_zero_le h1
    rw [Int.toNat_natCast, show (rem.take k).length = k from by simp; omega]
    refine Tr.mono (Q_take h p sv rem k hb hl (by omega)) ?_
    rintro v h' H' - ⟨rfl, a, cap, sv', rfl, hb', rfl⟩ F w ok
    exact ⟨_, ⟨rfl, a, cap, sv', rfl, hb', rfl⟩, ok⟩
  · have e3 : tkOk ok rem m = false := by
      unfold tkOk
      cases ok with
      | false => rfl
      | true => rw [Bool.true_and]; exact decide_eq_false fun e => hc ⟨rfl, e⟩
    rw [tk, tkRem, if_neg hc, if_neg hc, e3]
    refine Tr.mono (Q_take_no h p sv ok rem m hb hl hm1 hm2 (by
      cases ok with
      | false => exact .inl rfl
      | true =>
        have : ¬ (0 ≤ m ∧ m ≤ (rem.length : Int)) := fun e => hc ⟨rfl, e⟩
        right; omega)) ?_
    rintro v h' H' - ⟨rfl, rfl, sv', hb', rfl⟩ F w ok
    exact ⟨_, ⟨rfl, none, 0, sv', rfl, hb', rfl⟩, ok.nilBuf⟩

theorem Q_Text (h : Base) (p : Nat) (sv : Value) (ok : Bool) (rem : List UInt8) (most : Int) (hb : BV h sv rem) (hl : rem.length ≤ big) (hm1 : -9223372036854775808 ≤ most) (hm2 : most ≤ 9223372036854775807) :
    Tr Try.prog 80 [qv p, .int .i64 most] h [qA p sv (!ok)] (QPost h p (txt ok rem most).isSome (txtRem (txt ok rem most) rem) (· = .string ⟨(txtV (txt ok rem most) rem).toArray⟩)) := by
  have hl0 := hl
  unfold big at hl
  obtain ⟨ao, cp, rfl⟩ := hb.len
  refine K.enter Try.func80 rfl (Nat.le_of_ble_eq_true rfl) (fun F => ?_)
  simp only [qv, qA, List.cons_append, List.nil_append]
  (repeat' (first | refine X.rq ?_ | (refine X.rc ?_ ?_ <;> intro hc <;> first | (exfalso; omega) | skip)))
  refine K.l_callV (Fx.cal rfl) rfl (Q_Front h _ rem hb hl0) (K.pp [] rfl) rfl rfl ?_
  cases ok with
  | false =>
    have e : txt false rem most = none := rfl
    rw [e]
    cases hf : front rem with
    | none =>
      simp only [frontV, Bool.not_false]
      (repeat' (first | refine X.rq ?_ | (refine X.rc ?_ ?_ <;> intro hc <;> first | (exfalso; omega) | skip)))
      refine X.sto ?_
      (repeat' (first | refine X.rq ?_ | (refine X.rc ?_ ?_ <;> intro hc <;> first | (exfalso; omega) | skip)))
      refine K.done (by first | exact Or.inl rfl | exact Or.inr rfl) rfl (by first | exact K.Base.le.refl _ | assumption) (H' := [qA p _ true]) rfl ⟨rfl, rfl, _, hb, rfl⟩
    | some xm =>
      obtain ⟨x, m⟩ := xm
      simp only [frontV, Bool.not_false]
      (repeat' (first | refine X.rq ?_ | (refine X.rc ?_ ?_ <;> intro hc <;> first | (exfalso; omega) | skip)))
      refine X.sto ?_
      (repeat' (first | refine X.rq ?_ | (refine X.rc ?_ ?_ <;> intro hc <;> first | (exfalso; omega) | skip)))
      refine K.done (by first | exact Or.inl rfl | exact Or.inr rfl) rfl (by first | exact K.Base.le.refl _ | assumption) (H' := [qA p _ true]) rfl ⟨rfl, rfl, _, hb, rfl⟩
  | true =>
    have ef : found true rem = front rem := rfl
    cases hf : front rem with
    | none =>
      have e : txt true rem most = none := by simp only [txt, ef, hf]
      rw [e]
      simp only [frontV, Bool.not_true]
      (repeat' (first | refine X.rq ?_ | (refine X.rc ?_ ?_ <;> intro hc <;> first | (exfalso; omega) | skip)))
      refine X.sto ?_
      (repeat' (first | refine X.rq ?_ | (refine X.rc ?_ ?_ <;> intro hc <;> first | (exfalso; omega) | skip)))
      refine K.done (by first | exact Or.inl rfl | exact Or.inr rfl) rfl (by first | exact K.Base.le.refl _ | assumption) (H' := [qA p _ true]) rfl ⟨rfl, rfl, _, hb, rfl⟩
    | some xm =>
      obtain ⟨x, m⟩ := xm
      obtain ⟨h1, h2, h3⟩ := front_le hf
      have h4 := front_lt hf
      simp only [frontV, Bool.not_true]
      by_cases hq : 0 ≤ most ∧ (x : Int) ≤ most ∧ x + m ≤ rem.length
      · have e : txt true rem most = some (x, m) := by simp only [txt, ef, hf]; rw [if_pos hq]
        rw [e]
        obtain ⟨q1, q2, q3⟩ := hq
        (repeat' (first | refine X.rq ?_ | (refine X.rc ?_ ?_ <;> intro hc <;> first | (exfalso; omega) | skip)))
        refine K.s_pureE (K.p_sliceB (k1 := .i64) (k2 := .i64) (p := m) (q := rem.length) hb (Fx.und rfl) (Fx.sz rfl) rfl ⟨_, rfl, rfl⟩ rfl h2 (Nat.le_refl _)) rfl ?_
        rintro sv' hb'
        rw [List.take_length] at hb'
        obtain ⟨ao', c', rfl⟩ := hb'.len
        (repeat' (first | refine X.rq ?_ | (refine X.rc ?_ ?_ <;> intro hc <;> first | (exfalso; omega) | skip)))
        refine X.sto ?_
        (repeat' (first | refine X.rq ?_ | (refine X.rc ?_ ?_ <;> intro hc <;> first | (exfalso; omega) | skip)))
        refine K.l_call (vals := [qv p, .int .i64 (x : Nat)]) (Fx.cal rfl) rfl (Q_take h p _ (rem.drop m) x hb' (by unfold big; simp; omega) (by simp; omega)) (K.pp [0] rfl) rfl ?_
        rintro v h' H' - ⟨rfl, a, cap, sv2, rfl, hb2, rfl⟩
        (repeat' (first | refine X.rq ?_ | (refine X.rc ?_ ?_ <;> intro hc <;> first | (exfalso; omega) | skip)))
        refine K.AT.drop ?_
        refine K.done (by first | exact Or.inl rfl | exact Or.inr rfl) rfl (by first | exact K.Base.le.refl _ | assumption) (H' := [qA p _ false]) rfl ⟨rfl, rfl, _, hb2, rfl⟩
      · have e : txt true rem most = none := by simp only [txt, ef, hf]; rw [if_neg hq]
        rw [e]
        by_cases hneg : most < 0
        · (repeat' (first | refine X.rq ?_ | (refine X.rc ?_ ?_ <;> intro hc <;> first | (exfalso; omega) | skip)))
          refine X.sto ?_
          (repeat' (first | refine X.rq ?_ | (refine X.rc ?_ ?_ <;> intro hc <;> first | (exfalso; omega) | skip)))
          refine K.done (by first | exact Or.inl rfl | exact Or.inr rfl) rfl (by first | exact K.Base.le.refl _ | assumption) (H' := [qA p _ true]) rfl ⟨rfl, rfl, _, hb, rfl⟩
        · have hq' : (most < x) ∨ rem.length < x + m := by omega
          (repeat' (first | refine X.rq ?_ | (refine X.rc ?_ ?_ <;> intro hc <;> first | (exfalso; omega) | skip)))
          all_goals
            refine X.sto ?_
            (repeat' (first | refine X.rq ?_ | (refine X.rc ?_ ?_ <;> intro hc <;> first | (exfalso; omega) | skip)))
            refine K.done (by first | exact Or.inl rfl | exact Or.inr rfl) rfl (by first | exact K.Base.le.refl _ | assumption) (H' := [qA p _ true]) rfl ⟨rfl, rfl, _, hb, rfl⟩
theorem R_Raw' (h : Base) (s : Option RS) (ok : Bool) (rem : List UInt8) (m : Int) (hr : Rd h s ok rem) (hl : rem.length ≤ big) (hm1 : -9223372036854775808 ≤ m) (hm2 : m ≤ 9223372036854775807) :
    Tr Try.prog 91 [rv s, .int .i64 m] h [rA s] (fun v h' H' => h = h' ∧ ∃ a cap s', v = bufV a (tk ok rem m).length cap ∧ same s s' ∧ Rd h s' (tkOk ok rem m) (tkRem ok rem m) ∧
      H' = [bufA 5 1 a (tk ok rem m).length cap ((tk ok rem m).map u8), rA s']) := R_Raw h s ok rem m hr hl hm1 hm2
end Go.Proofs.Ytihambjhlhgaeaa.Rb
