/-
  A page read of bytes, plainly. Conditions: each theorem's own.
-/
import Derived.Test.YtihambjhlhgaeaaFo
import Derived.Test.YtihambjhlhgaeaaRb

namespace Go.Proofs.Ytihambjhlhgaeaa.Pg
open Go Go.K Go.Proofs Go.Proofs.Ytihambjhlhgaeaa Go.Proofs.Ytihambjhlhgaeaa.Cc Go.Proofs.Ytihambjhlhgaeaa.Rb
set_option linter.unusedVariables false
set_option linter.unusedSimpArgs false
set_option maxRecDepth 10000

def zPd : Pag := ⟨0, 0, 0, []⟩
theorem wf_zPd : wfP zPd := ⟨by decide, by decide, by decide, by decide⟩
/-- A reader: whether it reads still, what is left. -/
abbrev Rt := Bool × List UInt8
def num (m : Nat) (r : Rt) : Nat := getN r.1 m r.2
def nxt (m : Nat) (r : Rt) : Rt := (getOk r.1 m r.2, getRem r.1 m r.2)
def cellQ (r : Rt) : PCell × Rt := if num 2 r = 0 then (⟨false, 0, []⟩, nxt 2 r) else
  (⟨true, num 4 (nxt 2 r), tk (nxt 4 (nxt 2 r)).1 (nxt 4 (nxt 2 r)).2 (num 2 r : Nat)⟩, (tkOk (nxt 4 (nxt 2 r)).1 (nxt 4 (nxt 2 r)).2 (num 2 r : Nat), tkRem (nxt 4 (nxt 2 r)).1 (nxt 4 (nxt 2 r)).2 (num 2 r : Nat)))
def cellsR : Nat → Rt → List PCell × Rt
  | 0, r => ([], r)
  | n + 1, r => if r.1 = true then ((cellQ r).1 :: (cellsR n (cellQ r).2).1, (cellsR n (cellQ r).2).2) else ([], r)
def readQ (r : Rt) : Pag × Rt :=
  (⟨(num 1 r : Nat), num 8 (nxt 1 (nxt 1 r)), num 4 (nxt 8 (nxt 1 (nxt 1 r))), (cellsR (num 1 (nxt 1 r)) (nxt 4 (nxt 8 (nxt 1 (nxt 1 r))))).1⟩, (cellsR (num 1 (nxt 1 r)) (nxt 4 (nxt 8 (nxt 1 (nxt 1 r))))).2)

theorem num_lt (m : Nat) (r : Rt) : num m r < 256 ^ m := by
  unfold num getN
  split
  · rename_i h
    have := leNum_lt (r.2.take m)
    rwa [show (r.2.take m).length = m by simp; omega] at this
  · exact Nat.pow_pos (by decide)
theorem nxt_ok {m : Nat} {r : Rt} (h : (nxt m r).1 = true) : r.1 = true ∧ r.2 = lebs (num m r) m ++ (nxt m r).2 := by
  obtain ⟨ok, rem⟩ := r
  simp only [nxt, getOk, Bool.and_eq_true, decide_eq_true_eq] at h
  obtain ⟨rfl, hm⟩ := h
  refine ⟨rfl, ?_⟩
  simp only [num, nxt, getN, getRem, true_and, if_pos hm]
  have := lebs_leNum (rem.take m)
  rw [show (rem.take m).length = m by simp; omega] at this
  rw [this, List.take_append_drop]
theorem nxt_app {m x : Nat} {rest : List UInt8} (h : x < 256 ^ m) : num m (true, lebs x m ++ rest) = x ∧ nxt m (true, lebs x m ++ rest) = (true, rest) := by
  have hl := lebs_length m x
  have h1 : (lebs x m ++ rest).take m = lebs x m := by rw [List.take_append_of_le_length (by omega), List.take_of_length_le (by omega)]
  have h2 : (lebs x m ++ rest).drop m = rest := by rw [List.drop_append_of_le_length (by omega), List.drop_of_length_le (by omega), List.nil_append]
  have h3 : m ≤ (lebs x m ++ rest).length := by rw [List.length_append]; omega
  refine ⟨?_, ?_⟩
  · simp only [num, getN, true_and, if_pos h3, h1]
    exact leNum_lebs m x h
  · simp only [nxt, getOk, getRem, true_and, if_pos h3, h2, Bool.true_and, decide_eq_true h3]
theorem cellQ_ok {r : Rt} (h : (cellQ r).2.1 = true) : r.1 = true ∧ r.2 = byC (cellQ r).1 ++ (cellQ r).2.2 := by
  unfold cellQ at h ⊢
  split at h
  · rename_i h0
    obtain ⟨a, b⟩ := nxt_ok h
    rw [if_pos h0]
    refine ⟨a, ?_⟩
    rw [h0] at b
    simpa [byC] using b
  · rename_i h0
    rw [if_neg h0]
    simp only [tkOk, Bool.and_eq_true, decide_eq_true_eq] at h
    obtain ⟨h1, h2, h3⟩ := h
    obtain ⟨a1, b1⟩ := nxt_ok h1
    obtain ⟨a2, b2⟩ := nxt_ok a1
    refine ⟨a2, ?_⟩
    have hc : (nxt 4 (nxt 2 r)).1 = true ∧ (0 : Int) ≤ (num 2 r : Nat) ∧ ((num 2 r : Nat) : Int) ≤ (nxt 4 (nxt 2 r)).2.length := ⟨h1, h2, h3⟩
    simp only [tk, tkRem, if_pos hc, Int.toNat_natCast, byC]
    have hl : ((nxt 4 (nxt 2 r)).2.take (num 2 r)).length = num 2 r := by simp; omega
    simp only [hl, if_true]
    rw [List.append_assoc, List.append_assoc, List.take_append_drop, ← b1, ← b2]
theorem cellsR_ok : ∀ (n : Nat) (r : Rt), (cellsR n r).2.1 = true → r.1 = true ∧ r.2 = cellsB (cellsR n r).1 ++ (cellsR n r).2.2 ∧ (cellsR n r).1.length = n
  | 0, r, h => ⟨h, rfl, rfl⟩
  | n + 1, r, h => by
    unfold cellsR at h ⊢
    split at h
    · rename_i h0
      rw [if_pos h0]
      obtain ⟨a, b, c⟩ := cellsR_ok n _ h
      obtain ⟨_, e⟩ := cellQ_ok a
      refine ⟨h0, ?_, by rw [List.length_cons, c]⟩
      show r.2 = cellsB ((cellQ r).1 :: _) ++ _
      unfold cellsB at b ⊢
      rw [List.flatMap_cons, List.append_assoc, ← b, ← e]
    · rename_i h0
      exact absurd h h0
theorem cellsR_small : ∀ (n : Nat) (r : Rt), (cellsR n r).1.length ≤ n ∧ ∀ x ∈ (cellsR n r).1, x.killer < 4294967296 ∧ x.data.length ≤ 65535
  | 0, r => ⟨Nat.le_refl _, fun x hx => by cases hx⟩
  | n + 1, r => by
    unfold cellsR
    split
    · obtain ⟨a, b⟩ := cellsR_small n (cellQ r).2
      refine ⟨by rw [List.length_cons]; omega, fun x hx => ?_⟩
      rcases List.mem_cons.1 hx with rfl | hx
      · unfold cellQ
        split
        · exact ⟨show (0 : Nat) < 4294967296 by decide, Nat.zero_le _⟩
        · refine ⟨num_lt 4 _, ?_⟩
          have := num_lt 2 r
          show (tk _ _ _).length ≤ _
          unfold tk
          split
          · rw [List.length_take, Int.toNat_natCast]; omega
          · exact Nat.zero_le _
      · exact b x hx
    · exact ⟨Nat.zero_le _, fun x hx => by cases hx⟩
theorem readQ_ok {r : Rt} (h : (readQ r).2.1 = true) : r.2 = bodyB (readQ r).1 ++ (readQ r).2.2 := by
  unfold readQ at h ⊢
  dsimp only at h ⊢
  obtain ⟨a, b, c⟩ := cellsR_ok _ _ h
  obtain ⟨a1, b1⟩ := nxt_ok a
  obtain ⟨a2, b2⟩ := nxt_ok a1
  obtain ⟨a3, b3⟩ := nxt_ok a2
  obtain ⟨a4, b4⟩ := nxt_ok a3
  unfold bodyB
  dsimp only
  rw [c, Int.toNat_natCast]
  simp only [List.append_assoc]
  rw [← b, ← b1, ← b2, ← b3, ← b4]
theorem readQ_wf (r : Rt) : wfP (readQ r).1 := by
  have h1 := num_lt 1 r
  have h2 := (cellsR_small (num 1 (nxt 1 r)) (nxt 4 (nxt 8 (nxt 1 (nxt 1 r))))).1
  have h3 := num_lt 1 (nxt 1 r)
  refine ⟨?_, num_lt 8 _, num_lt 4 _, ?_⟩
  · show in64 ((num 1 r : Nat) : Int)
    unfold in64; omega
  · show (cellsR _ _).1.length ≤ _
    omega
theorem readQ_small (r : Rt) : (readQ r).1.cells.length ≤ 255 ∧ ∀ x ∈ (readQ r).1.cells, x.killer < 4294967296 ∧ x.data.length ≤ 65535 := by
  have h2 := cellsR_small (num 1 (nxt 1 r)) (nxt 4 (nxt 8 (nxt 1 (nxt 1 r))))
  have h3 := num_lt 1 (nxt 1 r)
  exact ⟨by show (cellsR _ _).1.length ≤ _; omega, h2.2⟩
theorem cellQ_app {x : PCell} {rest : List UInt8} (ho : okCell x) (hk : x.killer < 4294967296) : cellQ (true, byC x ++ rest) = (x, (true, rest)) := by
  obtain ⟨u, k, d⟩ := x
  unfold cellQ byC
  cases u with
  | false =>
    obtain ⟨e1, e2⟩ := ho.2 rfl
    dsimp only at e1 e2 ⊢
    obtain rfl := List.eq_nil_of_length_eq_zero e2
    subst e1
    obtain ⟨p, q⟩ := nxt_app (m := 2) (x := 0) (rest := rest) (by decide)
    have hz : (List.length ([] : List UInt8)) = 0 := rfl
    simp only [hz, Bool.false_eq_true, if_false, List.append_nil, p, q, if_true]
  | true =>
    have hd := ho.1 rfl
    dsimp only at hd hk ⊢
    obtain ⟨p, q⟩ := nxt_app (m := 2) (x := d.length) (rest := lebs k 4 ++ (d ++ rest)) (by omega)
    obtain ⟨p2, q2⟩ := nxt_app (m := 4) (x := k) (rest := d ++ rest) (by omega)
    simp only [if_true, List.append_assoc, p, q, p2, q2]
    rw [if_neg (by omega)]
    have hc : (true = true) ∧ (0 : Int) ≤ (d.length : Nat) ∧ ((d.length : Nat) : Int) ≤ (d ++ rest).length := ⟨rfl, by omega, by rw [List.length_append]; omega⟩
    have hc2 : (0 : Int) ≤ (d.length : Nat) ∧ ((d.length : Nat) : Int) ≤ (d ++ rest).length := hc.2
    simp only [tk, tkRem, tkOk, true_and, if_pos hc2, Int.toNat_natCast, decide_eq_true hc2, Bool.true_and, List.take_left, List.drop_left]
theorem cellsR_app : ∀ (l : List PCell) (rest : List UInt8), (∀ x ∈ l, okCell x ∧ x.killer < 4294967296) → cellsR l.length (true, cellsB l ++ rest) = (l, (true, rest))
  | [], rest, _ => rfl
  | x :: l, rest, h => by
    obtain ⟨a, b⟩ := h x (List.mem_cons_self ..)
    have e : cellsB (x :: l) ++ rest = byC x ++ (cellsB l ++ rest) := by unfold cellsB; rw [List.flatMap_cons, List.append_assoc]
    show cellsR (l.length + 1) _ = _
    unfold cellsR
    rw [if_pos rfl, e, cellQ_app a b, cellsR_app l rest fun y hy => h y (List.mem_cons_of_mem _ hy)]
theorem readQ_app {p : Pag} {rest : List UInt8} (hm : mayQ p = true) (hw : wfP p) (hk : ∀ x ∈ p.cells, x.killer < 4294967296) : readQ (true, bodyB p ++ rest) = (p, (true, rest)) := by
  obtain ⟨h1, h2, _, _⟩ := (mayQ_iff p).1 hm
  obtain ⟨kind, lsn, next, cells⟩ := p
  have w2 := hw.lsn
  have w3 := hw.next
  dsimp only at h1 h2 w2 w3 hk
  obtain ⟨k, rfl⟩ := Int.eq_ofNat_of_zero_le (show 0 ≤ kind by omega)
  have hc := cellsR_app cells rest fun x hx => ⟨may_ok hm x hx, hk x hx⟩
  unfold bodyB readQ
  dsimp only
  rw [Int.toNat_natCast]
  simp only [List.append_assoc]
  obtain ⟨p1, q1⟩ := nxt_app (m := 1) (x := k) (rest := lebs cells.length 1 ++ (lebs lsn 8 ++ (lebs next 4 ++ (cellsB cells ++ rest)))) (by omega)
  obtain ⟨p2, q2⟩ := nxt_app (m := 1) (x := cells.length) (rest := lebs lsn 8 ++ (lebs next 4 ++ (cellsB cells ++ rest))) (by omega)
  obtain ⟨p3, q3⟩ := nxt_app (m := 8) (x := lsn) (rest := lebs next 4 ++ (cellsB cells ++ rest)) (by omega)
  obtain ⟨p4, q4⟩ := nxt_app (m := 4) (x := next) (rest := cellsB cells ++ rest) (by omega)
  rw [q1, q2, q3, q4, p1, p2, p3, p4, hc]

/-- The code's page of bytes, an error's number. -/
def decP (b : List UInt8) : Prop := b.length = 512 ∧ (readQ (nxt 4 (true, b))).2.1 = true ∧ num 4 (true, b) = sumQ 0 (b.drop 4) ∧ mayQ (readQ (nxt 4 (true, b))).1 = true ∧ ∀ c ∈ (readQ (nxt 4 (true, b))).2.2, c = 0
instance (b : List UInt8) : Decidable (decP b) := by unfold decP; infer_instance
def decQ (b : List UInt8) : Pag × Int := if decP b then ((readQ (nxt 4 (true, b))).1, 0) else (zPd, 5)
/-- The document's. -/
def rdecP (b : List UInt8) : Prop := b.length = 512 ∧ (readQ (true, b.drop 4)).2.1 = true ∧ (encQ (readQ (true, b.drop 4)).1).1 = b
instance (b : List UInt8) : Decidable (rdecP b) := by unfold rdecP; infer_instance
def rdecQ (b : List UInt8) : Pag × Bool := if rdecP b then ((readQ (true, b.drop 4)).1, true) else (zPd, false)
theorem nxt4 {b : List UInt8} (h : b.length = 512) : nxt 4 (true, b) = (true, b.drop 4) ∧ num 4 (true, b) = leNum (b.take 4) := by
  have h4 : 4 ≤ b.length := by omega
  simp only [nxt, num, getN, getOk, getRem, true_and, if_pos h4, Bool.true_and, decide_eq_true h4]
theorem zeros {l : List UInt8} (h : ∀ c ∈ l, c = 0) : l = List.replicate l.length 0 := List.eq_replicate_iff.2 ⟨rfl, h⟩
theorem dec_iff {b : List UInt8} : decP b ↔ rdecP b := by
  unfold decP rdecP
  constructor
  · rintro ⟨h1, h2, h3, h4, h5⟩
    obtain ⟨e1, e2⟩ := nxt4 h1
    rw [e1] at h2 h4 h5
    rw [e2] at h3
    refine ⟨h1, h2, ?_⟩
    have hb := readQ_ok h2
    dsimp only at hb
    generalize readQ (true, b.drop 4) = r at h2 h4 h5 hb ⊢
    unfold encQ
    rw [if_pos h4]
    have hl : (b.drop 4).length = 508 := by rw [List.length_drop, h1]
    have hp : padB r.1 = b.drop 4 := by
      unfold padB
      rw [hb, zeros h5] at hl ⊢
      rw [List.length_append, List.length_replicate] at hl
      rw [show 508 - (bodyB r.1).length = r.2.2.length by omega]
    show encB r.1 = b
    unfold encB
    rw [hp, ← h3]
    have := lebs_leNum (b.take 4)
    rw [show (b.take 4).length = 4 by simp; omega] at this
    rw [this, List.take_append_drop]
  · rintro ⟨h1, h2, h3⟩
    obtain ⟨e1, e2⟩ := nxt4 h1
    rw [e1, e2]
    have hb := readQ_ok h2
    dsimp only at hb
    generalize readQ (true, b.drop 4) = r at h2 h3 hb ⊢
    unfold encQ at h3
    by_cases hm : mayQ r.1 = true
    · rw [if_pos hm] at h3
      have h3 : encB r.1 = b := h3
      unfold encB at h3
      have hl := lebs_length 4 (sumQ 0 (padB r.1))
      have t4 : b.take 4 = lebs (sumQ 0 (padB r.1)) 4 := by rw [← h3, List.take_append_of_le_length (by omega), List.take_of_length_le (by omega)]
      have d4 : b.drop 4 = padB r.1 := by rw [← h3, List.drop_append_of_le_length (by omega), List.drop_of_length_le (by omega), List.nil_append]
      refine ⟨h1, h2, ?_, hm, ?_⟩
      · rw [t4, d4]
        exact leNum_lebs 4 _ (sumQ_lt (by decide) _)
      · rw [d4] at hb
        unfold padB at hb
        rw [← List.append_cancel_left hb]
        intro c hc
        exact (List.mem_replicate.1 hc).2
    · rw [if_neg hm] at h3
      have h3 : [] = b := h3
      rw [← h3] at h1; cases h1
theorem dec_eq (b : List UInt8) : rdecQ b = ((decQ b).1, decide ((decQ b).2 = 0)) := by
  unfold rdecQ decQ
  by_cases h : decP b
  · rw [if_pos h, if_pos (dec_iff.1 h), (nxt4 h.1).1]
    rfl
  · rw [if_neg h, if_neg (fun e => h (dec_iff.2 e))]
    rfl
theorem dec_cases (b : List UInt8) : (decP b ∧ (decQ b).2 = 0 ∧ mayQ (decQ b).1 = true ∧ encB (decQ b).1 = b) ∨ (¬ decP b ∧ decQ b = (zPd, 5)) := by
  by_cases h : decP b
  · refine .inl ⟨h, ?_⟩
    obtain ⟨_, _, h3⟩ := dec_iff.1 h
    unfold decQ
    rw [if_pos h]
    refine ⟨rfl, h.2.2.2.1, ?_⟩
    have hm := h.2.2.2.1
    rw [(nxt4 h.1).1] at hm ⊢
    unfold encQ at h3
    rw [if_pos hm] at h3
    exact h3
  · exact .inr ⟨h, by unfold decQ; rw [if_neg h]⟩
theorem enc_dec {p : Pag} (hm : mayQ p = true) (hw : wfP p) (hk : ∀ x ∈ p.cells, x.killer < 4294967296) : decQ (encB p) = (p, 0) := by
  have hl := encB_len hm
  have hd : (encB p).drop 4 = padB p := by
    unfold encB
    rw [List.drop_append_of_le_length (by rw [lebs_length]; omega), List.drop_of_length_le (by rw [lebs_length]; omega), List.nil_append]
  have hr : readQ (true, (encB p).drop 4) = (p, (true, List.replicate (508 - (bodyB p).length) 0)) := by
    rw [hd]
    unfold padB
    exact readQ_app hm hw hk
  have hP : rdecP (encB p) := by
    unfold rdecP
    rw [hr]
    refine ⟨hl, rfl, ?_⟩
    unfold encQ
    rw [if_pos hm]
  unfold decQ
  rw [if_pos (dec_iff.2 hP), (nxt4 hl).1, hr]
theorem enc_inj {p q : Pag} (hm : mayQ p = true) (hw : wfP p) (hk : ∀ x ∈ p.cells, x.killer < 4294967296) (hm2 : mayQ q = true) (hw2 : wfP q) (hk2 : ∀ x ∈ q.cells, x.killer < 4294967296) (h : encB p = encB q) : p = q := by
  have h1 := enc_dec hm hw hk
  rw [h, enc_dec hm2 hw2 hk2] at h1
  exact (congrArg Prod.fst h1).symm
end Go.Proofs.Ytihambjhlhgaeaa.Pg
