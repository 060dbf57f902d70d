/-
  JA: the texts Ht Hu Hx Hw Ia in one. Conditions: each theorem's own.
-/
import Derived.Test.YtihambjhlhgaeaaHs

/-! Records and their bytes, plainly: unlike records have unlike bytes, and none is the other's beginning. Conditions: each theorem's own. -/
namespace Go.Proofs.Ytihambjhlhgaeaa.Rc
open Go Go.K Go.Proofs Go.Proofs.Ytihambjhlhgaeaa Go.Proofs.Ytihambjhlhgaeaa.Pg Go.Proofs.Ytihambjhlhgaeaa.Cc Go.Proofs.Ytihambjhlhgaeaa.Rb
set_option linter.unusedVariables false
set_option linter.unusedSimpArgs false
set_option maxRecDepth 10000

/-- No writing is the beginning of another's. -/
def Pf {α : Type} (V : α → Prop) (w : α → List UInt8) : Prop := ∀ x y r s, V x → V y → w x ++ r = w y ++ s → x = y ∧ r = s
theorem cu_pf : Pf (fun x => x < 18446744073709551616) cu := by
  intro x y r s hx hy h
  have h1 := front_cu x hx r
  have h2 := front_cu y hy s
  rw [h, h2] at h1
  have e := (Prod.mk.inj (Option.some.inj h1)).1
  subst e
  exact ⟨rfl, List.append_cancel_left h⟩
theorem byte_pf : Pf (fun x => x < 256) (fun x => lebs x 1) := by
  intro x y r s hx hy h
  obtain ⟨h1, h2⟩ := List.append_inj h (by rw [lebs_length, lebs_length])
  have := leNum_lebs 1 x (by omega)
  rw [show lebs x 1 = lebs y 1 from h1, leNum_lebs 1 y (by omega)] at this
  exact ⟨this.symm, h2⟩
theorem flat_pf {α : Type} {V : α → Prop} {w : α → List UInt8} (hw : Pf V w) : ∀ (l m : List α) r s, l.length = m.length → (∀ x ∈ l, V x) → (∀ x ∈ m, V x) → l.flatMap w ++ r = m.flatMap w ++ s → l = m ∧ r = s
  | [], [], r, s, _, _, _, h => ⟨rfl, by simpa using h⟩
  | [], _ :: _, _, _, h, _, _, _ => by simp at h
  | _ :: _, [], _, _, h, _, _, _ => by simp at h
  | x :: l, y :: m, r, s, hl, hx, hy, h => by
    rw [List.flatMap_cons, List.flatMap_cons, List.append_assoc, List.append_assoc] at h
    obtain ⟨rfl, h1⟩ := hw x y _ _ (hx x (List.mem_cons_self ..)) (hy y (List.mem_cons_self ..)) h
    obtain ⟨rfl, h2⟩ := flat_pf hw l m r s (by simpa using hl) (fun z hz => hx z (List.mem_cons_of_mem _ hz)) (fun z hz => hy z (List.mem_cons_of_mem _ hz)) h1
    exact ⟨rfl, h2⟩
theorem counted_pf {α : Type} {V : α → Prop} {w : α → List UInt8} (hw : Pf V w) (l m : List α) (r s : List UInt8) (hl : l.length < 18446744073709551616) (hm : m.length < 18446744073709551616) (hx : ∀ x ∈ l, V x) (hy : ∀ x ∈ m, V x)
    (h : cu l.length ++ (l.flatMap w ++ r) = cu m.length ++ (m.flatMap w ++ s)) : l = m ∧ r = s := by
  obtain ⟨h1, h2⟩ := cu_pf _ _ _ _ hl hm h
  exact flat_pf hw l m r s h1 hx hy h2
theorem data_pf (d e r s : List UInt8) (hd : d.length < 18446744073709551616) (he : e.length < 18446744073709551616) (h : cu d.length ++ (d ++ r) = cu e.length ++ (e ++ s)) : d = e ∧ r = s := by
  obtain ⟨h1, h2⟩ := cu_pf _ _ _ _ hd he h
  exact List.append_inj h2 h1
theorem cell_pf : Pf (fun z : PCell => okCell z ∧ z.killer < 4294967296) cellN := by
  intro x y r s hx hy h
  obtain ⟨⟨x1, x2⟩, x3⟩ := hx
  obtain ⟨⟨y1, y2⟩, y3⟩ := hy
  obtain ⟨xu, xk, xd⟩ := x
  obtain ⟨yu, yk, yd⟩ := y
  dsimp only at *
  unfold cellN at h
  dsimp only at h
  have hxl : xd.length < 18446744073709551616 := by
    cases xu with
    | true => have := x1 rfl; omega
    | false => have := x2 rfl; omega
  have hyl : yd.length < 18446744073709551616 := by
    cases yu with
    | true => have := y1 rfl; omega
    | false => have := y2 rfl; omega
  rw [List.append_assoc, List.append_assoc] at h
  obtain ⟨h1, h2⟩ := cu_pf _ _ _ _ hxl hyl h
  cases xu with
  | true =>
    have := x1 rfl
    cases yu with
    | true =>
      rw [if_pos rfl, if_pos rfl, List.append_assoc, List.append_assoc] at h2
      obtain ⟨rfl, h3⟩ := cu_pf _ _ _ _ (by omega) (by omega) h2
      obtain ⟨rfl, h4⟩ := List.append_inj h3 h1
      exact ⟨rfl, h4⟩
    | false => have := y2 rfl; omega
  | false =>
    obtain ⟨rfl, e0⟩ := x2 rfl
    cases yu with
    | true => have := y1 rfl; omega
    | false =>
      obtain ⟨rfl, e1⟩ := y2 rfl
      rw [if_neg (by decide), if_neg (by decide)] at h2
      obtain rfl := List.eq_nil_of_length_eq_zero e0
      obtain rfl := List.eq_nil_of_length_eq_zero e1
      exact ⟨rfl, by simpa using h2⟩
theorem pag_pf : Pf (fun y : Pag => mayQ y = true ∧ y.lsn = 0 ∧ y.next < 4294967296 ∧ ∀ z ∈ y.cells, z.killer < 4294967296) pagN := by
  intro x y r s hx hy h
  obtain ⟨x1, x2, x3, x4⟩ := hx
  obtain ⟨y1, y2, y3, y4⟩ := hy
  have xo := may_ok x1
  have yo := may_ok y1
  obtain ⟨⟨xk1, xk3⟩, x60, _, _⟩ := (mayQ_iff x).1 x1
  obtain ⟨⟨yk1, yk3⟩, y60, _, _⟩ := (mayQ_iff y).1 y1
  unfold pagN cellsN at h
  simp only [List.append_assoc] at h
  obtain ⟨h1, h⟩ := byte_pf _ _ _ _ (by omega) (by omega) h
  obtain ⟨h2, h⟩ := cu_pf _ _ _ _ (by omega) (by omega) h
  obtain ⟨h3, h4⟩ := counted_pf cell_pf x.cells y.cells r s (by omega) (by omega) (fun z hz => ⟨xo z hz, x4 z hz⟩) (fun z hz => ⟨yo z hz, y4 z hz⟩) h
  refine ⟨?_, h4⟩
  obtain ⟨a1, a2, a3, a4⟩ := x
  obtain ⟨b1, b2, b3, b4⟩ := y
  dsimp only at *
  subst x2 y2 h2 h3
  rw [show a1 = b1 by omega]
theorem img_pf : Pf (fun x : PImg => imgQ x = true ∧ x.page < 4294967296 ∧ x.to.next < 4294967296 ∧ ∀ z ∈ x.to.cells, z.killer < 4294967296) imgN := by
  intro x y r s hx hy h
  obtain ⟨x1, x2, x3⟩ := hx
  obtain ⟨y1, y2, y3⟩ := hy
  unfold imgQ at x1 y1
  rw [Bool.and_eq_true, decide_eq_true_eq] at x1 y1
  unfold imgN at h
  rw [List.append_assoc, List.append_assoc] at h
  obtain ⟨h1, h⟩ := cu_pf _ _ _ _ (by omega) (by omega) h
  obtain ⟨h2, hz⟩ := pag_pf _ _ _ _ ⟨x1.1, x1.2, x3⟩ ⟨y1.1, y1.2, y3⟩ h
  obtain ⟨a1, a2⟩ := x
  obtain ⟨b1, b2⟩ := y
  dsimp only at *
  subst h1 h2
  exact ⟨rfl, hz⟩
theorem live_pf : Pf wfL liveN := by
  intro x y r s hx hy h
  obtain ⟨x1, x2, x3⟩ := hx
  obtain ⟨y1, y2, y3⟩ := hy
  unfold liveN at h
  simp only [List.append_assoc] at h
  obtain ⟨h1, h⟩ := cu_pf _ _ _ _ (by omega) (by omega) h
  obtain ⟨h2, h⟩ := cu_pf _ _ _ _ x2 y2 h
  obtain ⟨h3, h⟩ := cu_pf _ _ _ _ x3 y3 h
  obtain ⟨h4, hz⟩ := List.append_inj h rfl
  obtain ⟨a1, a2, a3, a4⟩ := x
  obtain ⟨b1, b2, b3, b4⟩ := y
  dsimp only at *
  subst h1 h2 h3
  refine ⟨?_, hz⟩
  cases a4 <;> cases b4 <;> first | rfl | (exfalso; clear hz x1 y1 x2 y2 x3 y3; exact absurd h4 (fun e => by simp at e))
theorem dirt_pf : Pf wfD dirtN := by
  intro x y r s hx hy h
  obtain ⟨x1, x2⟩ := hx
  obtain ⟨y1, y2⟩ := hy
  unfold dirtN at h
  simp only [List.append_assoc] at h
  obtain ⟨h1, h⟩ := cu_pf _ _ _ _ (by omega) (by omega) h
  obtain ⟨h2, hz⟩ := cu_pf _ _ _ _ x2 y2 h
  obtain ⟨a1, a2⟩ := x
  obtain ⟨b1, b2⟩ := y
  dsimp only at *
  subst h1 h2
  exact ⟨rfl, hz⟩
/-- But for its LSN. -/
def z0 (r : Recd) : Recd := { r with lsn := 0 }
theorem body_lsn (r : Recd) : bodyN (z0 r) = bodyN r := rfl
theorem bareP_z0 {r : Recd} (h : bareP r) : bareP (z0 r) := ⟨h.txn, h.prev, h.undo, h.op, h.check, h.shape⟩
theorem body_inj {y z : Recd} (hy : mayR y = true) (wy : wfX y) (hz : mayR z = true) (wz : wfX z) (h : bodyN y = bodyN z) : z0 y = z0 z := by
  obtain ⟨⟨⟨yk1, yk8⟩, yb, _, yd, _, _, yi, _, _⟩, _⟩ := may_okR hy
  obtain ⟨⟨⟨zk1, zk8⟩, zb, _, zd, _, _, zi, _, _⟩, _⟩ := may_okR hz
  obtain ⟨⟨_, _, y1, y2, y3, y4, y5, ⟨_, _, y6, y7⟩, y8, y9, y10, y11, y12, y13⟩, y14⟩ := wy
  obtain ⟨⟨_, _, z1, z2, z3, z4, z5, ⟨_, _, z6, z7⟩, z8, z9, z10, z11, z12, z13⟩, z14⟩ := wz
  unfold bodyN at h
  obtain ⟨hk, h⟩ := byte_pf _ _ _ _ (by omega) (by omega) h
  have hkk : y.kind = z.kind := by omega
  have h' : fieldsN y ++ [] = fieldsN z ++ [] := by rw [h]
  unfold fieldsN at h'
  rw [← hkk] at h'
  rw [← hkk] at zd
  have hc : y.kind = 1 ∨ (y.kind = 5 ∨ y.kind = 6 ∨ y.kind = 7) ∨ y.kind = 2 ∨ y.kind = 3 ∨ y.kind = 4 ∨ y.kind = 8 := by omega
  rcases hc with k | k | k | k | k | k
  · have p0 : y.kind = 1 := k
    simp only [if_pos p0] at h'
    obtain ⟨e1, _⟩ := cu_pf _ _ _ _ (by omega) (by omega) h'
    rw [eq_1 yb k, eq_1 zb (by omega), e1]; rfl
  · have n0 : ¬ y.kind = 1 := by omega
    have p0 : y.kind = 5 ∨ y.kind = 6 ∨ y.kind = 7 := k
    simp only [if_neg n0, if_pos p0] at h'
    simp only [List.append_assoc] at h'
    obtain ⟨e1, h'⟩ := cu_pf _ _ _ _ (by omega) (by omega) h'
    obtain ⟨e2, _⟩ := cu_pf _ _ _ _ y2 z2 h'
    rw [eq_5 yb k, eq_5 zb (by omega), e1, e2, hkk]; rfl
  · have n0 : ¬ y.kind = 1 := by omega
    have n1 : ¬ (y.kind = 5 ∨ y.kind = 6 ∨ y.kind = 7) := by omega
    have n2 : ¬ y.kind = 3 := by omega
    have p0 : y.kind = 2 ∨ y.kind = 3 := .inl k
    simp only [if_neg n0, if_neg n1, if_neg n2, if_pos p0] at h'
    obtain ⟨_, _, yo, ys, yt⟩ := yd (.inl k)
    obtain ⟨_, _, zo, zs, zt⟩ := zd (.inl k)
    unfold opN at h'
    simp only [List.append_assoc, List.nil_append] at h'
    obtain ⟨e1, h'⟩ := cu_pf _ _ _ _ (by omega) (by omega) h'
    obtain ⟨e2, h'⟩ := cu_pf _ _ _ _ y2 z2 h'
    obtain ⟨e3, h'⟩ := cu_pf _ _ _ _ (by omega) (by omega) h'
    obtain ⟨e4, h'⟩ := cu_pf _ _ _ _ (by omega) (by omega) h'
    obtain ⟨e5, h'⟩ := byte_pf _ _ _ _ (by have := yo.2.1; omega) (by have := zo.2.1; omega) h'
    obtain ⟨e6, h'⟩ := cu_pf _ _ _ _ (by omega) (by omega) h'
    obtain ⟨e7, h'⟩ := cu_pf _ _ _ _ (by omega) (by omega) h'
    obtain ⟨e8, _⟩ := data_pf _ _ _ _ (by omega) (by omega) h'
    have e9 : y.op = z.op := by
      have := yo.2.1
      have := zo.2.1
      cases hyo : y.op with
      | mk a1 a2 a3 a4 =>
        cases hzo : z.op with
        | mk b1 b2 b3 b4 =>
          rw [hyo] at e5 e6 e7 e8 ys yo
          rw [hzo] at e5 e6 e7 e8 zs zo
          dsimp only at *
          have yk : 1 ≤ a1 ∧ a1 ≤ 4 := yo.2.1
          have zk : 1 ≤ b1 ∧ b1 ≤ 4 := zo.2.1
          rw [show a1 = b1 by omega, show a2 = b2 by omega, e7, e8]
    rw [eq_2 yb k, eq_2 zb (by omega), e1, e2, e3, e4, e9]; rfl
  · have n0 : ¬ y.kind = 1 := by omega
    have n1 : ¬ (y.kind = 5 ∨ y.kind = 6 ∨ y.kind = 7) := by omega
    have p0 : y.kind = 2 ∨ y.kind = 3 := .inr k
    have p1 : y.kind = 3 := k
    simp only [if_neg n0, if_neg n1, if_pos p0, if_pos p1] at h'
    obtain ⟨_, _, yo, ys, yt⟩ := yd (.inr k)
    obtain ⟨_, _, zo, zs, zt⟩ := zd (.inr k)
    unfold opN at h'
    simp only [List.append_assoc, List.nil_append] at h'
    obtain ⟨e1, h'⟩ := cu_pf _ _ _ _ (by omega) (by omega) h'
    obtain ⟨e2, h'⟩ := cu_pf _ _ _ _ y2 z2 h'
    obtain ⟨e0, h'⟩ := cu_pf _ _ _ _ y3 z3 h'
    obtain ⟨e3, h'⟩ := cu_pf _ _ _ _ (by omega) (by omega) h'
    obtain ⟨e4, h'⟩ := cu_pf _ _ _ _ (by omega) (by omega) h'
    obtain ⟨e5, h'⟩ := byte_pf _ _ _ _ (by have := yo.2.1; omega) (by have := zo.2.1; omega) h'
    obtain ⟨e6, h'⟩ := cu_pf _ _ _ _ (by omega) (by omega) h'
    obtain ⟨e7, h'⟩ := cu_pf _ _ _ _ (by omega) (by omega) h'
    obtain ⟨e8, _⟩ := data_pf _ _ _ _ (by omega) (by omega) h'
    have e9 : y.op = z.op := by
      cases hyo : y.op with
      | mk a1 a2 a3 a4 =>
        cases hzo : z.op with
        | mk b1 b2 b3 b4 =>
          rw [hyo] at e5 e6 e7 e8 ys yo
          rw [hzo] at e5 e6 e7 e8 zs zo
          dsimp only at *
          have yk : 1 ≤ a1 ∧ a1 ≤ 4 := yo.2.1
          have zk : 1 ≤ b1 ∧ b1 ≤ 4 := zo.2.1
          rw [show a1 = b1 by omega, show a2 = b2 by omega, e7, e8]
    rw [eq_3 yb k, eq_3 zb (by omega), e1, e2, e0, e3, e4, e9]; rfl
  · have n0 : ¬ y.kind = 1 := by omega
    have n1 : ¬ (y.kind = 5 ∨ y.kind = 6 ∨ y.kind = 7) := by omega
    have n2 : ¬ (y.kind = 2 ∨ y.kind = 3) := by omega
    have p0 : y.kind = 4 := k
    simp only [if_neg n0, if_neg n1, if_neg n2, if_pos p0] at h'
    simp only [List.append_assoc] at h'
    obtain ⟨e1, _⟩ := counted_pf img_pf _ _ _ _ (by omega) (by omega) (fun x hx => ⟨yi x hx, y14 x hx⟩) (fun x hx => ⟨zi x hx, z14 x hx⟩) h'
    rw [eq_4 yb k, eq_4 zb (by omega), e1]; rfl
  · have n0 : ¬ y.kind = 1 := by omega
    have n1 : ¬ (y.kind = 5 ∨ y.kind = 6 ∨ y.kind = 7) := by omega
    have n2 : ¬ (y.kind = 2 ∨ y.kind = 3) := by omega
    have n3 : ¬ y.kind = 4 := by omega
    have p0 : y.kind = 8 := k
    simp only [if_neg n0, if_neg n1, if_neg n2, if_neg n3, if_pos p0] at h'
    simp only [List.append_assoc] at h'
    obtain ⟨e1, h'⟩ := counted_pf live_pf _ _ _ _ (by omega) (by omega) y12 z12 h'
    obtain ⟨e2, h'⟩ := counted_pf dirt_pf _ _ _ _ (by omega) (by omega) y13 z13 h'
    obtain ⟨e3, _⟩ := cu_pf _ _ _ _ (by omega) (by omega) h'
    rw [eq_8 yb k, eq_8 zb (by omega), e1, e2, e3]; rfl
theorem z0_of {r : Recd} (h : r.lsn = 0) : z0 r = r := by
  obtain ⟨_, _, _, _, _, _, _, _, _, _, _, _⟩ := r
  dsimp only at h
  rw [h]; rfl
/-- Which record bytes begin with is one. -/
theorem dec_one {b : List UInt8} {r r' : Recd} {n n' : Nat} {e e' : Int} (h : Dec b r n e) (h' : Dec b r' n' e') : r = r' ∧ n = n' ∧ e = e' := by
  rcases h with ⟨h1, rfl, rfl, rfl⟩ | ⟨h1, h2, rfl, rfl, rfl⟩ | ⟨h1, h2, h3, rfl, rfl, rfl⟩ | ⟨h1, h2, h3, h4, rfl, rfl, rfl⟩ | ⟨h1, h2, h3, h4, h5, rfl, rfl⟩ <;>
    rcases h' with ⟨g1, rfl, rfl, rfl⟩ | ⟨g1, g2, rfl, rfl, rfl⟩ | ⟨g1, g2, g3, rfl, rfl, rfl⟩ | ⟨g1, g2, g3, g4, rfl, rfl, rfl⟩ | ⟨g1, g2, g3, g4, g5, rfl, rfl⟩ <;>
    first | exact ⟨rfl, rfl, rfl⟩ | (exfalso; omega) | exact absurd ⟨_, g4, g5⟩ h4 | exact absurd ⟨_, h4, h5⟩ g4 | skip
  refine ⟨?_, rfl, rfl⟩
  rw [← z0_of h4.2.1, ← z0_of g4.2.1]
  exact body_inj h4.1 h4.2.2 g4.1 g4.2.2 (h5.trans g5.symm)
end Go.Proofs.Ytihambjhlhgaeaa.Rc

/-! Records in the law: whether one is more than is gone through. Conditions: each theorem's own. -/
namespace Go.Proofs.Ytihambjhlhgaeaa.Rc
open Go Go.K Go.Proofs Go.Proofs.Ytihambjhlhgaeaa Go.Proofs.Ytihambjhlhgaeaa.Pg Go.Proofs.Ytihambjhlhgaeaa.Cc Go.Proofs.Ytihambjhlhgaeaa.Rb
set_option linter.unusedVariables false
set_option linter.unusedSimpArgs false
set_option maxRecDepth 10000

/-- An image that is gone through. -/
def shortI (x : PImg) : Prop := x.to.cells.length ≤ 300 ∧ ∀ z ∈ x.to.cells, z.data.length ≤ 2000
structure shortR (r : Recd) : Prop where
  img : r.images.length ≤ 300
  cel : ∀ x ∈ r.images, shortI x
  liv : r.lives.length ≤ 3000
  dir : r.dirty.length ≤ 3000
  dat : r.op.data.length ≤ 2000
theorem shortR.small {r : Recd} (hs : shortR r) : smallR r := ⟨by have := hs.img; omega, by have := hs.liv; omega, by have := hs.dir; omega, by have := hs.dat; omega⟩
def LongP (h : Base) (G : Prop) (u : Value) (h' : Base) (H' : List Asrt) : Prop := h' = h ∧ H' = [] ∧ ∃ b, u = .bool b ∧ (b = false → G)
set_option maxHeartbeats 2000000 in
theorem RLong (h : Base) (cs : List Value) (r : Recd) (hx : RecC h cs r) : Tr Try.prog 8 [.agg cs.toArray] h [] (LongP h (shortR r)) := by
  obtain ⟨hw, ad, ai, al, ay, cd, ci, cl, cy, rfl, hb, ⟨es, hi1, hi2, hi3⟩, hl4, hd2⟩ := hx.cells
  have w1 := hw.images
  have w2 := hw.lives
  have w3 := hw.dirty
  have w4 := hw.op.len
  clear hx hb hl4 hd2 hw
  refine K.enter Try.func8 rfl (Nat.le_of_ble_eq_true rfl) (fun F => ?_)
  simp only [List.nil_append]
  (repeat' (first | refine X.rq ?_ | (refine X.rc ?_ ?_ <;> intro hc <;> first | (exfalso; omega) | skip)))
  refine K.l_box rfl rfl rfl (fun B1 => ?_)
  (repeat' (first | refine X.rq ?_ | (refine X.rc ?_ ?_ <;> intro hc <;> first | (exfalso; omega) | skip)))
  refine K.c_loop (σ := Nat) (fun j => [(1, .pointer (some ⟨B1, 0, none⟩)), (3, .int .i64 j)]) (fun _ => h) (fun _ => blk B1 31 (cR r (.slice ad r.op.data.length cd) (.slice ai r.images.length ci) (.slice al r.lives.length cl) (.slice ay r.dirty.length cy)) :: F)
    (fun j => j ≤ r.images.length ∧ j ≤ 301 ∧ ∀ _ : Unit, ∀ (i : Nat) x, i < j → r.images[i]? = some x → shortI x) (fun j => r.images.length - j) 0 ⟨Nat.zero_le _, Nat.zero_le _, fun _ i x hi => by omega⟩ (by repeat (first | exact K.Sub.nil _ | refine K.Sub.cons rfl ?_)) rfl rfl ?_
  rintro j ⟨hj, hj3, hyes⟩ KL hKL
  by_cases hjl : j < r.images.length ∧ j ≤ 300
  · obtain ⟨hjl, hj300⟩ := hjl
    have hc1 : es[j]? = some (es[j]'(by omega)) := List.getElem?_eq_getElem (by omega)
    have hc0 : es[((j : Nat) : Int).toNat]? = some (es[j]'(by omega)) := by rw [Int.toNat_natCast]; exact hc1
    have he1 : r.images[j]? = some (r.images[j]'(by omega)) := List.getElem?_eq_getElem hjl
    generalize es[j]'(by omega) = c at hc0 hc1
    generalize r.images[j]'(by omega) = x at he1
    obtain ⟨hpg, cs, rfl, hwp, cv, rfl, es5, hv5, hel5, hr5⟩ := hi3 j c x hc1 he1
    obtain ⟨ao5, ca5, rfl⟩ := hv5.len
    have hwl := hwp.len
    clear hwp
    rw [hel5] at hv5
    (repeat' (first | refine X.rq ?_ | (refine X.rc ?_ ?_ <;> intro hc <;> first | (exfalso; omega) | skip)))
    refine K.s_pureE (K.p_indexL hi1 (Fx.und rfl) (Fx.sz rfl) rfl rfl (by omega) hc0) rfl ?_
    rintro v2 ⟨b, o, rfl, hcel⟩
    have hq1 := (Cels.up (K := blk B1 31 (cR r (.slice ad r.op.data.length cd) (.slice ai r.images.length ci) (.slice al r.lives.length cl) (.slice ay r.dirty.length cy)) :: F) hcel).2.2.2.2.1
    rw [hel5] at hq1
    clear hcel hi1 hi3
    (repeat' (first | refine X.rq ?_ | (refine X.rc ?_ ?_ <;> intro hc <;> first | (exfalso; omega) | skip)))
    · refine K.AT.drop ?_
      refine K.done (by first | exact Or.inl rfl | exact Or.inr rfl) rfl (by first | exact K.Base.le.refl _ | assumption) (H' := []) rfl ⟨rfl, rfl, true, rfl, fun e => by cases e⟩
    · refine K.c_loop (σ := Nat) (fun k => [(1, .pointer (some ⟨B1, 0, none⟩)), (3, .int .i64 j), (4, .slice ao5 x.to.cells.length ca5), (5, .int .i64 k)]) (fun _ => h) (fun _ => blk B1 31 (cR r (.slice ad r.op.data.length cd) (.slice ai r.images.length ci) (.slice al r.lives.length cl) (.slice ay r.dirty.length cy)) :: F)
        (fun k => k ≤ x.to.cells.length ∧ ∀ _ : Unit, ∀ (i : Nat) z, i < k → x.to.cells[i]? = some z → z.data.length ≤ 2000) (fun k => x.to.cells.length - k) 0 ⟨Nat.zero_le _, fun _ i z hi => by omega⟩ (by repeat (first | exact K.Sub.nil _ | refine K.Sub.cons rfl ?_)) rfl rfl ?_
      rintro k ⟨hk, hyk⟩ KM hKM
      by_cases hkl : k < x.to.cells.length
      · have hd1 : es5[k]? = some (es5[k]'(by omega)) := List.getElem?_eq_getElem (by omega)
        have hd0 : es5[((k : Nat) : Int).toNat]? = some (es5[k]'(by omega)) := by rw [Int.toNat_natCast]; exact hd1
        have hz1 : x.to.cells[k]? = some (x.to.cells[k]'(by omega)) := List.getElem?_eq_getElem hkl
        generalize es5[k]'(by omega) = d at hd0 hd1
        generalize x.to.cells[k]'(by omega) = z at hz1
        obtain ⟨_, hzl, ao6, ca6, rfl, _⟩ := hr5 k d z hd1 hz1
        (repeat' (first | refine X.rq ?_ | (refine X.rc ?_ ?_ <;> intro hc <;> first | (exfalso; omega) | skip)))
        refine K.s_pureE (K.p_indexL hv5 (Fx.und rfl) (Fx.sz rfl) rfl rfl (by omega) hd0) rfl ?_
        rintro v3 ⟨b3, o3, rfl, hcel3⟩
        have hq3 := (Cels.up (K := blk B1 31 (cR r (.slice ad r.op.data.length cd) (.slice ai r.images.length ci) (.slice al r.lives.length cl) (.slice ay r.dirty.length cy)) :: F) hcel3).2.2.1
        (repeat' (first | refine X.rq ?_ | (refine X.rc ?_ ?_ <;> intro hc <;> first | (exfalso; omega) | skip)))
        · refine K.AT.drop ?_
          refine K.done (by first | exact Or.inl rfl | exact Or.inr rfl) rfl (by first | exact K.Base.le.refl _ | assumption) (H' := []) rfl ⟨rfl, rfl, true, rfl, fun e => by cases e⟩
        · refine K.a_round hKM (k + 1) ⟨by omega, fun _ i y hi h2 => ?_⟩ (by repeat (first | exact K.Sub.nil _ | refine K.Sub.cons rfl ?_)) rfl rfl (by omega)
          by_cases hik : i < k
          · exact hyk () i y hik h2
          · obtain rfl : i = k := by omega
            rw [hz1] at h2; cases h2; omega
      · obtain rfl : k = x.to.cells.length := by omega
        (repeat' (first | refine X.rq ?_ | (refine X.rc ?_ ?_ <;> intro hc <;> first | (exfalso; omega) | skip)))
        refine K.a_round hKL (j + 1) ⟨by omega, by omega, fun _ i y hi h2 => ?_⟩ (by repeat (first | exact K.Sub.nil _ | refine K.Sub.cons rfl ?_)) rfl rfl (by omega)
        by_cases hij : i < j
        · exact hyes () i y hij h2
        · obtain rfl : i = j := by omega
          rw [he1] at h2; cases h2
          refine ⟨by omega, fun z hz => ?_⟩
          obtain ⟨m, hm, rfl⟩ := List.mem_iff_getElem.1 hz
          exact hyk () m _ hm (List.getElem?_eq_getElem hm)
  · have hfin : r.images.length ≤ 300 → ∀ x ∈ r.images, shortI x := fun hl x hx => by
      obtain ⟨m, hm, rfl⟩ := List.mem_iff_getElem.1 hx
      exact hyes () m _ (by omega) (List.getElem?_eq_getElem hm)
    have hfin2 : ∀ _ : Unit, (r.images.length ≤ 300 ∧ r.lives.length ≤ 3000 ∧ r.dirty.length ≤ 3000 ∧ r.op.data.length ≤ 2000) → shortR r := fun _ ⟨a, b, c, d⟩ => ⟨a, hfin a, b, c, d⟩
    clear hfin hyes hi3
    (repeat' (first | refine X.rq ?_ | (refine X.rc ?_ ?_ <;> intro hc <;> first | (exfalso; omega) | skip)))
    all_goals
      refine K.AT.drop ?_
      refine K.done (by first | exact Or.inl rfl | exact Or.inr rfl) rfl (by first | exact K.Base.le.refl _ | assumption) (H' := []) rfl ⟨rfl, rfl, _, rfl, fun e => ?_⟩
      refine hfin2 () ?_
      simp only [decide_eq_false_iff_not, decide_eq_true_eq, reduceCtorEq] at e <;> omega
theorem RLongs (h : Base) (v : Value) (es : List (List Value)) (l : List Recd) (hv : SL h 15 v es) (hel : es.length = l.length) (hl : l.length ≤ 9223372036854775807) (hr : ∀ (j : Nat) c x, es[j]? = some c → l[j]? = some x → RecC h c x) :
    Tr Try.prog 21 [v] h [] (LongP h (l.length ≤ 300 ∧ ∀ x ∈ l, shortR x)) := by
  obtain ⟨ao, ca, rfl⟩ := hv.len
  rw [hel] at hv ⊢
  refine K.enter Try.func21 rfl (Nat.le_of_ble_eq_true rfl) (fun F => ?_)
  simp only [List.nil_append]
  (repeat' (first | refine X.rq ?_ | (refine X.rc ?_ ?_ <;> intro hc <;> first | (exfalso; omega) | skip)))
  refine K.c_loop (σ := Nat) (fun j => [(0, .slice ao l.length ca), (3, .int .i64 j)]) (fun _ => h) (fun _ => F)
    (fun j => j ≤ l.length ∧ j ≤ 301 ∧ ∀ _ : Unit, ∀ (i : Nat) x, i < j → l[i]? = some x → shortR x) (fun j => l.length - j) 0 ⟨Nat.zero_le _, Nat.zero_le _, fun _ i x hi => by omega⟩ (by repeat (first | exact K.Sub.nil _ | refine K.Sub.cons rfl ?_)) rfl rfl ?_
  rintro j ⟨hj, hj3, hyes⟩ KL hKL
  by_cases hjl : j < l.length ∧ j ≤ 300
  · obtain ⟨hjl, hj300⟩ := hjl
    have hc1 : es[j]? = some (es[j]'(by omega)) := List.getElem?_eq_getElem (by omega)
    have hc0 : es[((j : Nat) : Int).toNat]? = some (es[j]'(by omega)) := by rw [Int.toNat_natCast]; exact hc1
    have he1 : l[j]? = some (l[j]'(by omega)) := List.getElem?_eq_getElem hjl
    generalize es[j]'(by omega) = c at hc0 hc1
    generalize l[j]'(by omega) = x at he1
    have hxc := hr j c x hc1 he1
    have hcl : c.length = 15 := by obtain ⟨_, _, _, _, _, _, _, _, _, e, _⟩ := hxc.cells; rw [e]; rfl
    have hlong := RLong h c x hxc
    (repeat' (first | refine X.rq ?_ | (refine X.rc ?_ ?_ <;> intro hc <;> first | (exfalso; omega) | skip)))
    refine K.s_pureE (K.p_indexL hv (Fx.und rfl) (Fx.sz rfl) rfl rfl (by omega) hc0) rfl ?_
    rintro v2 ⟨b, o, rfl, hcel⟩
    refine K.s_pure (K.p_loadM (Fx.agg rfl) rfl (Cels.up hcel) (Fx.sz rfl) hcl) rfl ?_
    refine K.l_call (Fx.cal rfl) rfl hlong (K.pp [] rfl) rfl ?_
    rintro u h' H' - ⟨e, rfl, b5, rfl, hb5⟩
    obtain rfl := e.symm
    simp only [List.nil_append]
    cases b5 with
    | true =>
      (repeat' (first | refine X.rq ?_ | (refine X.rc ?_ ?_ <;> intro hc <;> first | (exfalso; omega) | skip)))
      refine K.done (by first | exact Or.inl rfl | exact Or.inr rfl) rfl (by first | exact K.Base.le.refl _ | assumption) (H' := []) rfl ⟨rfl, rfl, true, rfl, fun e => by cases e⟩
    | false =>
      (repeat' (first | refine X.rq ?_ | (refine X.rc ?_ ?_ <;> intro hc <;> first | (exfalso; omega) | skip)))
      refine K.a_round hKL (j + 1) ⟨by omega, by omega, fun _ i y hi h2 => ?_⟩ (by repeat (first | exact K.Sub.nil _ | refine K.Sub.cons rfl ?_)) rfl rfl (by omega)
      by_cases hij : i < j
      · exact hyes () i y hij h2
      · obtain rfl : i = j := by omega
        rw [he1] at h2; cases h2
        exact hb5 rfl
  · have hfin : ∀ _ : Unit, l.length ≤ 300 → l.length ≤ 300 ∧ ∀ x ∈ l, shortR x := fun _ hl => ⟨hl, fun x hx => by
      obtain ⟨m, hm, rfl⟩ := List.mem_iff_getElem.1 hx
      exact hyes () m _ (by omega) (List.getElem?_eq_getElem hm)⟩
    clear hyes
    (repeat' (first | refine X.rq ?_ | (refine X.rc ?_ ?_ <;> intro hc <;> first | (exfalso; omega) | skip)))
    all_goals
      refine K.done (by first | exact Or.inl rfl | exact Or.inr rfl) rfl (by first | exact K.Base.le.refl _ | assumption) (H' := []) rfl ⟨rfl, rfl, _, rfl, fun e => ?_⟩
      refine hfin () ?_
      simp only [decide_eq_false_iff_not] at e
      omega
end Go.Proofs.Ytihambjhlhgaeaa.Rc

/-! Records in the law: some answers that the document fixes. Conditions: each theorem's own. -/
namespace Go.Proofs.Ytihambjhlhgaeaa.Rc
open Go Go.K Go.Proofs Go.Proofs.Ytihambjhlhgaeaa Go.Proofs.Ytihambjhlhgaeaa.Pg Go.Proofs.Ytihambjhlhgaeaa.Cc Go.Proofs.Ytihambjhlhgaeaa.Rb
set_option linter.unusedVariables false
set_option linter.unusedSimpArgs false
set_option maxRecDepth 10000

def rA1 : Recd := ⟨1, 0, 300, 0, 0, 0, 0, zO, [], [], [], 0⟩
def rA2 : Recd := ⟨7, 0, 1, 0, 0, 4, 0, zO, [], [], [], 0⟩
theorem wfR_plain (r : Recd) (h1 : in64 r.kind) (h2 : r.lsn = 0) (h3 : r.txn < 1000) (h4 : r.prev = 0) (h5 : r.undo = 0) (h6 : r.page < 1000) (h7 : r.root = 0) (h8 : r.op = zO) (h9 : r.images = []) (h10 : r.lives = []) (h11 : r.dirty = []) (h12 : r.next = 0) : wfR r := by
  refine ⟨h1, by omega, by omega, by omega, by omega, by omega, by omega, by rw [h8]; exact wf_zO, by omega, ?_, ?_, ?_, ?_, ?_⟩
  · rw [h9]; exact Nat.zero_le _
  · rw [h10]; exact Nat.zero_le _
  · rw [h11]; exact Nat.zero_le _
  · rw [h10]; intro x hx; cases hx
  · rw [h11]; intro x hx; cases hx
theorem recC_A1 (h : Base) : RecC h (cR rA1 (.slice none 0 0) (.slice none 0 0) (.slice none 0 0) (.slice none 0 0)) rA1 := recC_of (r := rA1) (wfR_plain _ (by decide) rfl (by decide) rfl rfl (by decide) rfl rfl rfl rfl rfl rfl) BV.nil ImgsV.nil SL.nil SL.nil
theorem recC_A2 (h : Base) : RecC h (cR rA2 (.slice none 0 0) (.slice none 0 0) (.slice none 0 0) (.slice none 0 0)) rA2 := recC_of (r := rA2) (wfR_plain _ (by decide) rfl (by decide) rfl rfl (by decide) rfl rfl rfl rfl rfl rfl) BV.nil ImgsV.nil SL.nil SL.nil
theorem may_A1 : mayR rA1 = true := by decide
theorem enc_A1 : encR rA1 = ([5, 0, 1, 172, 2], 0) := by decide
theorem enc_A2 : encR rA2 = ([], 5) := by decide
theorem size_A1 : sizeR rA1 = 5 := by decide
theorem dec_A1 : Dec [5, 0, 1, 172, 2] rA1 5 0 := .inr (.inr (.inr (.inr ⟨by decide, by decide, by decide, ⟨may_A1, rfl, (recC_A1 ⟨default, fun _ _ => 0, #[], fun _ => none⟩).wfX⟩, by decide, by decide, rfl⟩)))
theorem dec_A3 : Dec [2, 0] zR 0 5 := .inr (.inl ⟨by decide, by decide, rfl, rfl, rfl⟩)
set_option maxHeartbeats 4000000 in
theorem Alive (h : Base) : TrV Try.prog 9 [] h [] (.bool true) [] := by
  have s1 : smallR rA1 := ⟨Nat.zero_le _, Nat.zero_le _, Nat.zero_le _, Nat.zero_le _⟩
  have s2 : smallR rA2 := ⟨Nat.zero_le _, Nat.zero_le _, Nat.zero_le _, Nat.zero_le _⟩
  refine K.enter Try.func9 rfl (Nat.le_of_ble_eq_true rfl) (fun F => ?_)
  simp only [List.nil_append]
  (repeat' (first | refine X.rq ?_ | (refine X.rc ?_ ?_ <;> intro hc <;> first | (exfalso; omega) | skip)))
  have he1 := RecEncode h _ rA1 (recC_A1 h) s1
  rw [enc_A1] at he1
  refine K.l_call (Fx.cal rfl) rfl he1 (K.pp [] rfl) rfl ?_
  rintro u h' H' - ⟨e, a1, c1, rfl, rfl⟩
  obtain rfl := e.symm
  simp only [List.cons_append, List.nil_append]
  refine K.WL.freezeBuf (l := [5, 0, 1, 172, 2]) (fun h1 le1 hb1 => ?_)
  obtain ⟨v1, ev1⟩ : ∃ v, v = bufV a1 ([5, 0, 1, 172, 2] : List UInt8).length c1 := ⟨_, rfl⟩
  rw [← ev1] at hb1 ⊢
  (repeat' (first | refine X.rq ?_ | (refine X.rc ?_ ?_ <;> intro hc <;> first | (exfalso; omega) | skip)))
  refine K.l_call (Fx.cal rfl) rfl (RecDecode h1 _ _ hb1 (by decide)) (K.pp [] rfl) rfl ?_
  rintro u h2 H' le2 ⟨rfl, cs2, r2, n2, e2, rfl, hrc2, hs2, hl2, hd2⟩
  obtain ⟨rfl, rfl, rfl⟩ := dec_one hd2 dec_A1
  obtain ⟨_, ad, ai, al, ay, cd, ci, cl, cy, ecs, _⟩ := hrc2.cells
  subst ecs
  simp only [List.nil_append]
  (repeat' (first | refine X.rq ?_ | (refine X.rc ?_ ?_ <;> intro hc <;> first | (exfalso; omega) | skip)))
  refine K.l_alloc (Fx.zr rfl) rfl rfl (fun B2 => ?_)
  refine X.stw ?_
  simp only [List.set_cons_zero, List.set_cons_succ, List.eraseIdx_cons_zero, List.eraseIdx_cons_succ, List.cons_append, List.nil_append]
  (repeat' (first | refine X.rq ?_ | (refine X.rc ?_ ?_ <;> intro hc <;> first | (exfalso; omega) | skip)))
  have he3 := RecEncode h2 _ rA2 (recC_A2 h2) s2
  rw [enc_A2] at he3
  refine K.l_call (Fx.cal rfl) rfl he3 (K.pp [] rfl) rfl ?_
  rintro u h' H' - ⟨e, a3, c3, rfl, rfl⟩
  obtain rfl := e.symm
  simp only [List.cons_append, List.nil_append]
  refine K.WL.perm (K.pp [1] rfl) ?_
  simp only [List.set_cons_zero, List.set_cons_succ, List.eraseIdx_cons_zero, List.eraseIdx_cons_succ, List.cons_append, List.nil_append]
  (repeat' (first | refine X.rq ?_ | (refine X.rc ?_ ?_ <;> intro hc <;> first | (exfalso; omega) | skip)))
  refine X.bs (fun B5 => ?_)
  refine K.WL.bufOf (s := 1) (m := 2) rfl (by decide) ?_
  refine K.WL.freezeBuf (l := [2, 0]) (fun h3 le3 hb3 => ?_)
  obtain ⟨v3, ev3⟩ : ∃ v, v = bufV (some B5) ([2, 0] : List UInt8).length 2 := ⟨_, rfl⟩
  rw [show Value.slice (some ⟨B5, 0, none⟩) 2 2 = v3 from ev3.symm]
  rw [← ev3] at hb3
  (repeat' (first | refine X.rq ?_ | (refine X.rc ?_ ?_ <;> intro hc <;> first | (exfalso; omega) | skip)))
  refine K.l_call (Fx.cal rfl) rfl (RecDecode h3 _ _ hb3 (by decide)) (K.pp [] rfl) rfl ?_
  rintro u h4 H' le4 ⟨rfl, cs4, r4, n4, e4, rfl, hrc4, hs4, hl4, hd4⟩
  obtain ⟨rfl, rfl, rfl⟩ := dec_one hd4 dec_A3
  obtain ⟨_, ad4, ai4, al4, ay4, cd4, ci4, cl4, cy4, ecs4, _⟩ := hrc4.cells
  subst ecs4
  simp only [List.nil_append]
  have hb4 := hb1.le (le2.trans (le3.trans le4))
  have hz := RecSize h4 _ rA1 (hrc2.le (le3.trans le4)) s1
  rw [size_A1] at hz
  (repeat' (first | refine X.rq ?_ | (refine X.rc ?_ ?_ <;> intro hc <;> first | (exfalso; omega) | skip)))
  refine K.l_alloc (Fx.zr rfl) rfl rfl (fun B4 => ?_)
  refine X.stw ?_
  simp only [List.set_cons_zero, List.set_cons_succ, List.eraseIdx_cons_zero, List.eraseIdx_cons_succ, List.cons_append, List.nil_append]
  (repeat' (first | refine X.rq ?_ | (refine X.rc ?_ ?_ <;> intro hc <;> first | (exfalso; omega) | skip)))
  refine K.s_pure (K.p_textB hb4 (Fx.und rfl) (Fx.und rfl) (Fx.und rfl) rfl) rfl ?_
  (repeat' (first | refine X.rq ?_ | (refine X.rc ?_ ?_ <;> intro hc <;> first | (exfalso; omega) | skip)))
  skip
  refine K.l_callV (Fx.cal rfl) rfl hz (K.pp [] rfl) rfl rfl ?_
  simp only [List.nil_append]
  (repeat' (first | refine X.rq ?_ | (refine X.rc ?_ ?_ <;> intro hc <;> first | (exfalso; omega) | skip)))
  refine K.AT.forget (le1.trans (le2.trans (le3.trans le4))) ?_
  refine K.AT.sel [0, 0, 0] rfl ?_
  refine K.done (by first | exact Or.inl rfl | exact Or.inr rfl) rfl (by first | exact K.Base.le.refl _ | assumption) (H' := []) rfl ⟨rfl, rfl, rfl⟩
end Go.Proofs.Ytihambjhlhgaeaa.Rc

/-! Records in the document: whether two are one, but for their LSN. Conditions: each theorem's own. -/
namespace Go.Proofs.Ytihambjhlhgaeaa.Rc
open Go Go.K Go.Proofs Go.Proofs.Ytihambjhlhgaeaa Go.Proofs.Ytihambjhlhgaeaa.Pg Go.Proofs.Ytihambjhlhgaeaa.Cc Go.Proofs.Ytihambjhlhgaeaa.Rb
set_option linter.unusedVariables false
set_option linter.unusedSimpArgs false
set_option maxRecDepth 10000

theorem img_eq (x y : PImg) : x = y ↔ x.page = y.page ∧ x.to = y.to := by
  obtain ⟨a, b⟩ := x
  obtain ⟨a2, b2⟩ := y
  simp
theorem live_eq (x y : PLive) : x = y ↔ x.txn = y.txn ∧ x.last = y.last ∧ x.undo = y.undo ∧ x.lost = y.lost := by
  obtain ⟨a, b, c, d⟩ := x
  obtain ⟨a2, b2, c2, d2⟩ := y
  simp
theorem dirt_eq (x y : PDirty) : x = y ↔ x.page = y.page ∧ x.frm = y.frm := by
  obtain ⟨a, b⟩ := x
  obtain ⟨a2, b2⟩ := y
  simp
theorem z0_eq (r s : Recd) : z0 r = z0 s ↔ r.kind = s.kind ∧ r.txn = s.txn ∧ r.prev = s.prev ∧ r.undo = s.undo ∧ r.page = s.page ∧ r.root = s.root ∧ r.next = s.next ∧ r.op = s.op ∧ r.images = s.images ∧ r.lives = s.lives ∧ r.dirty = s.dirty := by
  obtain ⟨a1, a2, a3, a4, a5, a6, a7, a8, a9, a10, a11, a12⟩ := r
  obtain ⟨b1, b2, b3, b4, b5, b6, b7, b8, b9, b10, b11, b12⟩ := s
  show Recd.mk .. = Recd.mk .. ↔ _
  rw [Recd.mk.injEq]
  dsimp only
  constructor
  · rintro ⟨e1, _, e2, e3, e4, e5, e6, e7, e8, e9, e10, e11⟩
    exact ⟨e1, e2, e3, e4, e5, e6, e11, e7, e8, e9, e10⟩
  · rintro ⟨e1, e2, e3, e4, e5, e6, e11, e7, e8, e9, e10⟩
    exact ⟨e1, rfl, e2, e3, e4, e5, e6, e7, e8, e9, e10, e11⟩
theorem leafL (x y : PLive) : leafs [.int .u32, .int .u64, .int .u64, .bool] (Rc.cL x) (Rc.cL y) = some (decide (x = y)) := by
  have h1 : ((x.txn : Int) = y.txn) = (x.txn = y.txn) := by rw [eq_iff_iff]; omega
  have h2 : ((x.last : Int) = y.last) = (x.last = y.last) := by rw [eq_iff_iff]; omega
  have h3 : ((x.undo : Int) = y.undo) = (x.undo = y.undo) := by rw [eq_iff_iff]; omega
  have h4 : decide (x = y) = decide (x.txn = y.txn ∧ x.last = y.last ∧ x.undo = y.undo ∧ x.lost = y.lost) := by rw [decide_eq_decide]; exact live_eq x y
  rw [h4]
  simp [leafs, leafV, Rc.cL, h1, h2, h3]
theorem leafD (x y : PDirty) : leafs [.int .u32, .int .u64] (Rc.cD x) (Rc.cD y) = some (decide (x = y)) := by
  have h1 : ((x.page : Int) = y.page) = (x.page = y.page) := by rw [eq_iff_iff]; omega
  have h2 : ((x.frm : Int) = y.frm) = (x.frm = y.frm) := by rw [eq_iff_iff]; omega
  have h4 : decide (x = y) = decide (x.page = y.page ∧ x.frm = y.frm) := by rw [decide_eq_decide]; exact dirt_eq x y
  rw [h4]
  simp [leafs, leafV, Rc.cD, h1, h2]
set_option maxHeartbeats 8000000 in
theorem SameR (h : Base) (cs ds : List Value) (r s : Recd) (hx : RecC h cs r) (hy : RecC h ds s) : TrV Try.prog 16 [.agg cs.toArray, .agg ds.toArray] h [] (.bool (decide (z0 r = z0 s))) [] := by
  obtain ⟨hw, ad, ai, al, ay, cd, ci, cl, cy, rfl, hb, ⟨es, hi1, hi2, hi3⟩, hl4, hd2⟩ := hx.cells
  obtain ⟨gw, bd, bi, bl, by_, dd, di, dl, dy, rfl, gb, ⟨fs, gi1, gi2, gi3⟩, gl4, gd2⟩ := hy.cells
  have w1 := hw.images
  have w2 := hw.lives
  have w3 := hw.dirty
  have w4 := gw.images
  have w5 := gw.lives
  have w6 := gw.dirty
  have hsame := SameO h (cO r.op (.slice ad r.op.data.length cd)) (cO s.op (.slice bd s.op.data.length dd)) r.op s.op ⟨hw.op, _, _, rfl, hb⟩ ⟨gw.op, _, _, rfl, gb⟩
  have hno : ∀ _ : Unit, ¬ (r.kind = s.kind ∧ r.txn = s.txn ∧ r.prev = s.prev ∧ r.undo = s.undo ∧ r.page = s.page ∧ r.root = s.root ∧ r.next = s.next ∧ r.op = s.op) → decide (z0 r = z0 s) = false := fun _ hn => decide_eq_false fun e => by
    obtain ⟨e1, e2, e3, e4, e5, e6, e11, e7, _⟩ := (z0_eq r s).1 e
    exact hn ⟨e1, e2, e3, e4, e5, e6, e11, e7⟩
  have hno2 : ∀ _ : Unit, ¬ (r.images.length = s.images.length ∧ r.lives.length = s.lives.length ∧ r.dirty.length = s.dirty.length) → decide (z0 r = z0 s) = false := fun _ hn => decide_eq_false fun e => by
    obtain ⟨_, _, _, _, _, _, _, _, e8, e9, e10⟩ := (z0_eq r s).1 e
    exact hn ⟨by rw [e8], by rw [e9], by rw [e10]⟩
  have hno3 : ∀ _ : Unit, (∃ i : Nat, r.images[i]? ≠ s.images[i]? ∨ r.lives[i]? ≠ s.lives[i]? ∨ r.dirty[i]? ≠ s.dirty[i]?) → decide (z0 r = z0 s) = false := fun _ ⟨i, hn⟩ => decide_eq_false fun e => by
    obtain ⟨_, _, _, _, _, _, _, _, e8, e9, e10⟩ := (z0_eq r s).1 e
    rw [e8, e9, e10] at hn
    rcases hn with hn | hn | hn <;> exact hn rfl
  clear hx hy hw gw hb gb
  refine K.enter Try.func16 rfl (Nat.le_of_ble_eq_true rfl) (fun F => ?_)
  simp only [List.nil_append]
  (repeat' (first | refine X.rq ?_ | (refine X.rc ?_ ?_ <;> intro hc <;> first | (exfalso; omega) | skip)))
  refine K.l_box rfl rfl rfl (fun B1 => ?_)
  refine K.l_box rfl rfl rfl (fun B2 => ?_)
  by_cases hn1 : r.kind = s.kind ∧ r.txn = s.txn ∧ r.prev = s.prev ∧ r.undo = s.undo ∧ r.page = s.page ∧ r.root = s.root ∧ r.next = s.next
  · have hn1' := fun (_ : Unit) => hn1
    obtain ⟨n1, n2, n3, n4, n5, n6, n7⟩ := hn1
    (repeat' (first | refine X.rq ?_ | (refine X.rc ?_ ?_ <;> intro hc <;> first | (exfalso; omega) | skip)))
    refine K.s_pure (K.p_loadM (Fx.agg rfl) rfl (K.cels_own (pre := [.int .i64 r.kind, .int .u64 r.lsn, .int .u32 r.txn, .int .u64 r.prev, .int .u64 r.undo, .int .u32 r.page, .int .u32 r.root]) (cs := cO r.op (.slice ad r.op.data.length cd)) (post := [.slice ai r.images.length ci, .slice al r.lives.length cl, .slice ay r.dirty.length cy, .int .u32 r.next]) 1 rfl rfl) (Fx.sz rfl) rfl) rfl ?_
    (repeat' (first | refine X.rq ?_ | (refine X.rc ?_ ?_ <;> intro hc <;> first | (exfalso; omega) | skip)))
    refine K.s_pure (K.p_loadM (Fx.agg rfl) rfl (K.cels_own (pre := [.int .i64 s.kind, .int .u64 s.lsn, .int .u32 s.txn, .int .u64 s.prev, .int .u64 s.undo, .int .u32 s.page, .int .u32 s.root]) (cs := cO s.op (.slice bd s.op.data.length dd)) (post := [.slice bi s.images.length di, .slice bl s.lives.length dl, .slice by_ s.dirty.length dy, .int .u32 s.next]) 0 rfl rfl) (Fx.sz rfl) rfl) rfl ?_
    refine K.s_take rfl rfl ?_
    refine K.l_callV (Fx.cal rfl) rfl hsame (K.pp [] rfl) rfl rfl ?_
    simp only [List.nil_append]
    by_cases hope : r.op = s.op
    · rw [decide_eq_true hope]
      (repeat' (first | refine X.rq ?_ | (refine X.rc ?_ ?_ <;> intro hc <;> first | (exfalso; omega) | skip)))
      · have hn := hno2 () (fun e => by omega)
        refine K.AT.sel [0, 0] rfl ?_
        refine K.done (by first | exact Or.inl rfl | exact Or.inr rfl) rfl (by first | exact K.Base.le.refl _ | assumption) (H' := []) rfl ⟨?_, rfl, rfl⟩
        rw [hn]; rfl
      · have hn := hno2 () (fun e => by omega)
        refine K.AT.sel [0, 0] rfl ?_
        refine K.done (by first | exact Or.inl rfl | exact Or.inr rfl) rfl (by first | exact K.Base.le.refl _ | assumption) (H' := []) rfl ⟨?_, rfl, rfl⟩
        rw [hn]; rfl
      · have hn := hno2 () (fun e => by omega)
        refine K.AT.sel [0, 0] rfl ?_
        refine K.done (by first | exact Or.inl rfl | exact Or.inr rfl) rfl (by first | exact K.Base.le.refl _ | assumption) (H' := []) rfl ⟨?_, rfl, rfl⟩
        rw [hn]; rfl
      · have n8 : r.images.length = s.images.length := by omega
        have n9 : r.lives.length = s.lives.length := by omega
        have n10 : r.dirty.length = s.dirty.length := by omega
        refine K.c_loop (σ := Nat) (fun j => [(2, .pointer (some ⟨B1, 0, none⟩)), (3, .pointer (some ⟨B2, 0, none⟩)), (5, .int .i64 j)]) (fun _ => h) (fun _ => blk B2 31 (cR s (.slice bd s.op.data.length dd) (.slice bi s.images.length di) (.slice bl s.lives.length dl) (.slice by_ s.dirty.length dy)) :: blk B1 31 (cR r (.slice ad r.op.data.length cd) (.slice ai r.images.length ci) (.slice al r.lives.length cl) (.slice ay r.dirty.length cy)) :: F)
          (fun j => j ≤ r.images.length ∧ ∀ _ : Unit, ∀ i, i < j → r.images[i]? = s.images[i]?) (fun j => r.images.length - j) 0 ⟨Nat.zero_le _, fun _ i hi => by omega⟩ (by repeat (first | exact K.Sub.nil _ | refine K.Sub.cons rfl ?_)) rfl rfl ?_
        rintro j ⟨hj, hsm1⟩ KL hKL
        by_cases hjl : j < r.images.length
        · have hc1 : es[j]? = some (es[j]'(by omega)) := List.getElem?_eq_getElem (by omega)
          have hc0 : es[((j : Nat) : Int).toNat]? = some (es[j]'(by omega)) := by rw [Int.toNat_natCast]; exact hc1
          have hx1 : r.images[j]? = some (r.images[j]'(by omega)) := List.getElem?_eq_getElem (by omega)
          have hd1 : fs[j]? = some (fs[j]'(by omega)) := List.getElem?_eq_getElem (by omega)
          have hd0 : fs[((j : Nat) : Int).toNat]? = some (fs[j]'(by omega)) := by rw [Int.toNat_natCast]; exact hd1
          have hy1 : s.images[j]? = some (s.images[j]'(by omega)) := List.getElem?_eq_getElem (by omega)
          generalize es[j]'(by omega) = c at hc0 hc1
          generalize r.images[j]'(by omega) = x at hx1
          generalize fs[j]'(by omega) = c2 at hd0 hd1
          generalize s.images[j]'(by omega) = y at hy1
          obtain ⟨hpx, cx, rfl, hpcx⟩ := hi3 j c x hc1 hx1
          obtain ⟨hpy, cy2, rfl, hpcy⟩ := gi3 j c2 y hd1 hy1
          have hsp := SameP h cx cy2 x.to y.to hpcx hpcy
          have hlx : cx.length = 4 := by obtain ⟨_, _, e, _⟩ := hpcx; rw [e]; rfl
          have hly : cy2.length = 4 := by obtain ⟨_, _, e, _⟩ := hpcy; rw [e]; rfl
          clear hpcx hpcy
          have hnoxy : ∀ _ : Unit, x ≠ y → decide (z0 r = z0 s) = false := fun _ hxy => hno3 () ⟨j, .inl (fun e => hxy (by rw [hx1, hy1] at e; cases e; rfl))⟩
          have hgo : ∀ _ : Unit, x = y → ∀ i, i < j + 1 → r.images[i]? = s.images[i]? := fun _ hxy i hi => by
            by_cases hij : i < j
            · exact hsm1 () i hij
            · obtain rfl : i = j := by omega
              rw [hx1, hy1, hxy]
          have hxe := fun (_ : Unit) => img_eq x y
          by_cases hpe : x.page = y.page
          · (repeat' (first | refine X.rq ?_ | (refine X.rc ?_ ?_ <;> intro hc <;> first | (exfalso; omega) | skip)))
            refine X.draw ([blk B2 31 (cR s (.slice bd s.op.data.length dd) (.slice bi s.images.length di) (.slice bl s.lives.length dl) (.slice by_ s.dirty.length dy)), blk B1 31 (cR r (.slice ad r.op.data.length cd) (.slice ai r.images.length ci) (.slice al r.lives.length cl) (.slice ay r.dirty.length cy))]) [] (.pu 0 (.pu 2 (.pu 6 (.pu 8 (.st 1 (.st 3 (.pu 4 (.st 5 (.st 7 (.st 9 (.pu 10 (.st 11 (.pu 12 (.pu 13 (.pu 14 (.pu 16 (.pu 20 (.pu 22 (.st 15 (.st 17 (.pu 18 (.st 19 (.st 21 (.st 23 (.pu 24 (.st 25 (.on 26 (.pu 27 (.pu 28 .nil))))))))))))))))))))))))))))) ?_
            refine K.d_pu rfl (fun _ _ => X.fa) rfl ?_
            refine K.d_pu rfl (fun _ _ => X.mv) rfl ?_
            refine K.d_pu rfl (fun _ _ => X.fa) rfl ?_
            refine K.d_pu rfl (fun _ _ => X.mv) rfl ?_
            refine K.d_st rfl X.ld rfl ?_
            refine K.d_stE rfl (K.p_indexL hi1 (Fx.und rfl) (Fx.sz rfl) rfl rfl (by omega) hc0) rfl ?_
            rintro v3 ⟨b3, o3, rfl, hcel3⟩
            refine K.d_pu rfl (fun _ _ => X.fa) rfl ?_
            refine K.d_st rfl (K.p_load (Fx.agg rfl) rfl (K.Cel.up hcel3.1)) rfl ?_
            refine K.d_st rfl X.ld rfl ?_
            refine K.d_stE rfl (K.p_indexL gi1 (Fx.und rfl) (Fx.sz rfl) rfl rfl (by omega) hd0) rfl ?_
            rintro v4 ⟨b4, o4, rfl, hcel4⟩
            refine K.d_pu rfl (fun _ _ => X.fa) rfl ?_
            refine K.d_st rfl (K.p_load (Fx.agg rfl) rfl (K.Cel.up hcel4.1)) rfl ?_
            refine K.d_pu rfl (fun _ _ => X.bneq) rfl ?_
            rw [show decide ((x.page : Int) ≠ y.page) = false from decide_eq_false (by omega)]
            refine K.d_pu rfl (fun _ _ => X.mv) rfl ?_
            first | refine K.d_skip rfl rfl rfl rfl ?_ | refine K.d_skipU rfl rfl rfl rfl rfl ?_ | refine K.d_puG rfl rfl rfl (fun _ _ => X.fa) rfl ?_
            first | refine K.d_skip rfl rfl rfl rfl ?_ | refine K.d_skipU rfl rfl rfl rfl rfl ?_ | refine K.d_puG rfl rfl rfl (fun _ _ => X.mv) rfl ?_
            first | refine K.d_skip rfl rfl rfl rfl ?_ | refine K.d_skipU rfl rfl rfl rfl rfl ?_ | refine K.d_puG rfl rfl rfl (fun _ _ => X.fa) rfl ?_
            first | refine K.d_skip rfl rfl rfl rfl ?_ | refine K.d_skipU rfl rfl rfl rfl rfl ?_ | refine K.d_puG rfl rfl rfl (fun _ _ => X.mv) rfl ?_
            first | refine K.d_skipS rfl rfl rfl rfl ?_ | refine K.d_skipUS rfl rfl rfl rfl rfl ?_ | refine K.d_stG rfl rfl rfl X.ld rfl ?_
            refine K.d_stGE rfl rfl rfl (K.p_indexL hi1 (Fx.und rfl) (Fx.sz rfl) rfl rfl (by omega) hc0) rfl ?_
            rintro v5 ⟨b5, o5, rfl, hcel5⟩
            first | refine K.d_skip rfl rfl rfl rfl ?_ | refine K.d_skipU rfl rfl rfl rfl rfl ?_ | refine K.d_puG rfl rfl rfl (fun _ _ => X.fa) rfl ?_
            refine K.d_stG rfl rfl rfl (K.p_loadM (Fx.agg rfl) rfl (Cels.up hcel5.2) (Fx.sz rfl) hlx) rfl ?_
            first | refine K.d_skipS rfl rfl rfl rfl ?_ | refine K.d_skipUS rfl rfl rfl rfl rfl ?_ | refine K.d_stG rfl rfl rfl X.ld rfl ?_
            refine K.d_stGE rfl rfl rfl (K.p_indexL gi1 (Fx.und rfl) (Fx.sz rfl) rfl rfl (by omega) hd0) rfl ?_
            rintro v6 ⟨b6, o6, rfl, hcel6⟩
            first | refine K.d_skip rfl rfl rfl rfl ?_ | refine K.d_skipU rfl rfl rfl rfl rfl ?_ | refine K.d_puG rfl rfl rfl (fun _ _ => X.fa) rfl ?_
            refine K.d_stG rfl rfl rfl (K.p_loadM (Fx.agg rfl) rfl (Cels.up hcel6.2) (Fx.sz rfl) hly) rfl ?_
            refine K.d_on rfl (fun KK hKK => ?_)
            refine K.s_take rfl rfl ?_
            refine K.l_callV (Fx.cal rfl) rfl hsp (K.pp [] rfl) rfl rfl ?_
            simp only [List.nil_append]
            refine K.l_nil ?_
            refine X.onE hKK ?_
            first | refine K.d_skip rfl rfl rfl rfl ?_ | refine K.d_skipU rfl rfl rfl rfl rfl ?_ | refine K.d_puG rfl rfl rfl (fun _ _ => X.nt) rfl ?_
            refine K.d_pu rfl (fun _ _ => X.pk) rfl ?_
            refine K.d_nil ?_
            by_cases hte : x.to = y.to
            · rw [show (decide ¬ x.to = y.to) = false from decide_eq_false (fun h => h hte)]
              (repeat' (first | refine X.rq ?_ | (refine X.rc ?_ ?_ <;> intro hc <;> first | (exfalso; omega) | skip)))
              refine K.a_round hKL (j + 1) ⟨by omega, fun _ => hgo () ((hxe ()).2 ⟨hpe, hte⟩)⟩ (by repeat (first | exact K.Sub.nil _ | refine K.Sub.cons rfl ?_)) rfl rfl (by omega)
            · rw [show (decide ¬ x.to = y.to) = true from decide_eq_true hte]
              (repeat' (first | refine X.rq ?_ | (refine X.rc ?_ ?_ <;> intro hc <;> first | (exfalso; omega) | skip)))
              have hn := hnoxy () (fun e => hte ((hxe ()).1 e).2)
              refine K.AT.sel [0, 0] rfl ?_
              refine K.done (by first | exact Or.inl rfl | exact Or.inr rfl) rfl (by first | exact K.Base.le.refl _ | assumption) (H' := []) rfl ⟨?_, rfl, rfl⟩
              rw [hn]; rfl
          · (repeat' (first | refine X.rq ?_ | (refine X.rc ?_ ?_ <;> intro hc <;> first | (exfalso; omega) | skip)))
            refine X.draw ([blk B2 31 (cR s (.slice bd s.op.data.length dd) (.slice bi s.images.length di) (.slice bl s.lives.length dl) (.slice by_ s.dirty.length dy)), blk B1 31 (cR r (.slice ad r.op.data.length cd) (.slice ai r.images.length ci) (.slice al r.lives.length cl) (.slice ay r.dirty.length cy))]) [] (.pu 0 (.pu 2 (.pu 6 (.pu 8 (.st 1 (.st 3 (.pu 4 (.st 5 (.st 7 (.st 9 (.pu 10 (.st 11 (.pu 12 (.pu 13 (.pu 14 (.pu 16 (.pu 20 (.pu 22 (.st 15 (.st 17 (.pu 18 (.st 19 (.st 21 (.st 23 (.pu 24 (.st 25 (.on 26 (.pu 27 (.pu 28 .nil))))))))))))))))))))))))))))) ?_
            refine K.d_pu rfl (fun _ _ => X.fa) rfl ?_
            refine K.d_pu rfl (fun _ _ => X.mv) rfl ?_
            refine K.d_pu rfl (fun _ _ => X.fa) rfl ?_
            refine K.d_pu rfl (fun _ _ => X.mv) rfl ?_
            refine K.d_st rfl X.ld rfl ?_
            refine K.d_stE rfl (K.p_indexL hi1 (Fx.und rfl) (Fx.sz rfl) rfl rfl (by omega) hc0) rfl ?_
            rintro v3 ⟨b3, o3, rfl, hcel3⟩
            refine K.d_pu rfl (fun _ _ => X.fa) rfl ?_
            refine K.d_st rfl (K.p_load (Fx.agg rfl) rfl (K.Cel.up hcel3.1)) rfl ?_
            refine K.d_st rfl X.ld rfl ?_
            refine K.d_stE rfl (K.p_indexL gi1 (Fx.und rfl) (Fx.sz rfl) rfl rfl (by omega) hd0) rfl ?_
            rintro v4 ⟨b4, o4, rfl, hcel4⟩
            refine K.d_pu rfl (fun _ _ => X.fa) rfl ?_
            refine K.d_st rfl (K.p_load (Fx.agg rfl) rfl (K.Cel.up hcel4.1)) rfl ?_
            refine K.d_pu rfl (fun _ _ => X.bneq) rfl ?_
            rw [show decide ((x.page : Int) ≠ y.page) = true from decide_eq_true (by omega)]
            refine K.d_pu rfl (fun _ _ => X.mv) rfl ?_
            first | refine K.d_skip rfl rfl rfl rfl ?_ | refine K.d_skipU rfl rfl rfl rfl rfl ?_ | refine K.d_puG rfl rfl rfl (fun _ _ => X.fa) rfl ?_
            first | refine K.d_skip rfl rfl rfl rfl ?_ | refine K.d_skipU rfl rfl rfl rfl rfl ?_ | refine K.d_puG rfl rfl rfl (fun _ _ => X.mv) rfl ?_
            first | refine K.d_skip rfl rfl rfl rfl ?_ | refine K.d_skipU rfl rfl rfl rfl rfl ?_ | refine K.d_puG rfl rfl rfl (fun _ _ => X.fa) rfl ?_
            first | refine K.d_skip rfl rfl rfl rfl ?_ | refine K.d_skipU rfl rfl rfl rfl rfl ?_ | refine K.d_puG rfl rfl rfl (fun _ _ => X.mv) rfl ?_
            first | refine K.d_skipS rfl rfl rfl rfl ?_ | refine K.d_skipUS rfl rfl rfl rfl rfl ?_ | refine K.d_stG rfl rfl rfl X.ld rfl ?_
            first | refine K.d_skipS rfl rfl rfl rfl ?_ | refine K.d_skipUS rfl rfl rfl rfl rfl ?_ | refine K.d_stG rfl rfl rfl X.ia rfl ?_
            first | refine K.d_skip rfl rfl rfl rfl ?_ | refine K.d_skipU rfl rfl rfl rfl rfl ?_ | refine K.d_puG rfl rfl rfl (fun _ _ => X.fa) rfl ?_
            first | refine K.d_skipS rfl rfl rfl rfl ?_ | refine K.d_skipUS rfl rfl rfl rfl rfl ?_ | refine K.d_stG rfl rfl rfl X.ld rfl ?_
            first | refine K.d_skipS rfl rfl rfl rfl ?_ | refine K.d_skipUS rfl rfl rfl rfl rfl ?_ | refine K.d_stG rfl rfl rfl X.ld rfl ?_
            first | refine K.d_skipS rfl rfl rfl rfl ?_ | refine K.d_skipUS rfl rfl rfl rfl rfl ?_ | refine K.d_stG rfl rfl rfl X.ia rfl ?_
            first | refine K.d_skip rfl rfl rfl rfl ?_ | refine K.d_skipU rfl rfl rfl rfl rfl ?_ | refine K.d_puG rfl rfl rfl (fun _ _ => X.fa) rfl ?_
            first | refine K.d_skipS rfl rfl rfl rfl ?_ | refine K.d_skipUS rfl rfl rfl rfl rfl ?_ | refine K.d_stG rfl rfl rfl X.ld rfl ?_
            refine K.d_on rfl (fun KK hKK => ?_)
            first | refine K.s_skip rfl rfl rfl ?_ | refine K.s_skipU rfl rfl rfl rfl ?_
            refine K.l_nil ?_
            refine X.onE hKK ?_
            first | refine K.d_skip rfl rfl rfl rfl ?_ | refine K.d_skipU rfl rfl rfl rfl rfl ?_ | refine K.d_puG rfl rfl rfl (fun _ _ => X.nt) rfl ?_
            refine K.d_pu rfl (fun _ _ => X.pk) rfl ?_
            refine K.d_nil ?_
            (repeat' (first | refine X.rq ?_ | (refine X.rc ?_ ?_ <;> intro hc <;> first | (exfalso; omega) | skip)))
            have hn := hnoxy () (fun e => hpe ((hxe ()).1 e).1)
            refine K.AT.sel [0, 0] rfl ?_
            refine K.done (by first | exact Or.inl rfl | exact Or.inr rfl) rfl (by first | exact K.Base.le.refl _ | assumption) (H' := []) rfl ⟨?_, rfl, rfl⟩
            rw [hn]; rfl
        · obtain rfl : j = r.images.length := by omega
          (repeat' (first | refine X.rq ?_ | (refine X.rc ?_ ?_ <;> intro hc <;> first | (exfalso; omega) | skip)))
          refine K.c_loop (σ := Nat) (fun j => [(2, .pointer (some ⟨B1, 0, none⟩)), (3, .pointer (some ⟨B2, 0, none⟩)), (6, .int .i64 j)]) (fun _ => h) (fun _ => blk B2 31 (cR s (.slice bd s.op.data.length dd) (.slice bi s.images.length di) (.slice bl s.lives.length dl) (.slice by_ s.dirty.length dy)) :: blk B1 31 (cR r (.slice ad r.op.data.length cd) (.slice ai r.images.length ci) (.slice al r.lives.length cl) (.slice ay r.dirty.length cy)) :: F)
            (fun j => j ≤ r.lives.length ∧ ∀ _ : Unit, ∀ i, i < j → r.lives[i]? = s.lives[i]?) (fun j => r.lives.length - j) 0 ⟨Nat.zero_le _, fun _ i hi => by omega⟩ (by repeat (first | exact K.Sub.nil _ | refine K.Sub.cons rfl ?_)) rfl rfl ?_
          rintro j ⟨hj, hsm2⟩ KL hKL
          by_cases hjl : j < r.lives.length
          · have hx1 : r.lives[j]? = some (r.lives[j]'(by omega)) := List.getElem?_eq_getElem (by omega)
            have hy1 : s.lives[j]? = some (s.lives[j]'(by omega)) := List.getElem?_eq_getElem (by omega)
            generalize r.lives[j]'(by omega) = x at hx1
            generalize s.lives[j]'(by omega) = y at hy1
            have hc0 : (r.lives.map Rc.cL)[((j : Nat) : Int).toNat]? = some (Rc.cL x) := by rw [Int.toNat_natCast, List.getElem?_map, hx1]; rfl
            have hd0 : (s.lives.map Rc.cL)[((j : Nat) : Int).toNat]? = some (Rc.cL y) := by rw [Int.toNat_natCast, List.getElem?_map, hy1]; rfl
            (repeat' (first | refine X.rq ?_ | (refine X.rc ?_ ?_ <;> intro hc <;> first | (exfalso; omega) | skip)))
            refine X.draw ([blk B2 31 (cR s (.slice bd s.op.data.length dd) (.slice bi s.images.length di) (.slice bl s.lives.length dl) (.slice by_ s.dirty.length dy)), blk B1 31 (cR r (.slice ad r.op.data.length cd) (.slice ai r.images.length ci) (.slice al r.lives.length cl) (.slice ay r.dirty.length cy))]) [] (.pu 0 (.pu 2 (.pu 5 (.pu 7 (.st 1 (.st 3 (.st 4 (.st 6 (.st 8 (.st 9 (.pu 10 .nil))))))))))) ?_
            refine K.d_pu rfl (fun _ _ => X.fa) rfl ?_
            refine K.d_pu rfl (fun _ _ => X.mv) rfl ?_
            refine K.d_pu rfl (fun _ _ => X.fa) rfl ?_
            refine K.d_pu rfl (fun _ _ => X.mv) rfl ?_
            refine K.d_st rfl X.ld rfl ?_
            refine K.d_stE rfl (K.p_indexL hl4 (Fx.und rfl) (Fx.sz rfl) rfl rfl (by omega) hc0) rfl ?_
            rintro v3 ⟨b3, o3, rfl, hcel3⟩
            refine K.d_st rfl (K.p_loadM (Fx.agg rfl) rfl (Cels.up hcel3) (Fx.sz rfl) rfl) rfl ?_
            refine K.d_st rfl X.ld rfl ?_
            refine K.d_stE rfl (K.p_indexL gl4 (Fx.und rfl) (Fx.sz rfl) rfl rfl (by omega) hd0) rfl ?_
            rintro v4 ⟨b4, o4, rfl, hcel4⟩
            refine K.d_st rfl (K.p_loadM (Fx.agg rfl) rfl (Cels.up hcel4) (Fx.sz rfl) rfl) rfl ?_
            refine K.d_pu rfl (fun _ _ => K.p_neA (Fx.flat rfl) rfl rfl (leafL x y)) rfl ?_
            refine K.d_nil ?_
            by_cases hxy : x = y
            · rw [decide_eq_true hxy]
              (repeat' (first | refine X.rq ?_ | (refine X.rc ?_ ?_ <;> intro hc <;> first | (exfalso; omega) | skip)))
              refine K.a_round hKL (j + 1) ⟨by omega, fun _ i hi => ?_⟩ (by repeat (first | exact K.Sub.nil _ | refine K.Sub.cons rfl ?_)) rfl rfl (by omega)
              by_cases hij : i < j
              · exact hsm2 () i hij
              · obtain rfl : i = j := by omega
                rw [hx1, hy1, hxy]
            · rw [decide_eq_false hxy]
              (repeat' (first | refine X.rq ?_ | (refine X.rc ?_ ?_ <;> intro hc <;> first | (exfalso; omega) | skip)))
              have hn := hno3 () ⟨j, .inr <| .inl (fun e => hxy (by rw [hx1, hy1] at e; cases e; rfl))⟩
              refine K.AT.sel [0, 0] rfl ?_
              refine K.done (by first | exact Or.inl rfl | exact Or.inr rfl) rfl (by first | exact K.Base.le.refl _ | assumption) (H' := []) rfl ⟨?_, rfl, rfl⟩
              rw [hn]; rfl
          · obtain rfl : j = r.lives.length := by omega
            (repeat' (first | refine X.rq ?_ | (refine X.rc ?_ ?_ <;> intro hc <;> first | (exfalso; omega) | skip)))
            refine K.c_loop (σ := Nat) (fun j => [(2, .pointer (some ⟨B1, 0, none⟩)), (3, .pointer (some ⟨B2, 0, none⟩)), (7, .int .i64 j)]) (fun _ => h) (fun _ => blk B2 31 (cR s (.slice bd s.op.data.length dd) (.slice bi s.images.length di) (.slice bl s.lives.length dl) (.slice by_ s.dirty.length dy)) :: blk B1 31 (cR r (.slice ad r.op.data.length cd) (.slice ai r.images.length ci) (.slice al r.lives.length cl) (.slice ay r.dirty.length cy)) :: F)
              (fun j => j ≤ r.dirty.length ∧ ∀ _ : Unit, ∀ i, i < j → r.dirty[i]? = s.dirty[i]?) (fun j => r.dirty.length - j) 0 ⟨Nat.zero_le _, fun _ i hi => by omega⟩ (by repeat (first | exact K.Sub.nil _ | refine K.Sub.cons rfl ?_)) rfl rfl ?_
            rintro j ⟨hj, hsm3⟩ KL hKL
            by_cases hjl : j < r.dirty.length
            · have hx1 : r.dirty[j]? = some (r.dirty[j]'(by omega)) := List.getElem?_eq_getElem (by omega)
              have hy1 : s.dirty[j]? = some (s.dirty[j]'(by omega)) := List.getElem?_eq_getElem (by omega)
              generalize r.dirty[j]'(by omega) = x at hx1
              generalize s.dirty[j]'(by omega) = y at hy1
              have hc0 : (r.dirty.map Rc.cD)[((j : Nat) : Int).toNat]? = some (Rc.cD x) := by rw [Int.toNat_natCast, List.getElem?_map, hx1]; rfl
              have hd0 : (s.dirty.map Rc.cD)[((j : Nat) : Int).toNat]? = some (Rc.cD y) := by rw [Int.toNat_natCast, List.getElem?_map, hy1]; rfl
              (repeat' (first | refine X.rq ?_ | (refine X.rc ?_ ?_ <;> intro hc <;> first | (exfalso; omega) | skip)))
              refine X.draw ([blk B2 31 (cR s (.slice bd s.op.data.length dd) (.slice bi s.images.length di) (.slice bl s.lives.length dl) (.slice by_ s.dirty.length dy)), blk B1 31 (cR r (.slice ad r.op.data.length cd) (.slice ai r.images.length ci) (.slice al r.lives.length cl) (.slice ay r.dirty.length cy))]) [] (.pu 0 (.pu 2 (.pu 5 (.pu 7 (.st 1 (.st 3 (.st 4 (.st 6 (.st 8 (.st 9 (.pu 10 .nil))))))))))) ?_
              refine K.d_pu rfl (fun _ _ => X.fa) rfl ?_
              refine K.d_pu rfl (fun _ _ => X.mv) rfl ?_
              refine K.d_pu rfl (fun _ _ => X.fa) rfl ?_
              refine K.d_pu rfl (fun _ _ => X.mv) rfl ?_
              refine K.d_st rfl X.ld rfl ?_
              refine K.d_stE rfl (K.p_indexL hd2 (Fx.und rfl) (Fx.sz rfl) rfl rfl (by omega) hc0) rfl ?_
              rintro v3 ⟨b3, o3, rfl, hcel3⟩
              refine K.d_st rfl (K.p_loadM (Fx.agg rfl) rfl (Cels.up hcel3) (Fx.sz rfl) rfl) rfl ?_
              refine K.d_st rfl X.ld rfl ?_
              refine K.d_stE rfl (K.p_indexL gd2 (Fx.und rfl) (Fx.sz rfl) rfl rfl (by omega) hd0) rfl ?_
              rintro v4 ⟨b4, o4, rfl, hcel4⟩
              refine K.d_st rfl (K.p_loadM (Fx.agg rfl) rfl (Cels.up hcel4) (Fx.sz rfl) rfl) rfl ?_
              refine K.d_pu rfl (fun _ _ => K.p_neA (Fx.flat rfl) rfl rfl (leafD x y)) rfl ?_
              refine K.d_nil ?_
              by_cases hxy : x = y
              · rw [decide_eq_true hxy]
                (repeat' (first | refine X.rq ?_ | (refine X.rc ?_ ?_ <;> intro hc <;> first | (exfalso; omega) | skip)))
                refine K.a_round hKL (j + 1) ⟨by omega, fun _ i hi => ?_⟩ (by repeat (first | exact K.Sub.nil _ | refine K.Sub.cons rfl ?_)) rfl rfl (by omega)
                by_cases hij : i < j
                · exact hsm3 () i hij
                · obtain rfl : i = j := by omega
                  rw [hx1, hy1, hxy]
              · rw [decide_eq_false hxy]
                (repeat' (first | refine X.rq ?_ | (refine X.rc ?_ ?_ <;> intro hc <;> first | (exfalso; omega) | skip)))
                have hn := hno3 () ⟨j, .inr <| .inr (fun e => hxy (by rw [hx1, hy1] at e; cases e; rfl))⟩
                refine K.AT.sel [0, 0] rfl ?_
                refine K.done (by first | exact Or.inl rfl | exact Or.inr rfl) rfl (by first | exact K.Base.le.refl _ | assumption) (H' := []) rfl ⟨?_, rfl, rfl⟩
                rw [hn]; rfl
            · obtain rfl : j = r.dirty.length := by omega
              (repeat' (first | refine X.rq ?_ | (refine X.rc ?_ ?_ <;> intro hc <;> first | (exfalso; omega) | skip)))
              have hz : z0 r = z0 s := (z0_eq r s).2 ⟨n1, n2, n3, n4, n5, n6, n7, hope, List.ext_getElem? (fun i => by
                  by_cases hi : i < r.images.length
                  · exact hsm1 () i hi
                  · rw [List.getElem?_eq_none (by omega), List.getElem?_eq_none (by omega)]), List.ext_getElem? (fun i => by
                  by_cases hi : i < r.lives.length
                  · exact hsm2 () i hi
                  · rw [List.getElem?_eq_none (by omega), List.getElem?_eq_none (by omega)]), List.ext_getElem? (fun i => by
                  by_cases hi : i < r.dirty.length
                  · exact hsm3 () i hi
                  · rw [List.getElem?_eq_none (by omega), List.getElem?_eq_none (by omega)])⟩
              refine K.AT.sel [0, 0] rfl ?_
              refine K.done (by first | exact Or.inl rfl | exact Or.inr rfl) rfl (by first | exact K.Base.le.refl _ | assumption) (H' := []) rfl ⟨?_, rfl, rfl⟩
              rw [decide_eq_true hz]; rfl

    · have hn := hno () (fun e => hope e.2.2.2.2.2.2.2)
      rw [decide_eq_false hope]
      (repeat' (first | refine X.rq ?_ | (refine X.rc ?_ ?_ <;> intro hc <;> first | (exfalso; omega) | skip)))
      refine K.AT.sel [0, 0] rfl ?_
      refine K.done (by first | exact Or.inl rfl | exact Or.inr rfl) rfl (by first | exact K.Base.le.refl _ | assumption) (H' := []) rfl ⟨?_, rfl, rfl⟩
      rw [hn]; rfl
  · have hno := hno () (fun e => hn1 ⟨e.1, e.2.1, e.2.2.1, e.2.2.2.1, e.2.2.2.2.1, e.2.2.2.2.2.1, e.2.2.2.2.2.2.1⟩)
    (repeat' (first | refine X.rq ?_ | (refine X.rc ?_ ?_ <;> intro hc <;> first | (exfalso; omega) | skip)))
    all_goals
      refine K.AT.sel [0, 0] rfl ?_
      refine K.done (by first | exact Or.inl rfl | exact Or.inr rfl) rfl (by first | exact K.Base.le.refl _ | assumption) (H' := []) rfl ⟨?_, rfl, rfl⟩
      rw [hno]; rfl
end Go.Proofs.Ytihambjhlhgaeaa.Rc

/-! The law of records that are unlike, walked. Conditions: each theorem's own. -/
namespace Go.Proofs.Ytihambjhlhgaeaa.Rc
open Go Go.K Go.Proofs Go.Proofs.Ytihambjhlhgaeaa Go.Proofs.Ytihambjhlhgaeaa.Pg Go.Proofs.Ytihambjhlhgaeaa.Cc Go.Proofs.Ytihambjhlhgaeaa.Rb
set_option linter.unusedVariables false
set_option linter.unusedSimpArgs false
set_option maxRecDepth 10000

theorem encN_body {r s : Recd} (h : encN r = encN s) : bodyN r = bodyN s := by
  have h2 := congrArg (List.drop 2) h
  unfold encN at h2
  rwa [List.drop_append_of_le_length (by rw [lebs_length]; omega), List.drop_append_of_le_length (by rw [lebs_length]; omega), List.drop_of_length_le (by rw [lebs_length]; omega), List.drop_of_length_le (by rw [lebs_length]; omega)] at h2
theorem enc_same {r s : Recd} (h1 : mayR r = true) (w1 : wfX r) (h2 : mayR s = true) (w2 : wfX s) : encN r = encN s ↔ z0 r = z0 s := by
  constructor
  · intro e
    exact body_inj h1 w1 h2 w2 (encN_body e)
  · intro e
    have : bodyN r = bodyN s := by rw [← body_lsn r, ← body_lsn s, e]
    unfold encN
    rw [this]
theorem encR_yes {r : Recd} (h : mayR r = true) : encR r = (encN r, 0) := by unfold encR; rw [if_pos h]
theorem encR_no {r : Recd} (h : mayR r = false) : encR r = ([], 5) := by unfold encR; rw [if_neg (by rw [h]; decide)]
theorem sizeR_yes {r : Recd} (h : mayR r = true) : sizeR r = (encN r).length := by
  unfold sizeR encN
  rw [if_pos h, List.length_append, lebs_length]; omega
theorem sizeR_no {r : Recd} (h : mayR r = false) : sizeR r = 0 := by unfold sizeR; rw [if_neg (by rw [h]; decide)]
theorem encN_len {r : Recd} (h : mayR r = true) : 3 ≤ (encN r).length ∧ (encN r).length ≤ 16384 := by
  have := (may_okR h).2
  unfold encN
  rw [List.length_append, lebs_length]
  refine ⟨?_, by omega⟩
  unfold bodyN
  rw [List.length_append, lebs_length]
  omega
set_option maxHeartbeats 4000000 in
theorem RecordUnlikeW (h : Base) (cs : List Value) (r : Recd) (ds : List Value) (s : Recd) (hx : RecC h cs r) (hy : RecC h ds s) : Tr Try.prog 7 [.agg cs.toArray, .agg ds.toArray] h [] (fun u h' H' => u = .bool true ∧ H' = []) := by
  have hx0 := hx
  have hy0 := hy
  have wx := hx.wfX
  have wy := hy.wfX
  obtain ⟨_, ad, ai, al, ay, cd, ci, cl, cy, rfl, _⟩ := hx.cells
  obtain ⟨_, bd, bi, bl, by_, dd, di, dl, dy, rfl, _⟩ := hy.cells
  have hl1 := RLong h _ r hx0
  have hl2 := RLong h _ s hy0
  clear hx hy
  refine K.enter Try.func7 rfl (Nat.le_of_ble_eq_true rfl) (fun F => ?_)
  simp only [List.nil_append]
  (repeat' (first | refine X.rq ?_ | (refine X.rc ?_ ?_ <;> intro hc <;> first | (exfalso; omega) | skip)))
  refine K.l_box rfl rfl rfl (fun B1 => ?_)
  refine K.l_box rfl rfl rfl (fun B2 => ?_)
  (repeat' (first | refine X.rq ?_ | (refine X.rc ?_ ?_ <;> intro hc <;> first | (exfalso; omega) | skip)))
  refine K.l_call (Fx.cal rfl) rfl hl1 (K.pp [] rfl) rfl ?_
  rintro u h' H' - ⟨e, rfl, b1, rfl, hb1⟩
  obtain rfl := e.symm
  simp only [List.nil_append]
  cases b1 with
  | true =>
    (repeat' (first | refine X.rq ?_ | (refine X.rc ?_ ?_ <;> intro hc <;> first | (exfalso; omega) | skip)))
    refine K.l_callV (Fx.cal rfl) rfl (Alive h) (K.pp [] rfl) rfl rfl ?_
    simp only [List.nil_append]
    (repeat' (first | refine X.rq ?_ | (refine X.rc ?_ ?_ <;> intro hc <;> first | (exfalso; omega) | skip)))
    refine K.AT.sel [0, 0] rfl ?_
    refine K.done (by first | exact Or.inl rfl | exact Or.inr rfl) rfl (by first | exact K.Base.le.refl _ | assumption) (H' := []) rfl ⟨rfl, rfl⟩
  | false =>
    have hs1 := hb1 rfl
    (repeat' (first | refine X.rq ?_ | (refine X.rc ?_ ?_ <;> intro hc <;> first | (exfalso; omega) | skip)))
    refine K.l_call (Fx.cal rfl) rfl hl2 (K.pp [] rfl) rfl ?_
    rintro u h' H' - ⟨e, rfl, b2, rfl, hb2⟩
    obtain rfl := e.symm
    simp only [List.nil_append]
    cases b2 with
    | true =>
      (repeat' (first | refine X.rq ?_ | (refine X.rc ?_ ?_ <;> intro hc <;> first | (exfalso; omega) | skip)))
      refine K.l_callV (Fx.cal rfl) rfl (Alive h) (K.pp [] rfl) rfl rfl ?_
      simp only [List.nil_append]
      (repeat' (first | refine X.rq ?_ | (refine X.rc ?_ ?_ <;> intro hc <;> first | (exfalso; omega) | skip)))
      refine K.AT.sel [0, 0] rfl ?_
      refine K.done (by first | exact Or.inl rfl | exact Or.inr rfl) rfl (by first | exact K.Base.le.refl _ | assumption) (H' := []) rfl ⟨rfl, rfl⟩
    | false =>
      have hs2 := hb2 rfl
      have he1 := RecEncode h _ r hx0 hs1.small
      (repeat' (first | refine X.rq ?_ | (refine X.rc ?_ ?_ <;> intro hc <;> first | (exfalso; omega) | skip)))
      refine K.l_call (Fx.cal rfl) rfl he1 (K.pp [] rfl) rfl ?_
      rintro u h' H' - ⟨e, a1, c1, rfl, rfl⟩
      obtain rfl := e.symm
      simp only [List.cons_append, List.nil_append]
      refine K.WL.freezeBuf (fun h1 le1 hbv1 => ?_)
      have he2 := RecEncode h1 _ s (hy0.le le1) hs2.small
      (repeat' (first | refine X.rq ?_ | (refine X.rc ?_ ?_ <;> intro hc <;> first | (exfalso; omega) | skip)))
      refine K.l_call (Fx.cal rfl) rfl he2 (K.pp [] rfl) rfl ?_
      rintro u h' H' - ⟨e, a2, c2, rfl, rfl⟩
      obtain rfl := e.symm
      simp only [List.cons_append, List.nil_append]
      refine K.WL.freezeBuf (fun h2 le2 hbv2 => ?_)
      have hbv1 := hbv1.le le2
      have hx2 := (hx0.le le1).le le2
      have hy2 := (hy0.le le1).le le2
      have hle := le1.trans le2
      clear he1 he2 hl1 hl2
      cases hm1 : mayR r with
      | false =>
        rw [encR_no hm1] at hbv1 ⊢
        cases hm2 : mayR s with
        | false =>
          rw [encR_no hm2] at hbv2 ⊢
          (repeat' (first | refine X.rq ?_ | (refine X.rc ?_ ?_ <;> intro hc <;> first | (exfalso; omega) | skip)))
          refine K.l_callV (Fx.cal rfl) rfl (Alive h2) (K.pp [] rfl) rfl rfl ?_
          simp only [List.nil_append]
          (repeat' (first | refine X.rq ?_ | (refine X.rc ?_ ?_ <;> intro hc <;> first | (exfalso; omega) | skip)))
          refine K.AT.sel [0, 0] rfl ?_
          refine K.done (by first | exact Or.inl rfl | exact Or.inr rfl) rfl hle (H' := []) rfl ⟨rfl, rfl⟩
        | true =>
          rw [encR_yes hm2] at hbv2 ⊢
          (repeat' (first | refine X.rq ?_ | (refine X.rc ?_ ?_ <;> intro hc <;> first | (exfalso; omega) | skip)))
          refine K.l_callV (Fx.cal rfl) rfl (Alive h2) (K.pp [] rfl) rfl rfl ?_
          simp only [List.nil_append]
          (repeat' (first | refine X.rq ?_ | (refine X.rc ?_ ?_ <;> intro hc <;> first | (exfalso; omega) | skip)))
          refine K.AT.sel [0, 0] rfl ?_
          refine K.done (by first | exact Or.inl rfl | exact Or.inr rfl) rfl hle (H' := []) rfl ⟨rfl, rfl⟩
      | true =>
        rw [encR_yes hm1] at hbv1 ⊢
        cases hm2 : mayR s with
        | false =>
          rw [encR_no hm2] at hbv2 ⊢
          (repeat' (first | refine X.rq ?_ | (refine X.rc ?_ ?_ <;> intro hc <;> first | (exfalso; omega) | skip)))
          refine K.l_callV (Fx.cal rfl) rfl (Alive h2) (K.pp [] rfl) rfl rfl ?_
          simp only [List.nil_append]
          (repeat' (first | refine X.rq ?_ | (refine X.rc ?_ ?_ <;> intro hc <;> first | (exfalso; omega) | skip)))
          refine K.AT.sel [0, 0] rfl ?_
          refine K.done (by first | exact Or.inl rfl | exact Or.inr rfl) rfl hle (H' := []) rfl ⟨rfl, rfl⟩
        | true =>
          rw [encR_yes hm2] at hbv2 ⊢
          have hdec : decide (z0 r = z0 s) = decide ((⟨(encN r).toArray⟩ : ByteArray) = ⟨(encN s).toArray⟩) := by
            rw [Pg.text_eq, decide_eq_decide]
            exact (enc_same hm1 wx hm2 wy).symm
          have hsame := SameR h2 _ _ r s hx2 hy2
          rw [hdec] at hsame
          dsimp only at hbv1 hbv2
          (repeat' (first | refine X.rq ?_ | (refine X.rc ?_ ?_ <;> intro hc <;> first | (exfalso; omega) | skip)))
          refine X.draw ([blk B1 31 (cR r (.slice ad r.op.data.length cd) (.slice ai r.images.length ci) (.slice al r.lives.length cl) (.slice ay r.dirty.length cy)), blk B2 31 (cR s (.slice bd s.op.data.length dd) (.slice bi s.images.length di) (.slice bl s.lives.length dl) (.slice by_ s.dirty.length dy))]) [] (.pu 0 (.pu 2 (.st 1 (.st 3 (.pu 4 (.st 5 (.st 6 (.on 7 (.pu 8 (.pu 9 (.on 10 (.pu 11 (.pu 12 .nil))))))))))))) ?_
          refine K.d_pu rfl (fun _ _ => X.mv) rfl ?_
          refine K.d_pu rfl (fun _ _ => X.mv) rfl ?_
          refine K.d_st rfl (K.p_textB hbv1 (Fx.und rfl) (Fx.und rfl) (Fx.und rfl) rfl) rfl ?_
          refine K.d_st rfl (K.p_textB hbv2 (Fx.und rfl) (Fx.und rfl) (Fx.und rfl) rfl) rfl ?_
          refine K.d_pu rfl (fun _ _ => X.beql) rfl ?_
          refine K.d_st rfl X.ld rfl ?_
          refine K.d_st rfl X.ld rfl ?_
          refine K.d_on rfl (fun KK hKK => ?_)
          refine K.l_callV (Fx.cal rfl) rfl hsame (K.pp [] rfl) rfl rfl ?_
          simp only [List.nil_append]
          refine K.l_nil ?_
          refine X.onE hKK ?_
          refine K.d_pu rfl (fun _ _ => X.beql) rfl ?_
          rw [beq_self_eq_true]
          refine K.d_pu rfl (fun _ _ => X.mv) rfl ?_
          refine K.d_on rfl (fun KK hKK => ?_)
          refine K.s_take rfl rfl ?_
          refine K.l_callV (Fx.cal rfl) rfl (Alive h2) (K.pp [] rfl) rfl rfl ?_
          simp only [List.nil_append]
          refine K.l_nil ?_
          refine X.onE hKK ?_
          refine K.d_pu rfl (fun _ _ => X.pk) rfl ?_
          refine K.d_pu rfl (fun _ _ => X.sg) rfl ?_
          refine K.d_nil ?_
          (repeat' (first | refine X.rq ?_ | (refine X.rc ?_ ?_ <;> intro hc <;> first | (exfalso; omega) | skip)))
          refine K.AT.sel [0, 0] rfl ?_
          refine K.done (by first | exact Or.inl rfl | exact Or.inr rfl) rfl hle (H' := []) rfl ⟨rfl, rfl⟩
end Go.Proofs.Ytihambjhlhgaeaa.Rc
