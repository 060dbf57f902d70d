/-
 Records: their bytes, plainly; whether two are one, and a copy, in the document. Conditions: each theorem's own.
-/
import Derived.Test.YtijbhgiigddjdaaGreatPC36
import Derived.Test.YtijbhgiigddjdaaGreatPC6
set_option linter.unusedVariables false
set_option linter.unusedSimpArgs false
set_option maxRecDepth 10000
set_option maxHeartbeats 16000000
namespace Go.Proofs.YtijbhgiigddjdaaGreat.Rc
open Go.K Pg Cc

def Pf {α : Type} (V : α → Prop) (w : α → List UInt8) : Prop := ∀ x y r s, V x → V y → w x ++ r = w y ++ s → x = y ∧ r = s
theorem cu_pf : Pf (fun x => x < 18446744073709551616) cu := by
 intro x y r s hx hy h
 have h1 := front_cu x hx r
 have h2 := front_cu y hy s
 rw [h, h2] at h1
 have e := (Prod.mk.inj (Option.some.inj h1)).1
 subst e
 exact ⟨rfl, List.append_cancel_left h⟩
theorem byte_pf : Pf (fun x => x < 256) (fun x => lebs x 1) := by
 intro x y r s hx hy h
 obtain ⟨h1, h2⟩ := List.append_inj h (by rw [lebs_length, lebs_length])
 have := leNum_lebs 1 x (by omega)
 rw [show lebs x 1 = lebs y 1 from h1, leNum_lebs 1 y (by omega)] at this
 exact ⟨this.symm, h2⟩
theorem flat_pf {α : Type} {V : α → Prop} {w : α → List UInt8} (hw : Pf V w) : ∀ (l m : List α) r s, l.length = m.length → (∀ x ∈ l, V x) → (∀ x ∈ m, V x) → l.flatMap w ++ r = m.flatMap w ++ s → l = m ∧ r = s
 | [], [], r, s, _, _, _, h => ⟨rfl, by simpa using h⟩
 | [], _ :: _, _, _, h, _, _, _ => by simp at h
 | _ :: _, [], _, _, h, _, _, _ => by simp at h
 | x :: l, y :: m, r, s, hl, hx, hy, h => by
  rw [List.flatMap_cons, List.flatMap_cons, List.append_assoc, List.append_assoc] at h
  obtain ⟨rfl, h1⟩ := hw x y _ _ (hx x (List.mem_cons_self ..)) (hy y (List.mem_cons_self ..)) h
  obtain ⟨rfl, h2⟩ := flat_pf hw l m r s (by simpa using hl) (fun z hz => hx z (List.mem_cons_of_mem _ hz)) (fun z hz => hy z (List.mem_cons_of_mem _ hz)) h1
  exact ⟨rfl, h2⟩
theorem counted_pf {α : Type} {V : α → Prop} {w : α → List UInt8} (hw : Pf V w) (l m : List α) (r s : List UInt8) (hl : l.length < 18446744073709551616) (hm : m.length < 18446744073709551616) (hx : ∀ x ∈ l, V x) (hy : ∀ x ∈ m, V x)
  (h : cu l.length ++ (l.flatMap w ++ r) = cu m.length ++ (m.flatMap w ++ s)) : l = m ∧ r = s := by
 obtain ⟨h1, h2⟩ := cu_pf _ _ _ _ hl hm h
 exact flat_pf hw l m r s h1 hx hy h2
theorem data_pf (d e r s : List UInt8) (hd : d.length < 18446744073709551616) (he : e.length < 18446744073709551616) (h : cu d.length ++ (d ++ r) = cu e.length ++ (e ++ s)) : d = e ∧ r = s := by
 obtain ⟨h1, h2⟩ := cu_pf _ _ _ _ hd he h
 exact List.append_inj h2 h1
theorem cell_pf : Pf (fun z : PCell => okCell z ∧ z.killer < 4294967296) cellN := by
 intro x y r s hx hy h
 obtain ⟨⟨x1, x2⟩, x3⟩ := hx
 obtain ⟨⟨y1, y2⟩, y3⟩ := hy
 obtain ⟨xu, xk, xd⟩ := x
 obtain ⟨yu, yk, yd⟩ := y
 dsimp only at *
 unfold cellN at h
 dsimp only at h
 have hxl : xd.length < 18446744073709551616 := by
  cases xu with
  | true => have := x1 rfl; omega
  | false => have := x2 rfl; omega
 have hyl : yd.length < 18446744073709551616 := by
  cases yu with
  | true => have := y1 rfl; omega
  | false => have := y2 rfl; omega
 rw [List.append_assoc, List.append_assoc] at h
 obtain ⟨h1, h2⟩ := cu_pf _ _ _ _ hxl hyl h
 cases xu with
 | true =>
  have := x1 rfl
  cases yu with
  | true =>
   rw [if_pos rfl, if_pos rfl, List.append_assoc, List.append_assoc] at h2
   obtain ⟨rfl, h3⟩ := cu_pf _ _ _ _ (by omega) (by omega) h2
   obtain ⟨rfl, h4⟩ := List.append_inj h3 h1
   exact ⟨rfl, h4⟩
  | false => have := y2 rfl; omega
 | false =>
  obtain ⟨rfl, e0⟩ := x2 rfl
  cases yu with
  | true => have := y1 rfl; omega
  | false =>
   obtain ⟨rfl, e1⟩ := y2 rfl
   rw [if_neg (by decide), if_neg (by decide)] at h2
   obtain rfl := List.eq_nil_of_length_eq_zero e0
   obtain rfl := List.eq_nil_of_length_eq_zero e1
   exact ⟨rfl, by simpa using h2⟩
theorem pag_pf : Pf (fun y : Pag => mayQ y = true ∧ y.lsn = 0 ∧ y.next < 4294967296 ∧ ∀ z ∈ y.cells, z.killer < 4294967296) pagN := by
 intro x y r s hx hy h
 obtain ⟨x1, x2, x3, x4⟩ := hx
 obtain ⟨y1, y2, y3, y4⟩ := hy
 have xo := may_ok x1
 have yo := may_ok y1
 obtain ⟨⟨xk1, xk3⟩, x60, _, _⟩ := (mayQ_iff x).1 x1
 obtain ⟨⟨yk1, yk3⟩, y60, _, _⟩ := (mayQ_iff y).1 y1
 unfold pagN cellsN at h
 simp only [List.append_assoc] at h
 obtain ⟨h1, h⟩ := byte_pf _ _ _ _ (by omega) (by omega) h
 obtain ⟨h2, h⟩ := cu_pf _ _ _ _ (by omega) (by omega) h
 obtain ⟨h3, h4⟩ := counted_pf cell_pf x.cells y.cells r s (by omega) (by omega) (fun z hz => ⟨xo z hz, x4 z hz⟩) (fun z hz => ⟨yo z hz, y4 z hz⟩) h
 refine ⟨?_, h4⟩
 obtain ⟨a1, a2, a3, a4⟩ := x
 obtain ⟨b1, b2, b3, b4⟩ := y
 dsimp only at *
 subst x2 y2 h2 h3
 rw [show a1 = b1 by omega]
theorem img_pf : Pf (fun x : PImg => imgQ x = true ∧ x.page < 4294967296 ∧ x.to.next < 4294967296 ∧ ∀ z ∈ x.to.cells, z.killer < 4294967296) imgN := by
 intro x y r s hx hy h
 obtain ⟨x1, x2, x3⟩ := hx
 obtain ⟨y1, y2, y3⟩ := hy
 unfold imgQ at x1 y1
 rw [Bool.and_eq_true, decide_eq_true_eq] at x1 y1
 unfold imgN at h
 rw [List.append_assoc, List.append_assoc] at h
 obtain ⟨h1, h⟩ := cu_pf _ _ _ _ (by omega) (by omega) h
 obtain ⟨h2, hz⟩ := pag_pf _ _ _ _ ⟨x1.1, x1.2, x3⟩ ⟨y1.1, y1.2, y3⟩ h
 obtain ⟨a1, a2⟩ := x
 obtain ⟨b1, b2⟩ := y
 dsimp only at *
 subst h1 h2
 exact ⟨rfl, hz⟩
theorem live_pf : Pf wfL liveN := by
 intro x y r s hx hy h
 obtain ⟨x1, x2, x3⟩ := hx
 obtain ⟨y1, y2, y3⟩ := hy
 unfold liveN at h
 simp only [List.append_assoc] at h
 obtain ⟨h1, h⟩ := cu_pf _ _ _ _ (by omega) (by omega) h
 obtain ⟨h2, h⟩ := cu_pf _ _ _ _ x2 y2 h
 obtain ⟨h3, h⟩ := cu_pf _ _ _ _ x3 y3 h
 obtain ⟨h4, hz⟩ := List.append_inj h rfl
 obtain ⟨a1, a2, a3, a4⟩ := x
 obtain ⟨b1, b2, b3, b4⟩ := y
 dsimp only at *
 subst h1 h2 h3
 refine ⟨?_, hz⟩
 cases a4 <;> cases b4 <;> first | rfl | (exfalso; clear hz x1 y1 x2 y2 x3 y3; exact absurd h4 (fun e => by simp at e))
theorem dirt_pf : Pf wfD dirtN := by
 intro x y r s hx hy h
 obtain ⟨x1, x2⟩ := hx
 obtain ⟨y1, y2⟩ := hy
 unfold dirtN at h
 simp only [List.append_assoc] at h
 obtain ⟨h1, h⟩ := cu_pf _ _ _ _ (by omega) (by omega) h
 obtain ⟨h2, hz⟩ := cu_pf _ _ _ _ x2 y2 h
 obtain ⟨a1, a2⟩ := x
 obtain ⟨b1, b2⟩ := y
 dsimp only at *
 subst h1 h2
 exact ⟨rfl, hz⟩
def z0 (r : Recd) : Recd := { r with lsn := 0 }
theorem body_lsn (r : Recd) : bodyN (z0 r) = bodyN r := rfl
theorem bareP_z0 {r : Recd} (h : bareP r) : bareP (z0 r) := ⟨h.txn, h.prev, h.undo, h.op, h.check, h.shape⟩
theorem body_inj {y z : Recd} (hy : mayR y = true) (wy : wfX y) (hz : mayR z = true) (wz : wfX z) (h : bodyN y = bodyN z) : z0 y = z0 z := by
 obtain ⟨⟨⟨yk1, yk8⟩, yb, _, yd, _, _, yi, _, _⟩, _⟩ := may_okR hy
 obtain ⟨⟨⟨zk1, zk8⟩, zb, _, zd, _, _, zi, _, _⟩, _⟩ := may_okR hz
 obtain ⟨⟨_, _, y1, y2, y3, y4, y5, ⟨_, _, y6, y7⟩, y8, y9, y10, y11, y12, y13⟩, y14⟩ := wy
 obtain ⟨⟨_, _, z1, z2, z3, z4, z5, ⟨_, _, z6, z7⟩, z8, z9, z10, z11, z12, z13⟩, z14⟩ := wz
 unfold bodyN at h
 obtain ⟨hk, h⟩ := byte_pf _ _ _ _ (by omega) (by omega) h
 have hkk : y.kind = z.kind := by omega
 have h' : fieldsN y ++ [] = fieldsN z ++ [] := by rw [h]
 unfold fieldsN at h'
 rw [← hkk] at h'
 rw [← hkk] at zd
 have hc : y.kind = 1 ∨ (y.kind = 5 ∨ y.kind = 6 ∨ y.kind = 7) ∨ y.kind = 2 ∨ y.kind = 3 ∨ y.kind = 4 ∨ y.kind = 8 := by omega
 rcases hc with k | k | k | k | k | k
 ·have p0 : y.kind = 1 := k
  simp only [if_pos p0] at h'
  obtain ⟨e1, _⟩ := cu_pf _ _ _ _ (by omega) (by omega) h'
  rw [eq_1 yb k, eq_1 zb (by omega), e1]; rfl
 ·have n0 : ¬ y.kind = 1 := by omega
  have p0 : y.kind = 5 ∨ y.kind = 6 ∨ y.kind = 7 := k
  simp only [if_neg n0, if_pos p0] at h'
  simp only [List.append_assoc] at h'
  obtain ⟨e1, h'⟩ := cu_pf _ _ _ _ (by omega) (by omega) h'
  obtain ⟨e2, _⟩ := cu_pf _ _ _ _ y2 z2 h'
  rw [eq_5 yb k, eq_5 zb (by omega), e1, e2, hkk]; rfl
 ·have n0 : ¬ y.kind = 1 := by omega
  have n1 : ¬ (y.kind = 5 ∨ y.kind = 6 ∨ y.kind = 7) := by omega
  have n2 : ¬ y.kind = 3 := by omega
  have p0 : y.kind = 2 ∨ y.kind = 3 := .inl k
  simp only [if_neg n0, if_neg n1, if_neg n2, if_pos p0] at h'
  obtain ⟨_, _, yo, ys, yt⟩ := yd (.inl k)
  obtain ⟨_, _, zo, zs, zt⟩ := zd (.inl k)
  unfold opN at h'
  simp only [List.append_assoc, List.nil_append] at h'
  obtain ⟨e1, h'⟩ := cu_pf _ _ _ _ (by omega) (by omega) h'
  obtain ⟨e2, h'⟩ := cu_pf _ _ _ _ y2 z2 h'
  obtain ⟨e3, h'⟩ := cu_pf _ _ _ _ (by omega) (by omega) h'
  obtain ⟨e4, h'⟩ := cu_pf _ _ _ _ (by omega) (by omega) h'
  obtain ⟨e5, h'⟩ := byte_pf _ _ _ _ (by have := yo.2.1; omega) (by have := zo.2.1; omega) h'
  obtain ⟨e6, h'⟩ := cu_pf _ _ _ _ (by omega) (by omega) h'
  obtain ⟨e7, h'⟩ := cu_pf _ _ _ _ (by omega) (by omega) h'
  obtain ⟨e8, _⟩ := data_pf _ _ _ _ (by omega) (by omega) h'
  have e9 : y.op = z.op := by
   have := yo.2.1
   have := zo.2.1
   cases hyo : y.op with
   | mk a1 a2 a3 a4 =>
    cases hzo : z.op with
    | mk b1 b2 b3 b4 =>
     rw [hyo] at e5 e6 e7 e8 ys yo
     rw [hzo] at e5 e6 e7 e8 zs zo
     dsimp only at *
     have yk : 1 ≤ a1 ∧ a1 ≤ 4 := yo.2.1
     have zk : 1 ≤ b1 ∧ b1 ≤ 4 := zo.2.1
     rw [show a1 = b1 by omega, show a2 = b2 by omega, e7, e8]
  rw [eq_2 yb k, eq_2 zb (by omega), e1, e2, e3, e4, e9]; rfl
 ·have n0 : ¬ y.kind = 1 := by omega
  have n1 : ¬ (y.kind = 5 ∨ y.kind = 6 ∨ y.kind = 7) := by omega
  have p0 : y.kind = 2 ∨ y.kind = 3 := .inr k
  have p1 : y.kind = 3 := k
  simp only [if_neg n0, if_neg n1, if_pos p0, if_pos p1] at h'
  obtain ⟨_, _, yo, ys, yt⟩ := yd (.inr k)
  obtain ⟨_, _, zo, zs, zt⟩ := zd (.inr k)
  unfold opN at h'
  simp only [List.append_assoc, List.nil_append] at h'
  obtain ⟨e1, h'⟩ := cu_pf _ _ _ _ (by omega) (by omega) h'
  obtain ⟨e2, h'⟩ := cu_pf _ _ _ _ y2 z2 h'
  obtain ⟨e0, h'⟩ := cu_pf _ _ _ _ y3 z3 h'
  obtain ⟨e3, h'⟩ := cu_pf _ _ _ _ (by omega) (by omega) h'
  obtain ⟨e4, h'⟩ := cu_pf _ _ _ _ (by omega) (by omega) h'
  obtain ⟨e5, h'⟩ := byte_pf _ _ _ _ (by have := yo.2.1; omega) (by have := zo.2.1; omega) h'
  obtain ⟨e6, h'⟩ := cu_pf _ _ _ _ (by omega) (by omega) h'
  obtain ⟨e7, h'⟩ := cu_pf _ _ _ _ (by omega) (by omega) h'
  obtain ⟨e8, _⟩ := data_pf _ _ _ _ (by omega) (by omega) h'
  have e9 : y.op = z.op := by
   cases hyo : y.op with
   | mk a1 a2 a3 a4 =>
    cases hzo : z.op with
    | mk b1 b2 b3 b4 =>
     rw [hyo] at e5 e6 e7 e8 ys yo
     rw [hzo] at e5 e6 e7 e8 zs zo
     dsimp only at *
     have yk : 1 ≤ a1 ∧ a1 ≤ 4 := yo.2.1
     have zk : 1 ≤ b1 ∧ b1 ≤ 4 := zo.2.1
     rw [show a1 = b1 by omega, show a2 = b2 by omega, e7, e8]
  rw [eq_3 yb k, eq_3 zb (by omega), e1, e2, e0, e3, e4, e9]; rfl
 ·have n0 : ¬ y.kind = 1 := by omega
  have n1 : ¬ (y.kind = 5 ∨ y.kind = 6 ∨ y.kind = 7) := by omega
  have n2 : ¬ (y.kind = 2 ∨ y.kind = 3) := by omega
  have p0 : y.kind = 4 := k
  simp only [if_neg n0, if_neg n1, if_neg n2, if_pos p0] at h'
  simp only [List.append_assoc] at h'
  obtain ⟨e1, _⟩ := counted_pf img_pf _ _ _ _ (by omega) (by omega) (fun x hx => ⟨yi x hx, y14 x hx⟩) (fun x hx => ⟨zi x hx, z14 x hx⟩) h'
  rw [eq_4 yb k, eq_4 zb (by omega), e1]; rfl
 ·have n0 : ¬ y.kind = 1 := by omega
  have n1 : ¬ (y.kind = 5 ∨ y.kind = 6 ∨ y.kind = 7) := by omega
  have n2 : ¬ (y.kind = 2 ∨ y.kind = 3) := by omega
  have n3 : ¬ y.kind = 4 := by omega
  have p0 : y.kind = 8 := k
  simp only [if_neg n0, if_neg n1, if_neg n2, if_neg n3, if_pos p0] at h'
  simp only [List.append_assoc] at h'
  obtain ⟨e1, h'⟩ := counted_pf live_pf _ _ _ _ (by omega) (by omega) y12 z12 h'
  obtain ⟨e2, h'⟩ := counted_pf dirt_pf _ _ _ _ (by omega) (by omega) y13 z13 h'
  obtain ⟨e3, _⟩ := cu_pf _ _ _ _ (by omega) (by omega) h'
  rw [eq_8 yb k, eq_8 zb (by omega), e1, e2, e3]; rfl
theorem z0_of {r : Recd} (h : r.lsn = 0) : z0 r = r := by
 obtain ⟨_, _, _, _, _, _, _, _, _, _, _, _⟩ := r
 dsimp only at h
 rw [h]; rfl
theorem dec_one {b : List UInt8} {r r' : Recd} {n n' : Nat} {e e' : Int} (h : Dec b r n e) (h' : Dec b r' n' e') : r = r' ∧ n = n' ∧ e = e' := by
 rcases h with ⟨h1, rfl, rfl, rfl⟩ | ⟨h1, h2, rfl, rfl, rfl⟩ | ⟨h1, h2, h3, rfl, rfl, rfl⟩ | ⟨h1, h2, h3, h4, rfl, rfl, rfl⟩ | ⟨h1, h2, h3, h4, h5, rfl, rfl⟩ <;>
  rcases h' with ⟨g1, rfl, rfl, rfl⟩ | ⟨g1, g2, rfl, rfl, rfl⟩ | ⟨g1, g2, g3, rfl, rfl, rfl⟩ | ⟨g1, g2, g3, g4, rfl, rfl, rfl⟩ | ⟨g1, g2, g3, g4, g5, rfl, rfl⟩ <;>
  first | exact ⟨rfl, rfl, rfl⟩ | (exfalso; omega) | exact absurd ⟨_, g4, g5⟩ h4 | exact absurd ⟨_, h4, h5⟩ g4 | skip
 refine ⟨?_, rfl, rfl⟩
 rw [← z0_of h4.2.1, ← z0_of g4.2.1]
 exact body_inj h4.1 h4.2.2 g4.1 g4.2.2 (h5.trans g5.symm)
theorem encN_len {r : Recd} (h : mayR r = true) : 3 ≤ (encN r).length ∧ (encN r).length ≤ 16384 := by
 have := (may_okR h).2
 unfold encN
 rw [List.length_append, lebs_length]
 refine ⟨?_, by omega⟩
 unfold bodyN
 rw [List.length_append, lebs_length]
 omega
theorem may_z0 (r : Recd) : mayR (z0 r) = mayR r := by
 unfold mayR
 congr 1
 rw [decide_eq_decide]
 constructor
 ·rintro ⟨a, b, c⟩
  exact ⟨a, ⟨b.txn, b.prev, b.undo, b.op, b.check, b.shape⟩, c⟩
 ·rintro ⟨a, b, c⟩
  exact ⟨a, bareP_z0 b, c⟩
theorem wfX_z0 {r : Recd} (h : wfX r) : wfX (z0 r) := ⟨⟨h.1.kind, (by decide : (0 : Nat) < 18446744073709551616), h.1.txn, h.1.prev, h.1.undo, h.1.page, h.1.root, h.1.op, h.1.next, h.1.images, h.1.lives, h.1.dirty, h.1.live, h.1.dirt⟩, h.2⟩
theorem hdN_enc {r : Recd} (h : mayR r = true) (rest : List UInt8) : hdN (encN r ++ rest) = (encN r).length := by
 have h2 := (may_okR h).2
 unfold hdN
 rw [List.take_append_of_le_length (by have := encN_len h; omega)]
 have hl : (encN r).length = (bodyN r).length + 2 := by unfold encN; rw [List.length_append, lebs_length]; omega
 rw [hl]
 unfold encN
 rw [List.take_append_of_le_length (by rw [lebs_length]; omega), List.take_of_length_le (by rw [lebs_length]; omega)]
 exact leNum_lebs 2 _ (by omega)
theorem dec_enc {r : Recd} (h : mayR r = true) (w : wfX r) (rest : List UInt8) : Dec (encN r ++ rest) (z0 r) (encN r).length 0 := by
 have hn := encN_len h
 have hd := hdN_enc h rest
 refine .inr (.inr (.inr (.inr ⟨by rw [List.length_append]; omega, by rw [hd]; omega, by rw [hd, List.length_append]; omega, ⟨by rw [may_z0]; exact h, rfl, wfX_z0 w⟩, ?_, hd.symm, rfl⟩)))
 rw [hd, List.take_left, body_lsn]
 unfold encN
 rw [List.drop_append_of_le_length (by rw [lebs_length]; omega), List.drop_of_length_le (by rw [lebs_length]; omega), List.nil_append]
theorem dec_cut {r : Recd} (h : mayR r = true) {k : Nat} (hk : k < (encN r).length) : Dec ((encN r).take k) zR 0 6 := by
 have hn := encN_len h
 have hl : ((encN r).take k).length = k := by rw [List.length_take]; omega
 by_cases h2 : k < 2
 ·exact .inl ⟨by omega, rfl, rfl, rfl⟩
 ·have hd : hdN ((encN r).take k) = (encN r).length := by
   have := hdN_enc h []
   rw [List.append_nil] at this
   rw [← this]
   unfold hdN
   rw [List.take_take, Nat.min_eq_left (by omega)]
  exact .inr (.inr (.inl ⟨by omega, by rw [hd]; omega, by rw [hd]; omega, rfl, rfl, rfl⟩))
end Go.Proofs.YtijbhgiigddjdaaGreat.Rc
