/-
 Records: their bytes, plainly; whether two are one, and a copy, in the document. Conditions: each theorem's own.
-/
import Derived.Test.YtmcdaegaopfihaaGreatY24
import Derived.Test.YtmcdaegaopfihaaGreatY8
namespace Go.Proofs.YtmcdaegaopfihaaGreat.Rc
open Go Go.K Go.Proofs Go.Proofs.YtmcdaegaopfihaaGreat Go.Proofs.YtmcdaegaopfihaaGreat.Pg Go.Proofs.YtmcdaegaopfihaaGreat.Cc
set_option linter.unusedVariables false
set_option linter.unusedSimpArgs false
set_option maxRecDepth 10000

def Pf {α : Type} (V : α → Prop) (w : α → List UInt8) : Prop := ∀ x y r s, V x → V y → w x ++ r = w y ++ s → x = y ∧ r = s
theorem cu_pf : Pf (fun x => x < 18446744073709551616) cu := by
 intro x y r s hx hy h
 have h1 := front_cu x hx r
 have h2 := front_cu y hy s
 rw [h, h2] at h1
 have e := (Prod.mk.inj (Option.some.inj h1)).1
 subst e
 exact ⟨rfl, List.append_cancel_left h⟩
theorem byte_pf : Pf (fun x => x < 256) (fun x => lebs x 1) := by
 intro x y r s hx hy h
 obtain ⟨h1, h2⟩ := List.append_inj h (by rw [lebs_length, lebs_length])
 have := leNum_lebs 1 x (by omega)
 rw [show lebs x 1 = lebs y 1 from h1, leNum_lebs 1 y (by omega)] at this
 exact ⟨this.symm, h2⟩
theorem flat_pf {α : Type} {V : α → Prop} {w : α → List UInt8} (hw : Pf V w) : ∀ (l m : List α) r s, l.length = m.length → (∀ x ∈ l, V x) → (∀ x ∈ m, V x) → l.flatMap w ++ r = m.flatMap w ++ s → l = m ∧ r = s
 | [], [], r, s, _, _, _, h => ⟨rfl, by simpa using h⟩
 | [], _ :: _, _, _, h, _, _, _ => by simp at h
 | _ :: _, [], _, _, h, _, _, _ => by simp at h
 | x :: l, y :: m, r, s, hl, hx, hy, h => by
  rw [List.flatMap_cons, List.flatMap_cons, List.append_assoc, List.append_assoc] at h
  obtain ⟨rfl, h1⟩ := hw x y _ _ (hx x (List.mem_cons_self ..)) (hy y (List.mem_cons_self ..)) h
  obtain ⟨rfl, h2⟩ := flat_pf hw l m r s (by simpa using hl) (fun z hz => hx z (List.mem_cons_of_mem _ hz)) (fun z hz => hy z (List.mem_cons_of_mem _ hz)) h1
  exact ⟨rfl, h2⟩
theorem counted_pf {α : Type} {V : α → Prop} {w : α → List UInt8} (hw : Pf V w) (l m : List α) (r s : List UInt8) (hl : l.length < 18446744073709551616) (hm : m.length < 18446744073709551616) (hx : ∀ x ∈ l, V x) (hy : ∀ x ∈ m, V x)
  (h : cu l.length ++ (l.flatMap w ++ r) = cu m.length ++ (m.flatMap w ++ s)) : l = m ∧ r = s := by
 obtain ⟨h1, h2⟩ := cu_pf _ _ _ _ hl hm h
 exact flat_pf hw l m r s h1 hx hy h2
theorem data_pf (d e r s : List UInt8) (hd : d.length < 18446744073709551616) (he : e.length < 18446744073709551616) (h : cu d.length ++ (d ++ r) = cu e.length ++ (e ++ s)) : d = e ∧ r = s := by
 obtain ⟨h1, h2⟩ := cu_pf _ _ _ _ hd he h
 exact List.append_inj h2 h1
theorem cell_pf : Pf (fun z : PCell => okCell z ∧ z.killer < 4294967296) cellN := by
 intro x y r s hx hy h
 obtain ⟨⟨x1, x2⟩, x3⟩ := hx
 obtain ⟨⟨y1, y2⟩, y3⟩ := hy
 obtain ⟨xu, xk, xd⟩ := x
 obtain ⟨yu, yk, yd⟩ := y
 dsimp only at *
 unfold cellN at h
 dsimp only at h
 have hxl : xd.length < 18446744073709551616 := by
  cases xu with
  | true => have := x1 rfl; omega
  | false => have := x2 rfl; omega
 have hyl : yd.length < 18446744073709551616 := by
  cases yu with
  | true => have := y1 rfl; omega
  | false => have := y2 rfl; omega
 rw [List.append_assoc, List.append_assoc] at h
 obtain ⟨h1, h2⟩ := cu_pf _ _ _ _ hxl hyl h
 cases xu with
 | true =>
  have := x1 rfl
  cases yu with
  | true =>
   rw [if_pos rfl, if_pos rfl, List.append_assoc, List.append_assoc] at h2
   obtain ⟨rfl, h3⟩ := cu_pf _ _ _ _ (by omega) (by omega) h2
   obtain ⟨rfl, h4⟩ := List.append_inj h3 h1
   exact ⟨rfl, h4⟩
  | false => have := y2 rfl; omega
 | false =>
  obtain ⟨rfl, e0⟩ := x2 rfl
  cases yu with
  | true => have := y1 rfl; omega
  | false =>
   obtain ⟨rfl, e1⟩ := y2 rfl
   rw [if_neg (by decide), if_neg (by decide)] at h2
   obtain rfl := List.eq_nil_of_length_eq_zero e0
   obtain rfl := List.eq_nil_of_length_eq_zero e1
   exact ⟨rfl, by simpa using h2⟩
theorem pag_pf : Pf (fun y : Pag => mayQ y = true ∧ y.lsn = 0 ∧ y.next < 4294967296 ∧ ∀ z ∈ y.cells, z.killer < 4294967296) pagN := by
 intro x y r s hx hy h
 obtain ⟨x1, x2, x3, x4⟩ := hx
 obtain ⟨y1, y2, y3, y4⟩ := hy
 have xo := may_ok x1
 have yo := may_ok y1
 obtain ⟨⟨xk1, xk3⟩, x60, _, _⟩ := (mayQ_iff x).1 x1
 obtain ⟨⟨yk1, yk3⟩, y60, _, _⟩ := (mayQ_iff y).1 y1
 unfold pagN cellsN at h
 simp only [List.append_assoc] at h
 obtain ⟨h1, h⟩ := byte_pf _ _ _ _ (by omega) (by omega) h
 obtain ⟨h2, h⟩ := cu_pf _ _ _ _ (by omega) (by omega) h
 obtain ⟨h3, h4⟩ := counted_pf cell_pf x.cells y.cells r s (by omega) (by omega) (fun z hz => ⟨xo z hz, x4 z hz⟩) (fun z hz => ⟨yo z hz, y4 z hz⟩) h
 refine ⟨?_, h4⟩
 obtain ⟨a1, a2, a3, a4⟩ := x
 obtain ⟨b1, b2, b3, b4⟩ := y
 dsimp only at *
 subst x2 y2 h2 h3
 rw [show a1 = b1 by omega]
theorem img_pf : Pf (fun x : PImg => imgQ x = true ∧ x.page < 4294967296 ∧ x.to.next < 4294967296 ∧ ∀ z ∈ x.to.cells, z.killer < 4294967296) imgN := by
 intro x y r s hx hy h
 obtain ⟨x1, x2, x3⟩ := hx
 obtain ⟨y1, y2, y3⟩ := hy
 unfold imgQ at x1 y1
 rw [Bool.and_eq_true, decide_eq_true_eq] at x1 y1
 unfold imgN at h
 rw [List.append_assoc, List.append_assoc] at h
 obtain ⟨h1, h⟩ := cu_pf _ _ _ _ (by omega) (by omega) h
 obtain ⟨h2, hz⟩ := pag_pf _ _ _ _ ⟨x1.1, x1.2, x3⟩ ⟨y1.1, y1.2, y3⟩ h
 obtain ⟨a1, a2⟩ := x
 obtain ⟨b1, b2⟩ := y
 dsimp only at *
 subst h1 h2
 exact ⟨rfl, hz⟩
theorem live_pf : Pf wfL liveN := by
 intro x y r s hx hy h
 obtain ⟨x1, x2, x3⟩ := hx
 obtain ⟨y1, y2, y3⟩ := hy
 unfold liveN at h
 simp only [List.append_assoc] at h
 obtain ⟨h1, h⟩ := cu_pf _ _ _ _ (by omega) (by omega) h
 obtain ⟨h2, h⟩ := cu_pf _ _ _ _ x2 y2 h
 obtain ⟨h3, h⟩ := cu_pf _ _ _ _ x3 y3 h
 obtain ⟨h4, hz⟩ := List.append_inj h rfl
 obtain ⟨a1, a2, a3, a4⟩ := x
 obtain ⟨b1, b2, b3, b4⟩ := y
 dsimp only at *
 subst h1 h2 h3
 refine ⟨?_, hz⟩
 cases a4 <;> cases b4 <;> first | rfl | (exfalso; clear hz x1 y1 x2 y2 x3 y3; exact absurd h4 (fun e => by simp at e))
theorem dirt_pf : Pf wfD dirtN := by
 intro x y r s hx hy h
 obtain ⟨x1, x2⟩ := hx
 obtain ⟨y1, y2⟩ := hy
 unfold dirtN at h
 simp only [List.append_assoc] at h
 obtain ⟨h1, h⟩ := cu_pf _ _ _ _ (by omega) (by omega) h
 obtain ⟨h2, hz⟩ := cu_pf _ _ _ _ x2 y2 h
 obtain ⟨a1, a2⟩ := x
 obtain ⟨b1, b2⟩ := y
 dsimp only at *
 subst h1 h2
 exact ⟨rfl, hz⟩
def z0 (r : Recd) : Recd := { r with lsn := 0 }
theorem body_lsn (r : Recd) : bodyN (z0 r) = bodyN r := rfl
theorem bareP_z0 {r : Recd} (h : bareP r) : bareP (z0 r) := ⟨h.txn, h.prev, h.undo, h.op, h.check, h.shape⟩
theorem body_inj {y z : Recd} (hy : mayR y = true) (wy : wfX y) (hz : mayR z = true) (wz : wfX z) (h : bodyN y = bodyN z) : z0 y = z0 z := by
 obtain ⟨⟨⟨yk1, yk8⟩, yb, _, yd, _, _, yi, _, _⟩, _⟩ := may_okR hy
 obtain ⟨⟨⟨zk1, zk8⟩, zb, _, zd, _, _, zi, _, _⟩, _⟩ := may_okR hz
 obtain ⟨⟨_, _, y1, y2, y3, y4, y5, ⟨_, _, y6, y7⟩, y8, y9, y10, y11, y12, y13⟩, y14⟩ := wy
 obtain ⟨⟨_, _, z1, z2, z3, z4, z5, ⟨_, _, z6, z7⟩, z8, z9, z10, z11, z12, z13⟩, z14⟩ := wz
 unfold bodyN at h
 obtain ⟨hk, h⟩ := byte_pf _ _ _ _ (by omega) (by omega) h
 have hkk : y.kind = z.kind := by omega
 have h' : fieldsN y ++ [] = fieldsN z ++ [] := by rw [h]
 unfold fieldsN at h'
 rw [← hkk] at h'
 rw [← hkk] at zd
 have hc : y.kind = 1 ∨ (y.kind = 5 ∨ y.kind = 6 ∨ y.kind = 7) ∨ y.kind = 2 ∨ y.kind = 3 ∨ y.kind = 4 ∨ y.kind = 8 := by omega
 rcases hc with k | k | k | k | k | k
 ·have p0 : y.kind = 1 := k
  simp only [if_pos p0] at h'
  obtain ⟨e1, _⟩ := cu_pf _ _ _ _ (by omega) (by omega) h'
  rw [eq_1 yb k, eq_1 zb (by omega), e1]; rfl
 ·have n0 : ¬ y.kind = 1 := by omega
  have p0 : y.kind = 5 ∨ y.kind = 6 ∨ y.kind = 7 := k
  simp only [if_neg n0, if_pos p0] at h'
  simp only [List.append_assoc] at h'
  obtain ⟨e1, h'⟩ := cu_pf _ _ _ _ (by omega) (by omega) h'
  obtain ⟨e2, _⟩ := cu_pf _ _ _ _ y2 z2 h'
  rw [eq_5 yb k, eq_5 zb (by omega), e1, e2, hkk]; rfl
 ·have n0 : ¬ y.kind = 1 := by omega
  have n1 : ¬ (y.kind = 5 ∨ y.kind = 6 ∨ y.kind = 7) := by omega
  have n2 : ¬ y.kind = 3 := by omega
  have p0 : y.kind = 2 ∨ y.kind = 3 := .inl k
  simp only [if_neg n0, if_neg n1, if_neg n2, if_pos p0] at h'
  obtain ⟨_, _, yo, ys, yt⟩ := yd (.inl k)
  obtain ⟨_, _, zo, zs, zt⟩ := zd (.inl k)
  unfold opN at h'
  simp only [List.append_assoc, List.nil_append] at h'
  obtain ⟨e1, h'⟩ := cu_pf _ _ _ _ (by omega) (by omega) h'
  obtain ⟨e2, h'⟩ := cu_pf _ _ _ _ y2 z2 h'
  obtain ⟨e3, h'⟩ := cu_pf _ _ _ _ (by omega) (by omega) h'
  obtain ⟨e4, h'⟩ := cu_pf _ _ _ _ (by omega) (by omega) h'
  obtain ⟨e5, h'⟩ := byte_pf _ _ _ _ (by have := yo.2.1; omega) (by have := zo.2.1; omega) h'
  obtain ⟨e6, h'⟩ := cu_pf _ _ _ _ (by omega) (by omega) h'
  obtain ⟨e7, h'⟩ := cu_pf _ _ _ _ (by omega) (by omega) h'
  obtain ⟨e8, _⟩ := data_pf _ _ _ _ (by omega) (by omega) h'
  have e9 : y.op = z.op := by
   have := yo.2.1
   have := zo.2.1
   cases hyo : y.op with
   | mk a1 a2 a3 a4 =>
    cases hzo : z.op with
    | mk b1 b2 b3 b4 =>
     rw [hyo] at e5 e6 e7 e8 ys yo
     rw [hzo] at e5 e6 e7 e8 zs zo
     dsimp only at *
     have yk : 1 ≤ a1 ∧ a1 ≤ 4 := yo.2.1
     have zk : 1 ≤ b1 ∧ b1 ≤ 4 := zo.2.1
     rw [show a1 = b1 by omega, show a2 = b2 by omega, e7, e8]
  rw [eq_2 yb k, eq_2 zb (by omega), e1, e2, e3, e4, e9]; rfl
 ·have n0 : ¬ y.kind = 1 := by omega
  have n1 : ¬ (y.kind = 5 ∨ y.kind = 6 ∨ y.kind = 7) := by omega
  have p0 : y.kind = 2 ∨ y.kind = 3 := .inr k
  have p1 : y.kind = 3 := k
  simp only [if_neg n0, if_neg n1, if_pos p0, if_pos p1] at h'
  obtain ⟨_, _, yo, ys, yt⟩ := yd (.inr k)
  obtain ⟨_, _, zo, zs, zt⟩ := zd (.inr k)
  unfold opN at h'
  simp only [List.append_assoc, List.nil_append] at h'
  obtain ⟨e1, h'⟩ := cu_pf _ _ _ _ (by omega) (by omega) h'
  obtain ⟨e2, h'⟩ := cu_pf _ _ _ _ y2 z2 h'
  obtain ⟨e0, h'⟩ := cu_pf _ _ _ _ y3 z3 h'
  obtain ⟨e3, h'⟩ := cu_pf _ _ _ _ (by omega) (by omega) h'
  obtain ⟨e4, h'⟩ := cu_pf _ _ _ _ (by omega) (by omega) h'
  obtain ⟨e5, h'⟩ := byte_pf _ _ _ _ (by have := yo.2.1; omega) (by have := zo.2.1; omega) h'
  obtain ⟨e6, h'⟩ := cu_pf _ _ _ _ (by omega) (by omega) h'
  obtain ⟨e7, h'⟩ := cu_pf _ _ _ _ (by omega) (by omega) h'
  obtain ⟨e8, _⟩ := data_pf _ _ _ _ (by omega) (by omega) h'
  have e9 : y.op = z.op := by
   cases hyo : y.op with
   | mk a1 a2 a3 a4 =>
    cases hzo : z.op with
    | mk b1 b2 b3 b4 =>
     rw [hyo] at e5 e6 e7 e8 ys yo
     rw [hzo] at e5 e6 e7 e8 zs zo
     dsimp only at *
     have yk : 1 ≤ a1 ∧ a1 ≤ 4 := yo.2.1
     have zk : 1 ≤ b1 ∧ b1 ≤ 4 := zo.2.1
     rw [show a1 = b1 by omega, show a2 = b2 by omega, e7, e8]
  rw [eq_3 yb k, eq_3 zb (by omega), e1, e2, e0, e3, e4, e9]; rfl
 ·have n0 : ¬ y.kind = 1 := by omega
  have n1 : ¬ (y.kind = 5 ∨ y.kind = 6 ∨ y.kind = 7) := by omega
  have n2 : ¬ (y.kind = 2 ∨ y.kind = 3) := by omega
  have p0 : y.kind = 4 := k
  simp only [if_neg n0, if_neg n1, if_neg n2, if_pos p0] at h'
  simp only [List.append_assoc] at h'
  obtain ⟨e1, _⟩ := counted_pf img_pf _ _ _ _ (by omega) (by omega) (fun x hx => ⟨yi x hx, y14 x hx⟩) (fun x hx => ⟨zi x hx, z14 x hx⟩) h'
  rw [eq_4 yb k, eq_4 zb (by omega), e1]; rfl
 ·have n0 : ¬ y.kind = 1 := by omega
  have n1 : ¬ (y.kind = 5 ∨ y.kind = 6 ∨ y.kind = 7) := by omega
  have n2 : ¬ (y.kind = 2 ∨ y.kind = 3) := by omega
  have n3 : ¬ y.kind = 4 := by omega
  have p0 : y.kind = 8 := k
  simp only [if_neg n0, if_neg n1, if_neg n2, if_neg n3, if_pos p0] at h'
  simp only [List.append_assoc] at h'
  obtain ⟨e1, h'⟩ := counted_pf live_pf _ _ _ _ (by omega) (by omega) y12 z12 h'
  obtain ⟨e2, h'⟩ := counted_pf dirt_pf _ _ _ _ (by omega) (by omega) y13 z13 h'
  obtain ⟨e3, _⟩ := cu_pf _ _ _ _ (by omega) (by omega) h'
  rw [eq_8 yb k, eq_8 zb (by omega), e1, e2, e3]; rfl
theorem z0_of {r : Recd} (h : r.lsn = 0) : z0 r = r := by
 obtain ⟨_, _, _, _, _, _, _, _, _, _, _, _⟩ := r
 dsimp only at h
 rw [h]; rfl
theorem dec_one {b : List UInt8} {r r' : Recd} {n n' : Nat} {e e' : Int} (h : Dec b r n e) (h' : Dec b r' n' e') : r = r' ∧ n = n' ∧ e = e' := by
 rcases h with ⟨h1, rfl, rfl, rfl⟩ | ⟨h1, h2, rfl, rfl, rfl⟩ | ⟨h1, h2, h3, rfl, rfl, rfl⟩ | ⟨h1, h2, h3, h4, rfl, rfl, rfl⟩ | ⟨h1, h2, h3, h4, h5, rfl, rfl⟩ <;>
  rcases h' with ⟨g1, rfl, rfl, rfl⟩ | ⟨g1, g2, rfl, rfl, rfl⟩ | ⟨g1, g2, g3, rfl, rfl, rfl⟩ | ⟨g1, g2, g3, g4, rfl, rfl, rfl⟩ | ⟨g1, g2, g3, g4, g5, rfl, rfl⟩ <;>
  first | exact ⟨rfl, rfl, rfl⟩ | (exfalso; omega) | exact absurd ⟨_, g4, g5⟩ h4 | exact absurd ⟨_, h4, h5⟩ g4 | skip
 refine ⟨?_, rfl, rfl⟩
 rw [← z0_of h4.2.1, ← z0_of g4.2.1]
 exact body_inj h4.1 h4.2.2 g4.1 g4.2.2 (h5.trans g5.symm)
theorem encR_yes {r : Recd} (h : mayR r = true) : encR r = (encN r, 0) := by unfold encR; rw [if_pos h]
theorem encR_no {r : Recd} (h : mayR r = false) : encR r = ([], 5) := by unfold encR; rw [if_neg (by rw [h]; decide)]
theorem encN_len {r : Recd} (h : mayR r = true) : 3 ≤ (encN r).length ∧ (encN r).length ≤ 16384 := by
 have := (may_okR h).2
 unfold encN
 rw [List.length_append, lebs_length]
 refine ⟨?_, by omega⟩
 unfold bodyN
 rw [List.length_append, lebs_length]
 omega
theorem may_z0 (r : Recd) : mayR (z0 r) = mayR r := by
 unfold mayR
 congr 1
 rw [decide_eq_decide]
 constructor
 ·rintro ⟨a, b, c⟩
  exact ⟨a, ⟨b.txn, b.prev, b.undo, b.op, b.check, b.shape⟩, c⟩
 ·rintro ⟨a, b, c⟩
  exact ⟨a, bareP_z0 b, c⟩
theorem wfX_z0 {r : Recd} (h : wfX r) : wfX (z0 r) := ⟨⟨h.1.kind, (by decide : (0 : Nat) < 18446744073709551616), h.1.txn, h.1.prev, h.1.undo, h.1.page, h.1.root, h.1.op, h.1.next, h.1.images, h.1.lives, h.1.dirty, h.1.live, h.1.dirt⟩, h.2⟩
theorem hdN_enc {r : Recd} (h : mayR r = true) (rest : List UInt8) : hdN (encN r ++ rest) = (encN r).length := by
 have h2 := (may_okR h).2
 unfold hdN
 rw [List.take_append_of_le_length (by have := encN_len h; omega)]
 have hl : (encN r).length = (bodyN r).length + 2 := by unfold encN; rw [List.length_append, lebs_length]; omega
 rw [hl]
 unfold encN
 rw [List.take_append_of_le_length (by rw [lebs_length]; omega), List.take_of_length_le (by rw [lebs_length]; omega)]
 exact leNum_lebs 2 _ (by omega)
theorem dec_enc {r : Recd} (h : mayR r = true) (w : wfX r) (rest : List UInt8) : Dec (encN r ++ rest) (z0 r) (encN r).length 0 := by
 have hn := encN_len h
 have hd := hdN_enc h rest
 refine .inr (.inr (.inr (.inr ⟨by rw [List.length_append]; omega, by rw [hd]; omega, by rw [hd, List.length_append]; omega, ⟨by rw [may_z0]; exact h, rfl, wfX_z0 w⟩, ?_, hd.symm, rfl⟩)))
 rw [hd, List.take_left, body_lsn]
 unfold encN
 rw [List.drop_append_of_le_length (by rw [lebs_length]; omega), List.drop_of_length_le (by rw [lebs_length]; omega), List.nil_append]
theorem dec_cut {r : Recd} (h : mayR r = true) {k : Nat} (hk : k < (encN r).length) : Dec ((encN r).take k) zR 0 6 := by
 have hn := encN_len h
 have hl : ((encN r).take k).length = k := by rw [List.length_take]; omega
 by_cases h2 : k < 2
 ·exact .inl ⟨by omega, rfl, rfl, rfl⟩
 ·have hd : hdN ((encN r).take k) = (encN r).length := by
   have := hdN_enc h []
   rw [List.append_nil] at this
   rw [← this]
   unfold hdN
   rw [List.take_take, Nat.min_eq_left (by omega)]
  exact .inr (.inr (.inl ⟨by omega, by rw [hd]; omega, by rw [hd]; omega, rfl, rfl, rfl⟩))
theorem img_eq (x y : PImg) : x = y ↔ x.page = y.page ∧ x.to = y.to := by
 obtain ⟨a, b⟩ := x
 obtain ⟨a2, b2⟩ := y
 simp
theorem live_eq (x y : PLive) : x = y ↔ x.txn = y.txn ∧ x.last = y.last ∧ x.undo = y.undo ∧ x.lost = y.lost := by
 obtain ⟨a, b, c, d⟩ := x
 obtain ⟨a2, b2, c2, d2⟩ := y
 simp
theorem dirt_eq (x y : PDirty) : x = y ↔ x.page = y.page ∧ x.frm = y.frm := by
 obtain ⟨a, b⟩ := x
 obtain ⟨a2, b2⟩ := y
 simp
theorem z0_eq (r s : Recd) : z0 r = z0 s ↔ r.kind = s.kind ∧ r.txn = s.txn ∧ r.prev = s.prev ∧ r.undo = s.undo ∧ r.page = s.page ∧ r.root = s.root ∧ r.next = s.next ∧ r.op = s.op ∧ r.images = s.images ∧ r.lives = s.lives ∧ r.dirty = s.dirty := by
 obtain ⟨a1, a2, a3, a4, a5, a6, a7, a8, a9, a10, a11, a12⟩ := r
 obtain ⟨b1, b2, b3, b4, b5, b6, b7, b8, b9, b10, b11, b12⟩ := s
 show Recd.mk .. = Recd.mk .. ↔ _
 rw [Recd.mk.injEq]
 dsimp only
 constructor
 ·rintro ⟨e1, _, e2, e3, e4, e5, e6, e7, e8, e9, e10, e11⟩
  exact ⟨e1, e2, e3, e4, e5, e6, e11, e7, e8, e9, e10⟩
 ·rintro ⟨e1, e2, e3, e4, e5, e6, e11, e7, e8, e9, e10⟩
  exact ⟨e1, rfl, e2, e3, e4, e5, e6, e7, e8, e9, e10, e11⟩
theorem leafL (x y : PLive) : leafs [.int .u32, .int .u64, .int .u64, .bool] (Rc.cL x) (Rc.cL y) = some (decide (x = y)) := by
 have h1 : ((x.txn : Int) = y.txn) = (x.txn = y.txn) := by rw [eq_iff_iff]; omega
 have h2 : ((x.last : Int) = y.last) = (x.last = y.last) := by rw [eq_iff_iff]; omega
 have h3 : ((x.undo : Int) = y.undo) = (x.undo = y.undo) := by rw [eq_iff_iff]; omega
 have h4 : decide (x = y) = decide (x.txn = y.txn ∧ x.last = y.last ∧ x.undo = y.undo ∧ x.lost = y.lost) := by rw [decide_eq_decide]; exact live_eq x y
 rw [h4]
 simp [leafs, leafV, Rc.cL, h1, h2, h3]
theorem leafD (x y : PDirty) : leafs [.int .u32, .int .u64] (Rc.cD x) (Rc.cD y) = some (decide (x = y)) := by
 have h1 : ((x.page : Int) = y.page) = (x.page = y.page) := by rw [eq_iff_iff]; omega
 have h2 : ((x.frm : Int) = y.frm) = (x.frm = y.frm) := by rw [eq_iff_iff]; omega
 have h4 : decide (x = y) = decide (x.page = y.page ∧ x.frm = y.frm) := by rw [decide_eq_decide]; exact dirt_eq x y
 rw [h4]
 simp [leafs, leafV, Rc.cD, h1, h2]
set_option maxHeartbeats 8000000 in
theorem SameR (h : Base) (cs ds : List Value) (r s : Recd) (hx : RecC h cs r) (hy : RecC h ds s) : TrV Tryz.prog 46 [.agg cs.toArray, .agg ds.toArray] h [] (.bool (decide (z0 r = z0 s))) [] := by
 obtain ⟨hw, ad, ai, al, ay, cd, ci, cl, cy, rfl, hb, ⟨es, hi1, hi2, hi3⟩, hl4, hd2⟩ := hx.cells
 obtain ⟨gw, bd, bi, bl, by_, dd, di, dl, dy, rfl, gb, ⟨fs, gi1, gi2, gi3⟩, gl4, gd2⟩ := hy.cells
 have w1 := hw.images
 have w2 := hw.lives
 have w3 := hw.dirty
 have w4 := gw.images
 have w5 := gw.lives
 have w6 := gw.dirty
 have hsame := SameO h (cO r.op (.slice ad r.op.data.length cd)) (cO s.op (.slice bd s.op.data.length dd)) r.op s.op ⟨hw.op, _, _, rfl, hb⟩ ⟨gw.op, _, _, rfl, gb⟩
 have hno : ∀ _ : Unit, ¬ (r.kind = s.kind ∧ r.txn = s.txn ∧ r.prev = s.prev ∧ r.undo = s.undo ∧ r.page = s.page ∧ r.root = s.root ∧ r.next = s.next ∧ r.op = s.op) → decide (z0 r = z0 s) = false := fun _ hn => decide_eq_false fun e => by
  obtain ⟨e1, e2, e3, e4, e5, e6, e11, e7, _⟩ := (z0_eq r s).1 e
  exact hn ⟨e1, e2, e3, e4, e5, e6, e11, e7⟩
 have hno2 : ∀ _ : Unit, ¬ (r.images.length = s.images.length ∧ r.lives.length = s.lives.length ∧ r.dirty.length = s.dirty.length) → decide (z0 r = z0 s) = false := fun _ hn => decide_eq_false fun e => by
  obtain ⟨_, _, _, _, _, _, _, _, e8, e9, e10⟩ := (z0_eq r s).1 e
  exact hn ⟨by rw [e8], by rw [e9], by rw [e10]⟩
 have hno3 : ∀ _ : Unit, (∃ i : Nat, r.images[i]? ≠ s.images[i]? ∨ r.lives[i]? ≠ s.lives[i]? ∨ r.dirty[i]? ≠ s.dirty[i]?) → decide (z0 r = z0 s) = false := fun _ ⟨i, hn⟩ => decide_eq_false fun e => by
  obtain ⟨_, _, _, _, _, _, _, _, e8, e9, e10⟩ := (z0_eq r s).1 e
  rw [e8, e9, e10] at hn
  rcases hn with hn | hn | hn <;> exact hn rfl
 clear hx hy hw gw hb gb
 refine K.enter Tryz.func46 rfl (Nat.le_of_ble_eq_true rfl) (fun F => ?_)
 simp only [List.nil_append]
 (repeat' first | refine X.rq ?_ | refine X.rc ?_ ?_ <;> intro hc <;> try omega)
 refine K.l_box rfl rfl rfl (fun B1 => ?_)
 refine K.l_box rfl rfl rfl (fun B2 => ?_)
 by_cases hn1 : r.kind = s.kind ∧ r.txn = s.txn ∧ r.prev = s.prev ∧ r.undo = s.undo ∧ r.page = s.page ∧ r.root = s.root ∧ r.next = s.next
 ·have hn1' := fun (_ : Unit) => hn1
  obtain ⟨n1, n2, n3, n4, n5, n6, n7⟩ := hn1
  (repeat' first | refine X.rq ?_ | refine X.rc ?_ ?_ <;> intro hc <;> try omega)
  refine K.s_pure (K.p_loadM (Fx.agg rfl) rfl (K.cels_own (pre := [.int .i64 r.kind, .int .u64 r.lsn, .int .u32 r.txn, .int .u64 r.prev, .int .u64 r.undo, .int .u32 r.page, .int .u32 r.root]) (cs := cO r.op (.slice ad r.op.data.length cd)) (post := [.slice ai r.images.length ci, .slice al r.lives.length cl, .slice ay r.dirty.length cy, .int .u32 r.next]) 1 rfl rfl) (Fx.sz rfl) rfl) rfl ?_
  (repeat' first | refine X.rq ?_ | refine X.rc ?_ ?_ <;> intro hc <;> try omega)
  refine K.s_pure (K.p_loadM (Fx.agg rfl) rfl (K.cels_own (pre := [.int .i64 s.kind, .int .u64 s.lsn, .int .u32 s.txn, .int .u64 s.prev, .int .u64 s.undo, .int .u32 s.page, .int .u32 s.root]) (cs := cO s.op (.slice bd s.op.data.length dd)) (post := [.slice bi s.images.length di, .slice bl s.lives.length dl, .slice by_ s.dirty.length dy, .int .u32 s.next]) 0 rfl rfl) (Fx.sz rfl) rfl) rfl ?_
  refine K.s_take rfl rfl ?_
  refine K.l_callV (Fx.cal rfl) rfl hsame (K.pp [] rfl) rfl rfl ?_
  simp only [List.nil_append]
  by_cases hope : r.op = s.op
  ·rw [decide_eq_true hope]
   (repeat' first | refine X.rq ?_ | refine X.rc ?_ ?_ <;> intro hc <;> try omega)
   ·have hn := hno2 () (fun e => by omega)
    refine K.AT.sel [0, 0] rfl ?_
    refine K.done (by first | exact Or.inl rfl | exact Or.inr rfl) rfl (by first | exact K.Base.le.refl _ | assumption) (H' := []) rfl ⟨?_, rfl, rfl⟩
    rw [hn]; rfl
   ·have hn := hno2 () (fun e => by omega)
    refine K.AT.sel [0, 0] rfl ?_
    refine K.done (by first | exact Or.inl rfl | exact Or.inr rfl) rfl (by first | exact K.Base.le.refl _ | assumption) (H' := []) rfl ⟨?_, rfl, rfl⟩
    rw [hn]; rfl
   ·have hn := hno2 () (fun e => by omega)
    refine K.AT.sel [0, 0] rfl ?_
    refine K.done (by first | exact Or.inl rfl | exact Or.inr rfl) rfl (by first | exact K.Base.le.refl _ | assumption) (H' := []) rfl ⟨?_, rfl, rfl⟩
    rw [hn]; rfl
   ·have n8 : r.images.length = s.images.length := by omega
    have n9 : r.lives.length = s.lives.length := by omega
    have n10 : r.dirty.length = s.dirty.length := by omega
    refine K.c_loop (σ := Nat) (fun j => [(2, .pointer (some ⟨B1, 0, none⟩)), (3, .pointer (some ⟨B2, 0, none⟩)), (5, .int .i64 j)]) (fun _ => h) (fun _ => blk B2 45 (cR s (.slice bd s.op.data.length dd) (.slice bi s.images.length di) (.slice bl s.lives.length dl) (.slice by_ s.dirty.length dy)) :: blk B1 45 (cR r (.slice ad r.op.data.length cd) (.slice ai r.images.length ci) (.slice al r.lives.length cl) (.slice ay r.dirty.length cy)) :: F)
     (fun j => j ≤ r.images.length ∧ ∀ _ : Unit, ∀ i, i < j → r.images[i]? = s.images[i]?) (fun j => r.images.length - j) 0 ⟨Nat.zero_le _, fun _ i hi => by omega⟩ (by repeat (first | exact K.Sub.nil _ | refine K.Sub.cons rfl ?_)) rfl rfl ?_
    rintro j ⟨hj, hsm1⟩ KL hKL
    by_cases hjl : j < r.images.length
    ·have hc1 : es[j]? = some (es[j]'(by omega)) := List.getElem?_eq_getElem (by omega)
     have hc0 : es[((j : Nat) : Int).toNat]? = some (es[j]'(by omega)) := by rw [Int.toNat_natCast]; exact hc1
     have hx1 : r.images[j]? = some (r.images[j]'(by omega)) := List.getElem?_eq_getElem (by omega)
     have hd1 : fs[j]? = some (fs[j]'(by omega)) := List.getElem?_eq_getElem (by omega)
     have hd0 : fs[((j : Nat) : Int).toNat]? = some (fs[j]'(by omega)) := by rw [Int.toNat_natCast]; exact hd1
     have hy1 : s.images[j]? = some (s.images[j]'(by omega)) := List.getElem?_eq_getElem (by omega)
     generalize es[j]'(by omega) = c at hc0 hc1
     generalize r.images[j]'(by omega) = x at hx1
     generalize fs[j]'(by omega) = c2 at hd0 hd1
     generalize s.images[j]'(by omega) = y at hy1
     obtain ⟨hpx, cx, rfl, hpcx⟩ := hi3 j c x hc1 hx1
     obtain ⟨hpy, cy2, rfl, hpcy⟩ := gi3 j c2 y hd1 hy1
     have hsp := SameP h cx cy2 x.to y.to hpcx hpcy
     have hlx : cx.length = 4 := by obtain ⟨_, _, e, _⟩ := hpcx; rw [e]; rfl
     have hly : cy2.length = 4 := by obtain ⟨_, _, e, _⟩ := hpcy; rw [e]; rfl
     clear hpcx hpcy
     have hnoxy : ∀ _ : Unit, x ≠ y → decide (z0 r = z0 s) = false := fun _ hxy => hno3 () ⟨j, .inl (fun e => hxy (by rw [hx1, hy1] at e; cases e; rfl))⟩
     have hgo : ∀ _ : Unit, x = y → ∀ i, i < j + 1 → r.images[i]? = s.images[i]? := fun _ hxy i hi => by
      by_cases hij : i < j
      ·exact hsm1 () i hij
      ·obtain rfl : i = j := by omega
       rw [hx1, hy1, hxy]
     have hxe := fun (_ : Unit) => img_eq x y
     by_cases hpe : x.page = y.page
     ·(repeat' first | refine X.rq ?_ | refine X.rc ?_ ?_ <;> intro hc <;> try omega)
      refine X.draw ([blk B2 45 (cR s (.slice bd s.op.data.length dd) (.slice bi s.images.length di) (.slice bl s.lives.length dl) (.slice by_ s.dirty.length dy)), blk B1 45 (cR r (.slice ad r.op.data.length cd) (.slice ai r.images.length ci) (.slice al r.lives.length cl) (.slice ay r.dirty.length cy))]) [] (.pu 0 (.pu 2 (.pu 6 (.pu 8 (.st 1 (.st 3 (.pu 4 (.st 5 (.st 7 (.st 9 (.pu 10 (.st 11 (.pu 12 (.pu 13 (.pu 14 (.pu 16 (.pu 20 (.pu 22 (.st 15 (.st 17 (.pu 18 (.st 19 (.st 21 (.st 23 (.pu 24 (.st 25 (.on 26 (.pu 27 (.pu 28 .nil))))))))))))))))))))))))))))) ?_
      refine K.d_pu rfl (fun _ _ => X.fa) rfl ?_
      refine K.d_pu rfl (fun _ _ => X.mv) rfl ?_
      refine K.d_pu rfl (fun _ _ => X.fa) rfl ?_
      refine K.d_pu rfl (fun _ _ => X.mv) rfl ?_
      refine K.d_st rfl X.ld rfl ?_
      refine K.d_stE rfl (K.p_indexL hi1 (Fx.und rfl) (Fx.sz rfl) rfl rfl (by omega) hc0) rfl ?_
      rintro v3 ⟨b3, o3, rfl, hcel3⟩
      refine K.d_pu rfl (fun _ _ => X.fa) rfl ?_
      refine K.d_st rfl (K.p_load (Fx.agg rfl) rfl (K.Cel.up hcel3.1)) rfl ?_
      refine K.d_st rfl X.ld rfl ?_
      refine K.d_stE rfl (K.p_indexL gi1 (Fx.und rfl) (Fx.sz rfl) rfl rfl (by omega) hd0) rfl ?_
      rintro v4 ⟨b4, o4, rfl, hcel4⟩
      refine K.d_pu rfl (fun _ _ => X.fa) rfl ?_
      refine K.d_st rfl (K.p_load (Fx.agg rfl) rfl (K.Cel.up hcel4.1)) rfl ?_
      refine K.d_pu rfl (fun _ _ => X.bneq) rfl ?_
      rw [show decide ((x.page : Int) ≠ y.page) = false from decide_eq_false (by omega)]
      refine K.d_pu rfl (fun _ _ => X.mv) rfl ?_
      first | refine K.d_skip rfl rfl rfl rfl ?_ | refine K.d_skipU rfl rfl rfl rfl rfl ?_ | refine K.d_puG rfl rfl rfl (fun _ _ => X.fa) rfl ?_
      first | refine K.d_skip rfl rfl rfl rfl ?_ | refine K.d_skipU rfl rfl rfl rfl rfl ?_ | refine K.d_puG rfl rfl rfl (fun _ _ => X.mv) rfl ?_
      first | refine K.d_skip rfl rfl rfl rfl ?_ | refine K.d_skipU rfl rfl rfl rfl rfl ?_ | refine K.d_puG rfl rfl rfl (fun _ _ => X.fa) rfl ?_
      first | refine K.d_skip rfl rfl rfl rfl ?_ | refine K.d_skipU rfl rfl rfl rfl rfl ?_ | refine K.d_puG rfl rfl rfl (fun _ _ => X.mv) rfl ?_
      first | refine K.d_skipS rfl rfl rfl rfl ?_ | refine K.d_skipUS rfl rfl rfl rfl rfl ?_ | refine K.d_stG rfl rfl rfl X.ld rfl ?_
      refine K.d_stGE rfl rfl rfl (K.p_indexL hi1 (Fx.und rfl) (Fx.sz rfl) rfl rfl (by omega) hc0) rfl ?_
      rintro v5 ⟨b5, o5, rfl, hcel5⟩
      first | refine K.d_skip rfl rfl rfl rfl ?_ | refine K.d_skipU rfl rfl rfl rfl rfl ?_ | refine K.d_puG rfl rfl rfl (fun _ _ => X.fa) rfl ?_
      refine K.d_stG rfl rfl rfl (K.p_loadM (Fx.agg rfl) rfl (Cels.up hcel5.2) (Fx.sz rfl) hlx) rfl ?_
      first | refine K.d_skipS rfl rfl rfl rfl ?_ | refine K.d_skipUS rfl rfl rfl rfl rfl ?_ | refine K.d_stG rfl rfl rfl X.ld rfl ?_
      refine K.d_stGE rfl rfl rfl (K.p_indexL gi1 (Fx.und rfl) (Fx.sz rfl) rfl rfl (by omega) hd0) rfl ?_
      rintro v6 ⟨b6, o6, rfl, hcel6⟩
      first | refine K.d_skip rfl rfl rfl rfl ?_ | refine K.d_skipU rfl rfl rfl rfl rfl ?_ | refine K.d_puG rfl rfl rfl (fun _ _ => X.fa) rfl ?_
      refine K.d_stG rfl rfl rfl (K.p_loadM (Fx.agg rfl) rfl (Cels.up hcel6.2) (Fx.sz rfl) hly) rfl ?_
      refine K.d_on rfl (fun KK hKK => ?_)
      refine K.s_take rfl rfl ?_
      refine K.l_callV (Fx.cal rfl) rfl hsp (K.pp [] rfl) rfl rfl ?_
      simp only [List.nil_append]
      refine K.l_nil ?_
      refine X.onE hKK ?_
      first | refine K.d_skip rfl rfl rfl rfl ?_ | refine K.d_skipU rfl rfl rfl rfl rfl ?_ | refine K.d_puG rfl rfl rfl (fun _ _ => X.nt) rfl ?_
      refine K.d_pu rfl (fun _ _ => X.pk) rfl ?_
      refine K.d_nil ?_
      by_cases hte : x.to = y.to
      ·rw [show (decide ¬ x.to = y.to) = false from decide_eq_false (fun h => h hte)]
       (repeat' first | refine X.rq ?_ | refine X.rc ?_ ?_ <;> intro hc <;> try omega)
       refine K.a_round hKL (j + 1) ⟨by omega, fun _ => hgo () ((hxe ()).2 ⟨hpe, hte⟩)⟩ (by repeat (first | exact K.Sub.nil _ | refine K.Sub.cons rfl ?_)) rfl rfl (by omega)
      ·rw [show (decide ¬ x.to = y.to) = true from decide_eq_true hte]
       (repeat' first | refine X.rq ?_ | refine X.rc ?_ ?_ <;> intro hc <;> try omega)
       have hn := hnoxy () (fun e => hte ((hxe ()).1 e).2)
       refine K.AT.sel [0, 0] rfl ?_
       refine K.done (by first | exact Or.inl rfl | exact Or.inr rfl) rfl (by first | exact K.Base.le.refl _ | assumption) (H' := []) rfl ⟨?_, rfl, rfl⟩
       rw [hn]; rfl
     ·(repeat' first | refine X.rq ?_ | refine X.rc ?_ ?_ <;> intro hc <;> try omega)
      refine X.draw ([blk B2 45 (cR s (.slice bd s.op.data.length dd) (.slice bi s.images.length di) (.slice bl s.lives.length dl) (.slice by_ s.dirty.length dy)), blk B1 45 (cR r (.slice ad r.op.data.length cd) (.slice ai r.images.length ci) (.slice al r.lives.length cl) (.slice ay r.dirty.length cy))]) [] (.pu 0 (.pu 2 (.pu 6 (.pu 8 (.st 1 (.st 3 (.pu 4 (.st 5 (.st 7 (.st 9 (.pu 10 (.st 11 (.pu 12 (.pu 13 (.pu 14 (.pu 16 (.pu 20 (.pu 22 (.st 15 (.st 17 (.pu 18 (.st 19 (.st 21 (.st 23 (.pu 24 (.st 25 (.on 26 (.pu 27 (.pu 28 .nil))))))))))))))))))))))))))))) ?_
      refine K.d_pu rfl (fun _ _ => X.fa) rfl ?_
      refine K.d_pu rfl (fun _ _ => X.mv) rfl ?_
      refine K.d_pu rfl (fun _ _ => X.fa) rfl ?_
      refine K.d_pu rfl (fun _ _ => X.mv) rfl ?_
      refine K.d_st rfl X.ld rfl ?_
      refine K.d_stE rfl (K.p_indexL hi1 (Fx.und rfl) (Fx.sz rfl) rfl rfl (by omega) hc0) rfl ?_
      rintro v3 ⟨b3, o3, rfl, hcel3⟩
      refine K.d_pu rfl (fun _ _ => X.fa) rfl ?_
      refine K.d_st rfl (K.p_load (Fx.agg rfl) rfl (K.Cel.up hcel3.1)) rfl ?_
      refine K.d_st rfl X.ld rfl ?_
      refine K.d_stE rfl (K.p_indexL gi1 (Fx.und rfl) (Fx.sz rfl) rfl rfl (by omega) hd0) rfl ?_
      rintro v4 ⟨b4, o4, rfl, hcel4⟩
      refine K.d_pu rfl (fun _ _ => X.fa) rfl ?_
      refine K.d_st rfl (K.p_load (Fx.agg rfl) rfl (K.Cel.up hcel4.1)) rfl ?_
      refine K.d_pu rfl (fun _ _ => X.bneq) rfl ?_
      rw [show decide ((x.page : Int) ≠ y.page) = true from decide_eq_true (by omega)]
      refine K.d_pu rfl (fun _ _ => X.mv) rfl ?_
      first | refine K.d_skip rfl rfl rfl rfl ?_ | refine K.d_skipU rfl rfl rfl rfl rfl ?_ | refine K.d_puG rfl rfl rfl (fun _ _ => X.fa) rfl ?_
      first | refine K.d_skip rfl rfl rfl rfl ?_ | refine K.d_skipU rfl rfl rfl rfl rfl ?_ | refine K.d_puG rfl rfl rfl (fun _ _ => X.mv) rfl ?_
      first | refine K.d_skip rfl rfl rfl rfl ?_ | refine K.d_skipU rfl rfl rfl rfl rfl ?_ | refine K.d_puG rfl rfl rfl (fun _ _ => X.fa) rfl ?_
      first | refine K.d_skip rfl rfl rfl rfl ?_ | refine K.d_skipU rfl rfl rfl rfl rfl ?_ | refine K.d_puG rfl rfl rfl (fun _ _ => X.mv) rfl ?_
      first | refine K.d_skipS rfl rfl rfl rfl ?_ | refine K.d_skipUS rfl rfl rfl rfl rfl ?_ | refine K.d_stG rfl rfl rfl X.ld rfl ?_
      first | refine K.d_skipS rfl rfl rfl rfl ?_ | refine K.d_skipUS rfl rfl rfl rfl rfl ?_ | refine K.d_stG rfl rfl rfl X.ia rfl ?_
      first | refine K.d_skip rfl rfl rfl rfl ?_ | refine K.d_skipU rfl rfl rfl rfl rfl ?_ | refine K.d_puG rfl rfl rfl (fun _ _ => X.fa) rfl ?_
      first | refine K.d_skipS rfl rfl rfl rfl ?_ | refine K.d_skipUS rfl rfl rfl rfl rfl ?_ | refine K.d_stG rfl rfl rfl X.ld rfl ?_
      first | refine K.d_skipS rfl rfl rfl rfl ?_ | refine K.d_skipUS rfl rfl rfl rfl rfl ?_ | refine K.d_stG rfl rfl rfl X.ld rfl ?_
      first | refine K.d_skipS rfl rfl rfl rfl ?_ | refine K.d_skipUS rfl rfl rfl rfl rfl ?_ | refine K.d_stG rfl rfl rfl X.ia rfl ?_
      first | refine K.d_skip rfl rfl rfl rfl ?_ | refine K.d_skipU rfl rfl rfl rfl rfl ?_ | refine K.d_puG rfl rfl rfl (fun _ _ => X.fa) rfl ?_
      first | refine K.d_skipS rfl rfl rfl rfl ?_ | refine K.d_skipUS rfl rfl rfl rfl rfl ?_ | refine K.d_stG rfl rfl rfl X.ld rfl ?_
      refine K.d_on rfl (fun KK hKK => ?_)
      first | refine K.s_skip rfl rfl rfl ?_ | refine K.s_skipU rfl rfl rfl rfl ?_
      refine K.l_nil ?_
      refine X.onE hKK ?_
      first | refine K.d_skip rfl rfl rfl rfl ?_ | refine K.d_skipU rfl rfl rfl rfl rfl ?_ | refine K.d_puG rfl rfl rfl (fun _ _ => X.nt) rfl ?_
      refine K.d_pu rfl (fun _ _ => X.pk) rfl ?_
      refine K.d_nil ?_
      (repeat' first | refine X.rq ?_ | refine X.rc ?_ ?_ <;> intro hc <;> try omega)
      have hn := hnoxy () (fun e => hpe ((hxe ()).1 e).1)
      refine K.AT.sel [0, 0] rfl ?_
      refine K.done (by first | exact Or.inl rfl | exact Or.inr rfl) rfl (by first | exact K.Base.le.refl _ | assumption) (H' := []) rfl ⟨?_, rfl, rfl⟩
      rw [hn]; rfl
    ·obtain rfl : j = r.images.length := by omega
     (repeat' first | refine X.rq ?_ | refine X.rc ?_ ?_ <;> intro hc <;> try omega)
     refine K.c_loop (σ := Nat) (fun j => [(2, .pointer (some ⟨B1, 0, none⟩)), (3, .pointer (some ⟨B2, 0, none⟩)), (6, .int .i64 j)]) (fun _ => h) (fun _ => blk B2 45 (cR s (.slice bd s.op.data.length dd) (.slice bi s.images.length di) (.slice bl s.lives.length dl) (.slice by_ s.dirty.length dy)) :: blk B1 45 (cR r (.slice ad r.op.data.length cd) (.slice ai r.images.length ci) (.slice al r.lives.length cl) (.slice ay r.dirty.length cy)) :: F)
      (fun j => j ≤ r.lives.length ∧ ∀ _ : Unit, ∀ i, i < j → r.lives[i]? = s.lives[i]?) (fun j => r.lives.length - j) 0 ⟨Nat.zero_le _, fun _ i hi => by omega⟩ (by repeat (first | exact K.Sub.nil _ | refine K.Sub.cons rfl ?_)) rfl rfl ?_
     rintro j ⟨hj, hsm2⟩ KL hKL
     by_cases hjl : j < r.lives.length
     ·have hx1 : r.lives[j]? = some (r.lives[j]'(by omega)) := List.getElem?_eq_getElem (by omega)
      have hy1 : s.lives[j]? = some (s.lives[j]'(by omega)) := List.getElem?_eq_getElem (by omega)
      generalize r.lives[j]'(by omega) = x at hx1
      generalize s.lives[j]'(by omega) = y at hy1
      have hc0 : (r.lives.map Rc.cL)[((j : Nat) : Int).toNat]? = some (Rc.cL x) := by rw [Int.toNat_natCast, List.getElem?_map, hx1]; rfl
      have hd0 : (s.lives.map Rc.cL)[((j : Nat) : Int).toNat]? = some (Rc.cL y) := by rw [Int.toNat_natCast, List.getElem?_map, hy1]; rfl
      (repeat' first | refine X.rq ?_ | refine X.rc ?_ ?_ <;> intro hc <;> try omega)
      refine X.draw ([blk B2 45 (cR s (.slice bd s.op.data.length dd) (.slice bi s.images.length di) (.slice bl s.lives.length dl) (.slice by_ s.dirty.length dy)), blk B1 45 (cR r (.slice ad r.op.data.length cd) (.slice ai r.images.length ci) (.slice al r.lives.length cl) (.slice ay r.dirty.length cy))]) [] (.pu 0 (.pu 2 (.pu 5 (.pu 7 (.st 1 (.st 3 (.st 4 (.st 6 (.st 8 (.st 9 (.pu 10 .nil))))))))))) ?_
      refine K.d_pu rfl (fun _ _ => X.fa) rfl ?_
      refine K.d_pu rfl (fun _ _ => X.mv) rfl ?_
      refine K.d_pu rfl (fun _ _ => X.fa) rfl ?_
      refine K.d_pu rfl (fun _ _ => X.mv) rfl ?_
      refine K.d_st rfl X.ld rfl ?_
      refine K.d_stE rfl (K.p_indexL hl4 (Fx.und rfl) (Fx.sz rfl) rfl rfl (by omega) hc0) rfl ?_
      rintro v3 ⟨b3, o3, rfl, hcel3⟩
      refine K.d_st rfl (K.p_loadM (Fx.agg rfl) rfl (Cels.up hcel3) (Fx.sz rfl) rfl) rfl ?_
      refine K.d_st rfl X.ld rfl ?_
      refine K.d_stE rfl (K.p_indexL gl4 (Fx.und rfl) (Fx.sz rfl) rfl rfl (by omega) hd0) rfl ?_
      rintro v4 ⟨b4, o4, rfl, hcel4⟩
      refine K.d_st rfl (K.p_loadM (Fx.agg rfl) rfl (Cels.up hcel4) (Fx.sz rfl) rfl) rfl ?_
      refine K.d_pu rfl (fun _ _ => K.p_neA (Fx.flat rfl) rfl rfl (leafL x y)) rfl ?_
      refine K.d_nil ?_
      by_cases hxy : x = y
      ·rw [decide_eq_true hxy]
       (repeat' first | refine X.rq ?_ | refine X.rc ?_ ?_ <;> intro hc <;> try omega)
       refine K.a_round hKL (j + 1) ⟨by omega, fun _ i hi => ?_⟩ (by repeat (first | exact K.Sub.nil _ | refine K.Sub.cons rfl ?_)) rfl rfl (by omega)
       by_cases hij : i < j
       ·exact hsm2 () i hij
       ·obtain rfl : i = j := by omega
        rw [hx1, hy1, hxy]
      ·rw [decide_eq_false hxy]
       (repeat' first | refine X.rq ?_ | refine X.rc ?_ ?_ <;> intro hc <;> try omega)
       have hn := hno3 () ⟨j, .inr <| .inl (fun e => hxy (by rw [hx1, hy1] at e; cases e; rfl))⟩
       refine K.AT.sel [0, 0] rfl ?_
       refine K.done (by first | exact Or.inl rfl | exact Or.inr rfl) rfl (by first | exact K.Base.le.refl _ | assumption) (H' := []) rfl ⟨?_, rfl, rfl⟩
       rw [hn]; rfl
     ·obtain rfl : j = r.lives.length := by omega
      (repeat' first | refine X.rq ?_ | refine X.rc ?_ ?_ <;> intro hc <;> try omega)
      refine K.c_loop (σ := Nat) (fun j => [(2, .pointer (some ⟨B1, 0, none⟩)), (3, .pointer (some ⟨B2, 0, none⟩)), (7, .int .i64 j)]) (fun _ => h) (fun _ => blk B2 45 (cR s (.slice bd s.op.data.length dd) (.slice bi s.images.length di) (.slice bl s.lives.length dl) (.slice by_ s.dirty.length dy)) :: blk B1 45 (cR r (.slice ad r.op.data.length cd) (.slice ai r.images.length ci) (.slice al r.lives.length cl) (.slice ay r.dirty.length cy)) :: F)
       (fun j => j ≤ r.dirty.length ∧ ∀ _ : Unit, ∀ i, i < j → r.dirty[i]? = s.dirty[i]?) (fun j => r.dirty.length - j) 0 ⟨Nat.zero_le _, fun _ i hi => by omega⟩ (by repeat (first | exact K.Sub.nil _ | refine K.Sub.cons rfl ?_)) rfl rfl ?_
      rintro j ⟨hj, hsm3⟩ KL hKL
      by_cases hjl : j < r.dirty.length
      ·have hx1 : r.dirty[j]? = some (r.dirty[j]'(by omega)) := List.getElem?_eq_getElem (by omega)
       have hy1 : s.dirty[j]? = some (s.dirty[j]'(by omega)) := List.getElem?_eq_getElem (by omega)
       generalize r.dirty[j]'(by omega) = x at hx1
       generalize s.dirty[j]'(by omega) = y at hy1
       have hc0 : (r.dirty.map Rc.cD)[((j : Nat) : Int).toNat]? = some (Rc.cD x) := by rw [Int.toNat_natCast, List.getElem?_map, hx1]; rfl
       have hd0 : (s.dirty.map Rc.cD)[((j : Nat) : Int).toNat]? = some (Rc.cD y) := by rw [Int.toNat_natCast, List.getElem?_map, hy1]; rfl
       (repeat' first | refine X.rq ?_ | refine X.rc ?_ ?_ <;> intro hc <;> try omega)
       refine X.draw ([blk B2 45 (cR s (.slice bd s.op.data.length dd) (.slice bi s.images.length di) (.slice bl s.lives.length dl) (.slice by_ s.dirty.length dy)), blk B1 45 (cR r (.slice ad r.op.data.length cd) (.slice ai r.images.length ci) (.slice al r.lives.length cl) (.slice ay r.dirty.length cy))]) [] (.pu 0 (.pu 2 (.pu 5 (.pu 7 (.st 1 (.st 3 (.st 4 (.st 6 (.st 8 (.st 9 (.pu 10 .nil))))))))))) ?_
       refine K.d_pu rfl (fun _ _ => X.fa) rfl ?_
       refine K.d_pu rfl (fun _ _ => X.mv) rfl ?_
       refine K.d_pu rfl (fun _ _ => X.fa) rfl ?_
       refine K.d_pu rfl (fun _ _ => X.mv) rfl ?_
       refine K.d_st rfl X.ld rfl ?_
       refine K.d_stE rfl (K.p_indexL hd2 (Fx.und rfl) (Fx.sz rfl) rfl rfl (by omega) hc0) rfl ?_
       rintro v3 ⟨b3, o3, rfl, hcel3⟩
       refine K.d_st rfl (K.p_loadM (Fx.agg rfl) rfl (Cels.up hcel3) (Fx.sz rfl) rfl) rfl ?_
       refine K.d_st rfl X.ld rfl ?_
       refine K.d_stE rfl (K.p_indexL gd2 (Fx.und rfl) (Fx.sz rfl) rfl rfl (by omega) hd0) rfl ?_
       rintro v4 ⟨b4, o4, rfl, hcel4⟩
       refine K.d_st rfl (K.p_loadM (Fx.agg rfl) rfl (Cels.up hcel4) (Fx.sz rfl) rfl) rfl ?_
       refine K.d_pu rfl (fun _ _ => K.p_neA (Fx.flat rfl) rfl rfl (leafD x y)) rfl ?_
       refine K.d_nil ?_
       by_cases hxy : x = y
       ·rw [decide_eq_true hxy]
        (repeat' first | refine X.rq ?_ | refine X.rc ?_ ?_ <;> intro hc <;> try omega)
        refine K.a_round hKL (j + 1) ⟨by omega, fun _ i hi => ?_⟩ (by repeat (first | exact K.Sub.nil _ | refine K.Sub.cons rfl ?_)) rfl rfl (by omega)
        by_cases hij : i < j
        ·exact hsm3 () i hij
        ·obtain rfl : i = j := by omega
         rw [hx1, hy1, hxy]
       ·rw [decide_eq_false hxy]
        (repeat' first | refine X.rq ?_ | refine X.rc ?_ ?_ <;> intro hc <;> try omega)
        have hn := hno3 () ⟨j, .inr <| .inr (fun e => hxy (by rw [hx1, hy1] at e; cases e; rfl))⟩
        refine K.AT.sel [0, 0] rfl ?_
        refine K.done (by first | exact Or.inl rfl | exact Or.inr rfl) rfl (by first | exact K.Base.le.refl _ | assumption) (H' := []) rfl ⟨?_, rfl, rfl⟩
        rw [hn]; rfl
      ·obtain rfl : j = r.dirty.length := by omega
       (repeat' first | refine X.rq ?_ | refine X.rc ?_ ?_ <;> intro hc <;> try omega)
       have hz : z0 r = z0 s := (z0_eq r s).2 ⟨n1, n2, n3, n4, n5, n6, n7, hope, List.ext_getElem? (fun i => by
         by_cases hi : i < r.images.length
         ·exact hsm1 () i hi
         ·rw [List.getElem?_eq_none (by omega), List.getElem?_eq_none (by omega)]), List.ext_getElem? (fun i => by
         by_cases hi : i < r.lives.length
         ·exact hsm2 () i hi
         ·rw [List.getElem?_eq_none (by omega), List.getElem?_eq_none (by omega)]), List.ext_getElem? (fun i => by
         by_cases hi : i < r.dirty.length
         ·exact hsm3 () i hi
         ·rw [List.getElem?_eq_none (by omega), List.getElem?_eq_none (by omega)])⟩
       refine K.AT.sel [0, 0] rfl ?_
       refine K.done (by first | exact Or.inl rfl | exact Or.inr rfl) rfl (by first | exact K.Base.le.refl _ | assumption) (H' := []) rfl ⟨?_, rfl, rfl⟩
       rw [decide_eq_true hz]; rfl

  ·have hn := hno () (fun e => hope e.2.2.2.2.2.2.2)
   rw [decide_eq_false hope]
   (repeat' first | refine X.rq ?_ | refine X.rc ?_ ?_ <;> intro hc <;> try omega)
   refine K.AT.sel [0, 0] rfl ?_
   refine K.done (by first | exact Or.inl rfl | exact Or.inr rfl) rfl (by first | exact K.Base.le.refl _ | assumption) (H' := []) rfl ⟨?_, rfl, rfl⟩
   rw [hn]; rfl
 ·have hno := hno () (fun e => hn1 ⟨e.1, e.2.1, e.2.2.1, e.2.2.2.1, e.2.2.2.2.1, e.2.2.2.2.2.1, e.2.2.2.2.2.2.1⟩)
  (repeat' first | refine X.rq ?_ | refine X.rc ?_ ?_ <;> intro hc <;> try omega)
  all_goals
   refine K.AT.sel [0, 0] rfl ?_
   refine K.done (by first | exact Or.inl rfl | exact Or.inr rfl) rfl (by first | exact K.Base.le.refl _ | assumption) (H' := []) rfl ⟨?_, rfl, rfl⟩
   rw [hno]; rfl
structure shortX (r : Recd) : Prop where
 img : r.images.length ≤ 66000
 cel : ∀ x ∈ r.images, smallX x.to.cells
 liv : r.lives.length ≤ 66000
 dir : r.dirty.length ≤ 66000
 dat : r.op.data.length ≤ 66000
structure CpS where
 b : Base
 j : Nat
 a : Option Nat
 cap : Nat
 es : List (List Value)
theorem cL_ones (x : PLive) : K.ones (Rc.cL x) = true := rfl
theorem cD_ones (x : PDirty) : K.ones (Rc.cD x) = true := rfl
set_option maxHeartbeats 4000000 in
theorem RecCopy (h : Base) (cs : List Value) (r : Recd) (hx : RecC h cs r) (hs : shortX r) : Tr Tryz.prog 47 [.agg cs.toArray] h [] (fun u h' H' => H' = [] ∧ ∃ cs', u = .agg cs'.toArray ∧ RecC h' cs' r) := by
 obtain ⟨hw, ad, ai, al, ay, cd, ci, cl, cy, rfl, hb, ⟨es, hi1, hi2, hi3⟩, hl4, hd2⟩ := hx.cells
 have s1 := hs.img
 have s2 := hs.liv
 have s3 := hs.dir
 have s4 := hs.dat
 have hsc := fun (_ : Unit) => hs.cel
 have hw0 := fun (_ : Unit) => hw
 have hop := CopyOp h (cO r.op (.slice ad r.op.data.length cd)) r.op ⟨hw.op, _, _, rfl, hb⟩ (by omega)
 clear hx hs hw
 refine K.enter Tryz.func47 rfl (Nat.le_of_ble_eq_true rfl) (fun F => ?_)
 simp only [List.nil_append]
 (repeat' first | refine X.rq ?_ | refine X.rc ?_ ?_ <;> intro hc <;> try omega)
 refine K.l_box rfl rfl rfl (fun B1 => ?_)
 refine K.l_alloc (Fx.zr rfl) rfl rfl (fun B2 => ?_)
 (repeat' first | refine X.rq ?_ | refine X.rc ?_ ?_ <;> intro hc <;> try omega)
 refine K.s_pure (K.p_loadM (Fx.agg rfl) rfl (K.cels_own (pre := [.int .i64 r.kind, .int .u64 r.lsn, .int .u32 r.txn, .int .u64 r.prev, .int .u64 r.undo, .int .u32 r.page, .int .u32 r.root]) (cs := cO r.op (.slice ad r.op.data.length cd)) (post := [.slice ai r.images.length ci, .slice al r.lives.length cl, .slice ay r.dirty.length cy, .int .u32 r.next]) 1 rfl rfl) (Fx.sz rfl) rfl) rfl ?_
 refine K.l_call (Fx.cal rfl) rfl hop (K.pp [] rfl) rfl ?_
 rintro u h' H' - ⟨e, a2, c2, rfl, rfl⟩
 obtain rfl := e.symm
 simp only [List.cons_append, List.nil_append]
 refine K.WL.freezeBuf (fun h2 le2 hb2 => ?_)
 refine K.WL.perm (K.pp [1] rfl) ?_
 simp only [Go.K.nmz]
 obtain ⟨ad2, cd2, e2⟩ : ∃ x y, bufV a2 r.op.data.length c2 = .slice x r.op.data.length y := ⟨_, _, rfl⟩
 rw [e2] at hb2 ⊢
 (repeat' first | refine X.rq ?_ | refine X.rc ?_ ?_ <;> intro hc <;> try omega)
 refine K.l_storeN (pre := [.int .i64 r.kind, .int .u64 r.lsn, .int .u32 r.txn, .int .u64 r.prev, .int .u64 r.undo, .int .u32 r.page, .int .u32 r.root]) (cs := cO r.op (.slice ad r.op.data.length cd)) (post := [.slice ai r.images.length ci, .slice al r.lives.length cl, .slice ay r.dirty.length cy, .int .u32 r.next]) (us := cO r.op (.slice ad2 r.op.data.length cd2)) (Fx.sz rfl) rfl rfl rfl rfl rfl (K.Free.zero _) ?_
 show WL Tryz.prog _ _ _ _ _ _ (blk B1 45 (cR r (.slice ad2 r.op.data.length cd2) (.slice ai r.images.length ci) (.slice al r.lives.length cl) (.slice ay r.dirty.length cy)) :: _)
 (repeat' first | refine X.rq ?_ | refine X.rc ?_ ?_ <;> intro hc <;> try omega)
 refine K.WC.nilBuf 88 5 ?_
 refine K.c_loop (σ := CpS) (fun q => [(1, .pointer (some ⟨B1, 0, none⟩)), (2, .pointer (some ⟨B2, 0, none⟩)), (3, bufV q.a q.es.length q.cap), (4, .int .i64 q.j)]) (fun q => q.b)
  (fun q => bufA 88 5 q.a q.es.length q.cap q.es.flatten :: blk B1 45 (cR r (.slice ad2 r.op.data.length cd2) (.slice ai r.images.length ci) (.slice al r.lives.length cl) (.slice ay r.dirty.length cy)) :: blk B2 45 (cR zR (.slice none 0 0) (.slice none 0 0) (.slice none 0 0) (.slice none 0 0)) :: F)
  (fun q => h2.le q.b ∧ q.j ≤ r.images.length ∧ RowsG (ImgC q.b) q.es (r.images.take q.j)) (fun q => r.images.length - q.j) ⟨h2, 0, none, 0, []⟩ ⟨K.Base.le.refl _, Nat.zero_le _, RowsG.nil⟩ (by repeat (first | exact K.Sub.nil _ | refine K.Sub.cons rfl ?_)) rfl rfl ?_
 rintro ⟨hb3, j, a, cap, fs⟩ ⟨hle, hj, hrow⟩ KL hKL
 dsimp only at hle hj hrow ⊢
 have hfl : fs.length = j := by rw [hrow.1, List.length_take]; omega
 have hleh := le2.trans hle
 by_cases hjl : j < r.images.length
 ·have hc1 : es[j]? = some (es[j]'(by omega)) := List.getElem?_eq_getElem (by omega)
  have hc0 : es[((j : Nat) : Int).toNat]? = some (es[j]'(by omega)) := by rw [Int.toNat_natCast]; exact hc1
  have he1 : r.images[j]? = some (r.images[j]'(by omega)) := List.getElem?_eq_getElem hjl
  have hmem : r.images[j] ∈ r.images := List.getElem_mem hjl
  generalize es[j]'(by omega) = c at hc0 hc1
  generalize r.images[j]'(by omega) = x at he1 hmem
  have hsx := hsc () x hmem
  have hix := (hi3 j c x hc1 he1).le hleh
  have hi1' := hi1.le hleh
  obtain ⟨hpg, cs, rfl, hpc⟩ := hix
  have hcopy := CopyPageX hb3 cs x.to hpc hsx
  obtain ⟨hwp, cv5, rfl, _⟩ := hpc
  clear hi3 hsc hsx
  (repeat' first | refine X.rq ?_ | refine X.rc ?_ ?_ <;> intro hc <;> try omega)
  refine X.draw ([blk B1 45 (cR r (.slice ad2 r.op.data.length cd2) (.slice ai r.images.length ci) (.slice al r.lives.length cl) (.slice ay r.dirty.length cy))]) [] (.pu 0 (.pu 1 (.pu 3 (.pu 7 (.pu 9 (.st 2 (.st 4 (.pu 5 (.st 6 (.st 8 (.st 10 (.pu 11 (.st 12 (.on 13 (.pu 14 (.on 15 (.on 16 (.pu 17 .nil)))))))))))))))))) ?_
  refine K.d_pu rfl (fun _ _ => X.mv) rfl ?_
  refine K.d_pu rfl (fun _ _ => X.fa) rfl ?_
  refine K.d_pu rfl (fun _ _ => X.mv) rfl ?_
  refine K.d_pu rfl (fun _ _ => X.fa) rfl ?_
  refine K.d_pu rfl (fun _ _ => X.mv) rfl ?_
  refine K.d_st rfl X.ld rfl ?_
  refine K.d_stE rfl (K.p_indexL hi1' (Fx.und rfl) (Fx.sz rfl) rfl rfl (by omega) hc0) rfl ?_
  rintro v4 ⟨b4, o4, rfl, hcel4⟩
  refine K.d_pu rfl (fun _ _ => X.fa) rfl ?_
  refine K.d_st rfl (K.p_load (Fx.agg rfl) rfl (K.Cel.up hcel4.1)) rfl ?_
  refine K.d_st rfl X.ld rfl ?_
  refine K.d_stE rfl (K.p_indexL hi1' (Fx.und rfl) (Fx.sz rfl) rfl rfl (by omega) hc0) rfl ?_
  rintro v6 ⟨b6, o6, rfl, hcel6⟩
  refine K.d_pu rfl (fun _ _ => X.fa) rfl ?_
  refine K.d_st rfl (K.p_loadM (Fx.agg rfl) rfl (Cels.up hcel6.2) (Fx.sz rfl) rfl) rfl ?_
  refine K.d_on rfl (fun KK hKK => ?_)
  refine K.l_call (Fx.cal rfl) rfl hcopy (K.pp [] rfl) rfl ?_
  rintro u hb7 H' le7 ⟨a7, cap7, es7, rfl, hrow7, rfl⟩
  have h7l := hrow7.1
  rw [← h7l]
  simp only [List.cons_append, List.nil_append]
  refine K.WL.freezeRow hrow7.2.1 (fun hb8 le8 hsl8 hcap8 => ?_)
  obtain ⟨ao8, ca8, e8⟩ := hsl8.len
  rw [e8] at hsl8 ⊢
  have le78 := le7.trans le8
  refine K.l_nil ?_
  refine X.onE hKK ?_
  refine K.d_pu rfl (fun _ _ => X.bd) rfl ?_
  refine K.d_on rfl (fun KK hKK => ?_)
  refine K.l_buildSlice (Fx.und rfl) (Fx.sz rfl) rfl (Fx.zr rfl) rfl rfl rfl (cs := [.int .u32 x.page, .int .i64 x.to.kind, .int .u64 x.to.lsn, .int .u32 x.to.next, .slice ao8 es7.length ca8]) rfl rfl (fun B10 => ?_)
  refine K.l_nil ?_
  refine X.onE hKK ?_
  refine K.d_on rfl (fun KK hKK => ?_)
  refine K.l_append_at 1 rfl (Fx.und rfl) (Fx.und rfl) rfl (Fx.sz rfl) (Fx.zr rfl) rfl (Fx.byt rfl) rfl rfl (K.src_cells (K.cels_own (pre := []) (cs := [.int .u32 x.page, .int .i64 x.to.kind, .int .u64 x.to.lsn, .int .u32 x.to.next, .slice ao8 es7.length ca8]) (post := []) 0 rfl rfl) rfl (List.all_eq_true.1 (show ones [.int .u32 x.page, .int .i64 x.to.kind, .int .u64 x.to.lsn, .int .u32 x.to.next, .slice ao8 es7.length ca8] = true from rfl))) (by omega) (by omega) rfl (fun a9 cap9 => ?_)
  simp only [Go.K.nmz]
  refine K.l_nil ?_
  refine X.onE hKK ?_
  refine K.d_pu rfl (fun _ _ => X.sg) rfl ?_
  refine K.d_nil ?_
  (repeat' first | refine X.rq ?_ | refine X.rc ?_ ?_ <;> intro hc <;> try omega)
  refine K.AT.drop ?_
  have hpc8 : PagC hb8 (cP x.to (.slice ao8 es7.length ca8)) x.to := ⟨hwp, _, rfl, es7, hsl8, h7l, fun i c z hc hz => (hrow7.2.2 i c z hc hz).le le8⟩
  have hfl2 : (fs ++ [([.int .u32 x.page, .int .i64 x.to.kind, .int .u64 x.to.lsn, .int .u32 x.to.next, .slice ao8 es7.length ca8] : List Value)]).length = fs.length + 1 := by simp
  rw [← hfl2]
  refine K.a_round hKL ⟨hb8, j + 1, a9, cap9, fs ++ [[.int .u32 x.page, .int .i64 x.to.kind, .int .u64 x.to.lsn, .int .u32 x.to.next, .slice ao8 es7.length ca8]]⟩ ⟨hle.trans (le7.trans le8), by dsimp only; omega, ?_⟩ (by repeat (first | exact K.Sub.nil _ | refine K.Sub.cons rfl ?_)) rfl ?_ (by dsimp only; omega)
  ·dsimp only
   rw [List.take_add_one, he1]
   exact (hrow.mono fun c x hc => ImgC.le (le7.trans le8) hc).push ⟨hpg, _, rfl, hpc8⟩
  ·simp
 ·obtain rfl : j = r.images.length := by omega
  rw [List.take_length] at hrow
  clear hsc hi3
  (repeat' first | refine X.rq ?_ | refine X.rc ?_ ?_ <;> intro hc <;> try omega)
  refine K.WL.freezeRow (hrow.sz fun c x hc => ImgC.five hc) (fun hb4 le4 hsl4 hcap4 => ?_)
  have hleh4 := hleh.trans le4
  obtain ⟨ao4, ca4, e4⟩ := hsl4.len
  rw [e4] at hsl4 ⊢
  rw [hfl] at hsl4 ⊢
  clear e4
  refine X.sto ?_
  simp only [Go.K.nmz]
  (repeat' first | refine X.rq ?_ | refine X.rc ?_ ?_ <;> intro hc <;> try omega)
  refine K.l_buildSlice (Fx.und rfl) (Fx.sz rfl) rfl (Fx.zr rfl) rfl rfl rfl (cs := []) rfl rfl (fun B25 => ?_)
  refine K.WL.bufOf (s := 4) (m := 0) rfl (Nat.zero_le _) ?_
  (repeat' first | refine X.rq ?_ | refine X.rc ?_ ?_ <;> intro hc <;> try omega)
  refine K.l_append_at 0 rfl (Fx.und rfl) (Fx.und rfl) rfl (Fx.sz rfl) (Fx.zr rfl) rfl (Fx.byt rfl) rfl rfl ((hl4.le hleh4).src (fun e he => by
   obtain ⟨x, _, rfl⟩ := List.mem_map.1 he
   exact cL_ones x)) (by rw [List.length_map]; omega) (by rw [List.length_map]; omega) rfl (fun a26 cap26 => ?_)
  simp only [Go.K.nmz]
  rw [Nat.zero_add]
  refine K.WL.freezeRow (fun e he => by
   obtain ⟨x, _, rfl⟩ := List.mem_map.1 he
   rfl) (fun hb26 le26 hsl26 _ => ?_)
  obtain ⟨al2, cl2, e26⟩ := hsl26.len
  rw [e26] at hsl26 ⊢
  rw [List.length_map] at hsl26 ⊢
  clear e26
  (repeat' first | refine X.rq ?_ | refine X.rc ?_ ?_ <;> intro hc <;> try omega)
  refine X.sto ?_
  simp only [Go.K.nmz]
  (repeat' first | refine X.rq ?_ | refine X.rc ?_ ?_ <;> intro hc <;> try omega)
  have hleh5 := hleh4.trans le26
  refine K.l_buildSlice (Fx.und rfl) (Fx.sz rfl) rfl (Fx.zr rfl) rfl rfl rfl (cs := []) rfl rfl (fun B35 => ?_)
  refine K.WL.bufOf (s := 2) (m := 0) rfl (Nat.zero_le _) ?_
  (repeat' first | refine X.rq ?_ | refine X.rc ?_ ?_ <;> intro hc <;> try omega)
  refine K.l_append_at 0 rfl (Fx.und rfl) (Fx.und rfl) rfl (Fx.sz rfl) (Fx.zr rfl) rfl (Fx.byt rfl) rfl rfl ((hd2.le hleh5).src (fun e he => by
   obtain ⟨x, _, rfl⟩ := List.mem_map.1 he
   exact cD_ones x)) (by rw [List.length_map]; omega) (by rw [List.length_map]; omega) rfl (fun a36 cap36 => ?_)
  simp only [Go.K.nmz]
  rw [Nat.zero_add]
  refine K.WL.freezeRow (fun e he => by
   obtain ⟨x, _, rfl⟩ := List.mem_map.1 he
   rfl) (fun hb36 le36 hsl36 _ => ?_)
  obtain ⟨ay2, cy2, e36⟩ := hsl36.len
  rw [e36] at hsl36 ⊢
  rw [List.length_map] at hsl36 ⊢
  clear e36
  (repeat' first | refine X.rq ?_ | refine X.rc ?_ ?_ <;> intro hc <;> try omega)
  refine X.sto ?_
  simp only [Go.K.nmz]
  (repeat' first | refine X.rq ?_ | refine X.rc ?_ ?_ <;> intro hc <;> try omega)
  refine K.WL.perm (K.pp [1] rfl) ?_
  simp only [Go.K.nmz]
  refine X.stw ?_
  simp only [Go.K.nmz]
  (repeat' first | refine X.rq ?_ | refine X.rc ?_ ?_ <;> intro hc <;> try omega)
  skip
  have hlef := hleh5.trans le36
  have hrc : RecC hb36 (cR r (.slice ad2 r.op.data.length cd2) (.slice ao4 r.images.length ca4) (.slice al2 r.lives.length cl2) (.slice ay2 r.dirty.length cy2)) r := recC_of (hw0 ()) (hb2.le ((hle.trans le4).trans (le26.trans le36))) ⟨fs, hsl4.le (le26.trans le36), hrow.1, fun i c x hc hx => ImgC.le (le4.trans (le26.trans le36)) (hrow.2 i c x hc hx)⟩ (hsl26.le le36) hsl36
  refine K.doneC (vs := [.agg (cR r (.slice ad2 r.op.data.length cd2) (.slice ao4 r.images.length ca4) (.slice al2 r.lives.length cl2) (.slice ay2 r.dirty.length cy2)).toArray]) (by first | exact Or.inl rfl | exact Or.inr rfl) (.cell rfl (Fx.agg rfl) (Fx.sz rfl) (K.cels_own (pre := []) (post := []) 0 rfl rfl) .nil) hlef (D := [_, _]) (H' := []) rfl ⟨rfl, _, rfl, hrc⟩
end Go.Proofs.YtmcdaegaopfihaaGreat.Rc
