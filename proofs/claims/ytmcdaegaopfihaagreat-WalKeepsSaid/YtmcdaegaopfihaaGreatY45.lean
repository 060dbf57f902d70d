/-
 The law: some answers that the document fixes. Conditions: each theorem's own.
-/
import Derived.Test.YtmcdaegaopfihaaGreatY44
namespace Go.Proofs.YtmcdaegaopfihaaGreat.Wl
open Go Go.K Go.Proofs Go.Proofs.YtmcdaegaopfihaaGreat Go.Proofs.YtmcdaegaopfihaaGreat.Pg Go.Proofs.YtmcdaegaopfihaaGreat.Cc Go.Proofs.YtmcdaegaopfihaaGreat.Rc
set_option linter.unusedVariables false
set_option linter.unusedSimpArgs false
set_option maxRecDepth 10000

def rA1 : Recd := ⟨1, 0, 300, 0, 0, 0, 0, zO, [], [], [], 0⟩
def rA2 : Recd := ⟨1, 0, 1, 0, 0, 0, 0, zO, [], [], [], 0⟩
theorem wfR_plain (r : Recd) (h1 : in64 r.kind) (h2 : r.lsn = 0) (h3 : r.txn < 1000) (h4 : r.prev = 0) (h5 : r.undo = 0) (h6 : r.page < 1000) (h7 : r.root = 0) (h8 : r.op = zO) (h9 : r.images = []) (h10 : r.lives = []) (h11 : r.dirty = []) (h12 : r.next = 0) : wfR r := by
 refine ⟨h1, by omega, by omega, by omega, by omega, by omega, by omega, by rw [h8]; exact wf_zO, by omega, ?_, ?_, ?_, ?_, ?_⟩
 ·rw [h9]; exact Nat.zero_le _
 ·rw [h10]; exact Nat.zero_le _
 ·rw [h11]; exact Nat.zero_le _
 ·rw [h10]; intro x hx; cases hx
 ·rw [h11]; intro x hx; cases hx
theorem recC_A1 (h : Base) : RecC h (cR rA1 (.slice none 0 0) (.slice none 0 0) (.slice none 0 0) (.slice none 0 0)) rA1 := recC_of (r := rA1) (wfR_plain _ (by decide) rfl (by decide) rfl rfl (by decide) rfl rfl rfl rfl rfl rfl) BV.nil ImgsV.nil SL.nil SL.nil
theorem recC_A2 (h : Base) : RecC h (cR rA2 (.slice none 0 0) (.slice none 0 0) (.slice none 0 0) (.slice none 0 0)) rA2 := recC_of (r := rA2) (wfR_plain _ (by decide) rfl (by decide) rfl rfl (by decide) rfl rfl rfl rfl rfl rfl) BV.nil ImgsV.nil SL.nil SL.nil
theorem enc_A1 : encR rA1 = ([5, 0, 1, 172, 2], 0) := by decide
theorem enc_A2 : encR rA2 = ([4, 0, 1, 1], 0) := by decide
theorem small_A1 : smallR rA1 := ⟨Nat.zero_le _, Nat.zero_le _, Nat.zero_le _, Nat.zero_le _⟩
theorem small_A2 : smallR rA2 := ⟨Nat.zero_le _, Nat.zero_le _, Nat.zero_le _, Nat.zero_le _⟩
set_option maxHeartbeats 8000000 in
theorem Alive (h : Base) : Tr Tryz.prog 7 [] h [] (fun u h' H' => u = .bool true ∧ H' = []) := by
 refine K.enter Tryz.func7 rfl (Nat.le_of_ble_eq_true rfl) (fun F => ?_)
 simp only [List.nil_append]
 (repeat' first | refine X.rq ?_ | refine X.rc ?_ ?_ <;> intro hc <;> try omega)
 refine K.l_call (Fx.cal rfl) rfl (New h 20 (by decide) (by decide)) (K.pp [] rfl) rfl ?_
 rintro u h1 H' - ⟨rfl, hne⟩
 rcases hne with ⟨_, _, d, M, rfl, rfl⟩ | ⟨hx, _⟩
 rotate_left
 ·exfalso; exact hx ⟨by decide, by decide⟩
 have k0 : DkOk (newDk 20) := newOk (by decide) (by decide)
 have f15 : formatQ (15 : Int) (newDk 20) = (1, newDk 20) := if_pos (Or.inl (by decide))
 obtain ⟨g0, g1, g2, g3⟩ := format_run (D := newDk 20) (n := 16) k0 rfl ⟨rfl, rfl⟩ (Nat.le_refl _) (by decide)
 have hF1 := fun h => Format h d M (newDk 20) 15 k0 (by decide)
 have hF2 := fun h M => Format h d M (newDk 20) 16 k0 (by decide)
 rw [f15] at hF1
 rw [show ((20 : Int).toNat) = 20 from rfl]
 rw [show ((16 : Nat) : Int) = 16 from rfl] at g0 g1 g2 g3
 rw [g0] at hF2
 generalize (formatQ (16 : Int) (newDk 20)).2 = D1 at g1 g2 g3 hF2
 clear g0 f15
 (repeat' first | refine X.rq ?_ | refine X.rc ?_ ?_ <;> intro hc <;> try omega)
 refine K.l_call (Fx.cal rfl) rfl (hF1 _) (K.pp [0, 0, 0] rfl) rfl ?_
 rintro u h2 H' le2 ⟨rfl, M', hM, rfl⟩
 obtain rfl := hM (Or.inl (by decide))
 (repeat' first | refine X.rq ?_ | refine X.rc ?_ ?_ <;> intro hc <;> try omega)
 refine K.l_call (Fx.cal rfl) rfl (hF2 _ _) (K.pp [0, 0, 0] rfl) rfl ?_
 rintro u h3 H' le3 ⟨rfl, M3, -, rfl⟩
 (repeat' first | refine X.rq ?_ | refine X.rc ?_ ?_ <;> intro hc <;> try omega)
 refine K.l_call (Fx.cal rfl) rfl (Open _ d M3 D1 g3.ok (by rw [g3.cache]; decide)) (K.pp [0, 0, 0] rfl) rfl ?_
 rintro u h4 H' le4 ⟨r, D4, M4, H4, ho, rfl, hV⟩
 obtain ⟨g4, _, L4, rfl, g5, gm⟩ := open_run g3 g1 ho
 obtain ⟨p, W, sv, rfl, hrs, hst, rfl⟩ := hV
 obtain ⟨es4, hs4, he4, _⟩ := hrs
 obtain ⟨a4, c4, rfl⟩ := hs4.len
 have he0 : es4.length = 0 := by rw [he4]; rfl
 rw [he0]
 have q1 := g5.str
 have q2 := g5.sts
 have q3 := g5.dur
 obtain ⟨mm, ss, st, du⟩ := L4
 dsimp only at gm q1 q2 q3 hst
 subst gm q1 q2
 rw [show (master0 16).base + lenQ (([] : List Recd).take 0 |>.take 0) = 1 from rfl] at q3
 subst q3
 have w1 : bytesQ [] = [] := rfl
 have w2 : startsQ (master0 16).base [] = [] := rfl
 simp only [List.take_nil, w1, w2] at g5 hst ⊢
 have o4 := g5.lgOk
 have hB := LBase h4 p d W ⟨master0 16, [], [], 1⟩
 have hR := LRoom h4 p d W ⟨master0 16, [], [], 1⟩ o4 hst
 rw [show n64 (Lg.mk (master0 16) [] [] 1).m.base = .int .u64 1 from rfl] at hB
 rw [show ((roomQ ⟨master0 16, [], [], 1⟩ : Nat) : Int) = 8160 by decide] at hR
 have a1 : appQ ⟨master0 16, [], [], 1⟩ rA1 = ((1, 0), ⟨master0 16, [5, 0, 1, 172, 2], [1], 1⟩) := by unfold appQ; rw [enc_A1]; rfl
 have a2 : appQ ⟨master0 16, [5, 0, 1, 172, 2], [1], 1⟩ rA2 = ((6, 0), ⟨master0 16, [5, 0, 1, 172, 2, 4, 0, 1, 1], [1, 6], 1⟩) := by unfold appQ; rw [enc_A2]; rfl
 have g6 := append_run g5 (r := rA1) (recC_A1 h4).wfX (by rw [enc_A1]) (by rw [enc_A1]; decide)
 rw [a1] at g6
 dsimp only at g6
 have g7 := append_run g6 (r := rA2) (recC_A2 h4).wfX (by rw [enc_A2]) (by rw [enc_A2]; decide)
 rw [a2] at g7
 dsimp only at g7
 have hA1 := Append h4 p d W ⟨master0 16, [], [], 1⟩ o4 hst _ rA1 (recC_A1 h4) small_A1
 rw [a1] at hA1
 dsimp only at hA1
 have hA2 := fun W hst => Append h4 p d W ⟨master0 16, [5, 0, 1, 172, 2], [1], 1⟩ g6.lgOk hst _ rA2 (recC_A2 h4) small_A2
 rw [a2] at hA2
 dsimp only at hA2
 have hE := fun h W hst => LEnd h p d W ⟨master0 16, [5, 0, 1, 172, 2, 4, 0, 1, 1], [1, 6], 1⟩ g7.lgOk hst
 rw [show n64 (endQ ⟨master0 16, [5, 0, 1, 172, 2, 4, 0, 1, 1], [1, 6], 1⟩) = .int .u64 10 from rfl] at hE
 (repeat' first | refine X.rq ?_ | refine X.rc ?_ ?_ <;> intro hc <;> try omega)
 refine K.l_callV (Fx.cal rfl) rfl hB (K.pp [0, 0, 0] rfl) rfl rfl ?_
 (repeat' first | refine X.rq ?_ | refine X.rc ?_ ?_ <;> intro hc <;> try omega)
 refine K.l_callV (Fx.cal rfl) rfl hR (K.pp [0, 0, 0] rfl) rfl rfl ?_
 (repeat' first | refine X.rq ?_ | refine X.rc ?_ ?_ <;> intro hc <;> try omega)
 refine K.l_call (Fx.cal rfl) rfl hA1 (K.pp [0, 0, 0] rfl) rfl ?_
 rintro u h' H' - ⟨rfl, rfl, W5, hst5, rfl⟩
 (repeat' first | refine X.rq ?_ | refine X.rc ?_ ?_ <;> intro hc <;> try omega)
 refine K.l_call (Fx.cal rfl) rfl (hA2 W5 hst5) (K.pp [0, 0, 0] rfl) rfl ?_
 rintro u h' H' - ⟨rfl, rfl, W6, hst6, rfl⟩
 obtain ⟨f1, f2, f3, f4⟩ := flush_run g7
 obtain ⟨f5, f6⟩ := f1.on g4
 dsimp only at f5 f6
 rcases f4 with ⟨-, f7, f8⟩ | ⟨f7, -⟩
 rotate_left
 ·exfalso; omega
 have e10 : ({ (⟨master0 16, [5, 0, 1, 172, 2, 4, 0, 1, 1], [1, 6], 1⟩ : Lg) with durable := endQ ⟨master0 16, [5, 0, 1, 172, 2, 4, 0, 1, 1], [1, 6], 1⟩ } : Lg) = ⟨master0 16, [5, 0, 1, 172, 2, 4, 0, 1, 1], [1, 6], 10⟩ := rfl
 rw [e10] at f7 f8
 have hFl := fun M => Flush h' p d W6 _ M D4 g7.lgOk hst6 g7.ok (by rw [g7.cache]; decide)
 rw [f5, f7] at hFl
 generalize (flushQ ⟨master0 16, [5, 0, 1, 172, 2, 4, 0, 1, 1], [1, 6], 1⟩ D4).2.2 = D6 at f2 f3 f6 f8 hFl
 have m7 : markQ ⟨master0 16, [5, 0, 1, 172, 2, 4, 0, 1, 1], [1, 6], 10⟩ 7 D6 = (1, ⟨master0 16, [5, 0, 1, 172, 2, 4, 0, 1, 1], [1, 6], 10⟩, D6) := if_pos ⟨by decide, .inl (by decide)⟩
 have hM7 := fun h M => Mark h p d W6 ⟨master0 16, [5, 0, 1, 172, 2, 4, 0, 1, 1], [1, 6], 10⟩ 7 M D6 f8.lgOk f8.sts_sorted (by decide) f3 (by rw [f8.cache]; decide)
 rw [m7] at hM7
 obtain ⟨k1, k2, k3, k4⟩ := mark_run (c := 6) f8 (fun h => by
  rcases h.2 with h | h
  ·exact h (by decide)
  ·exact absurd h (by decide))
 obtain ⟨k5, k6⟩ := k1.on f6
 dsimp only at k5 k6
 rcases k4 with ⟨-, k7, k8⟩ | ⟨k7, -⟩
 rotate_left
 ·exfalso; omega
 have hM6 := fun h M => Mark h p d W6 ⟨master0 16, [5, 0, 1, 172, 2, 4, 0, 1, 1], [1, 6], 10⟩ 6 M D6 f8.lgOk f8.sts_sorted (by decide) f3 (by rw [f8.cache]; decide)
 rw [k5, k7] at hM6
 generalize (markQ ⟨master0 16, [5, 0, 1, 172, 2, 4, 0, 1, 1], [1, 6], 10⟩ 6 D6).2.2 = D7 at k2 k3 k6 k8 hM6
 have hD := fun h => LDurable h p d W6 { (⟨master0 16, [5, 0, 1, 172, 2, 4, 0, 1, 1], [1, 6], 10⟩ : Lg) with m := { (⟨master0 16, [5, 0, 1, 172, 2, 4, 0, 1, 1], [1, 6], 10⟩ : Lg).m with check := 6 } }
 rw [show n64 (Lg.mk { (⟨master0 16, [5, 0, 1, 172, 2, 4, 0, 1, 1], [1, 6], 10⟩ : Lg).m with check := 6 } [5, 0, 1, 172, 2, 4, 0, 1, 1] [1, 6] 10).durable = .int .u64 10 from rfl] at hD
 dsimp only at hFl hM7 hM6 hD
 unfold n64 at hM7 hM6
 (repeat' first | refine X.rq ?_ | refine X.rc ?_ ?_ <;> intro hc <;> try omega)
 refine K.l_callV (Fx.cal rfl) rfl (hE _ _ hst6) (K.pp [0, 0, 0] rfl) rfl rfl ?_
 (repeat' first | refine X.rq ?_ | refine X.rc ?_ ?_ <;> intro hc <;> try omega)
 refine K.l_call (Fx.cal rfl) rfl (hFl _) (K.pp [0, 0, 0, 0, 0, 0] rfl) rfl ?_
 rintro u h8 H' le8 ⟨rfl, M8, rfl⟩
 (repeat' first | refine X.rq ?_ | refine X.rc ?_ ?_ <;> intro hc <;> try omega)
 refine K.l_call (Fx.cal rfl) rfl (hM7 _ _) (K.pp [0, 0, 0, 0, 0, 0] rfl) rfl ?_
 rintro u h9 H' le9 ⟨rfl, M9, rfl⟩
 (repeat' first | refine X.rq ?_ | refine X.rc ?_ ?_ <;> intro hc <;> try omega)
 refine K.l_call (Fx.cal rfl) rfl (hM6 _ _) (K.pp [0, 0, 0, 0, 0, 0] rfl) rfl ?_
 rintro u h10 H' le10 ⟨rfl, M10, rfl⟩
 (repeat' first | refine X.rq ?_ | refine X.rc ?_ ?_ <;> intro hc <;> try omega)
 refine K.l_callV (Fx.cal rfl) rfl (hD _) (K.pp [0, 0, 0] rfl) rfl rfl ?_
 (repeat' first | refine X.rq ?_ | refine X.rc ?_ ?_ <;> intro hc <;> try omega)
 exact K.doneC (vs := [.bool true]) (by first | exact Or.inl rfl | exact Or.inr rfl) (.tmp rfl .nil) (le2.trans (le3.trans (le4.trans (le8.trans (le9.trans le10))))) (D := [_, _, _, _, _, _]) (H' := []) rfl ⟨rfl, rfl⟩
end Go.Proofs.YtmcdaegaopfihaaGreat.Wl
