/-
  Texts joined: Hd KZ. Conditions: each theorem's own.
-/
import Derived.Test.YtkdngpiiecmpgaaGreatQ10
import Derived.Test.YtkdngpiiecmpgaaGreatQ1
section
namespace Go.Proofs.YtkdngpiiecmpgaaGreat.Rc
open Go Go.K Go.Proofs Go.Proofs.YtkdngpiiecmpgaaGreat Go.Proofs.YtkdngpiiecmpgaaGreat.Pg
set_option linter.unusedVariables false
set_option linter.unusedSimpArgs false
set_option maxRecDepth 10000

theorem RecC.cells {h : Base} {cs : List Value} {r : Recd} (hx : RecC h cs r) : wfR r ∧ ∃ ad ai al ay cd ci cl cy, cs = cR r (.slice ad r.op.data.length cd) (.slice ai r.images.length ci) (.slice al r.lives.length cl) (.slice ay r.dirty.length cy) ∧ BV h (.slice ad r.op.data.length cd) r.op.data ∧ ImgsV h (.slice ai r.images.length ci) r.images ∧ SL h 4 (.slice al r.lives.length cl) (r.lives.map cL) ∧ SL h 2 (.slice ay r.dirty.length cy) (r.dirty.map cD) := by
 obtain ⟨hw, ad, cd, iv, lv, yv, rfl, hb, ⟨es, h1, h2, h3⟩, h4, h5⟩ := hx
 obtain ⟨ai, ci, rfl⟩ := h1.len
 obtain ⟨al, cl, rfl⟩ := h4.len
 obtain ⟨ay, cy, rfl⟩ := h5.len
 rw [List.length_map] at h4 ⊢
 rw [List.length_map] at h5 ⊢
 rw [h2] at h1 ⊢
 exact ⟨hw, ad, ai, al, ay, cd, ci, cl, cy, rfl, hb, ⟨es, h1, h2, h3⟩, h4, h5⟩
theorem bare_iff (r : Recd) : bareP r ↔ r.txn = (usedQ r).txn ∧ r.prev = (usedQ r).prev ∧ r.undo = (usedQ r).undo ∧ r.page = (usedQ r).page ∧ r.root = (usedQ r).root ∧ r.next = (usedQ r).next ∧ r.op.kind = (usedQ r).op.kind ∧ r.op.slot = (usedQ r).op.slot ∧ r.op.txn = (usedQ r).op.txn ∧
  r.op.data.length = (if r.kind = 2 ∨ r.kind = 3 then r.op.data.length else 0) ∧ r.images.length = (if r.kind = 4 then r.images.length else 0) ∧ r.lives.length = (if r.kind = 8 then r.lives.length else 0) ∧ r.dirty.length = (if r.kind = 8 then r.dirty.length else 0) := by
 rw [bareP_iff]
 unfold usedQ
 dsimp only
 constructor
 ·rintro ⟨h1, h2, h3, h4, h5, h6⟩
  refine ⟨?_, ?_, ?_, ?_, ?_, ?_, ?_, ?_, ?_, ?_, ?_, ?_, ?_⟩
  ·split
   ·rfl
   ·exact h1 (by assumption)
  ·split
   ·rfl
   ·exact h2 (by assumption)
  ·split
   ·rfl
   ·exact h3 (by assumption)
  ·split
   ·rfl
   ·exact (h4 (by assumption)).1
  ·split
   ·rfl
   ·exact (h4 (by assumption)).2.1
  ·split
   ·rfl
   ·exact (h5 (by assumption)).1
  ·split
   ·rfl
   ·exact (h4 (by assumption)).2.2.1
  ·split
   ·rfl
   ·exact (h4 (by assumption)).2.2.2.1
  ·split
   ·rfl
   ·exact (h4 (by assumption)).2.2.2.2.1
  ·split
   ·rfl
   ·exact (h4 (by assumption)).2.2.2.2.2
  ·split
   ·rfl
   ·exact h6 (by assumption)
  ·split
   ·rfl
   ·exact (h5 (by assumption)).2.1
  ·split
   ·rfl
   ·exact (h5 (by assumption)).2.2
 ·rintro ⟨h1, h2, h3, h4, h5, h6, h7, h8, h9, h10, h11, h12, h13⟩
  refine ⟨fun h => ?_, fun h => ?_, fun h => ?_, fun h => ?_, fun h => ?_, fun h => ?_⟩
  ·rwa [if_neg h] at h1
  ·rwa [if_neg h] at h2
  ·rwa [if_neg h] at h3
  ·rw [if_neg h] at h4 h5 h7 h8 h9 h10
   exact ⟨h4, h5, h7, h8, h9, h10⟩
  ·rw [if_neg h] at h6 h12 h13
   exact ⟨h6, h12, h13⟩
  ·rwa [if_neg h] at h11
set_option maxHeartbeats 8000000 in
theorem PBare (h : Base) (cs : List Value) (r : Recd) (hx : RecC h cs r) : TrV Tryz.prog 79 [.agg cs.toArray] h [] (.bool (decide (bareP r))) [] := by
 obtain ⟨hw, ad, ai, al, ay, cd, ci, cl, cy, rfl, hb, _, _, _⟩ := hx.cells
 have hu := PUsed h r ad ai al ay r.op.data.length cd r.images.length ci r.lives.length cl r.dirty.length cy
 have hbi := bare_iff r
 unfold usedV sl at hu
 generalize (if r.kind = 2 ∨ r.kind = 3 then r.op.data.length else 0) = nd at hbi hu
 generalize (if r.kind = 4 then r.images.length else 0) = ni at hbi hu
 generalize (if r.kind = 8 then r.lives.length else 0) = nl at hbi hu
 generalize (if r.kind = 8 then r.dirty.length else 0) = ny at hbi hu
 generalize (if r.kind = 2 ∨ r.kind = 3 then ad else none) = ad2 at hu
 generalize (if r.kind = 4 then ai else none) = ai2 at hu
 generalize (if r.kind = 8 then al else none) = al2 at hu
 generalize (if r.kind = 8 then ay else none) = ay2 at hu
 generalize (if r.kind = 2 ∨ r.kind = 3 then cd else 0) = cd2 at hu
 generalize (if r.kind = 4 then ci else 0) = ci2 at hu
 generalize (if r.kind = 8 then cl else 0) = cl2 at hu
 generalize (if r.kind = 8 then cy else 0) = cy2 at hu
 generalize usedQ r = x at hbi hu
 have hbd : decide (bareP r) = decide (r.txn = x.txn ∧ r.prev = x.prev ∧ r.undo = x.undo ∧ r.page = x.page ∧ r.root = x.root ∧ r.next = x.next ∧ r.op.kind = x.op.kind ∧ r.op.slot = x.op.slot ∧ r.op.txn = x.op.txn ∧ r.op.data.length = nd ∧ r.images.length = ni ∧ r.lives.length = nl ∧ r.dirty.length = ny) := decide_eq_decide.2 hbi
 rw [hbd]
 clear hbi hbd
 refine K.enter Tryz.func79 rfl (Nat.le_of_ble_eq_true rfl) (fun F => ?_)
 simp only [List.nil_append]
 (repeat' (first | refine X.rq ?_ | (refine X.rc ?_ ?_ <;> intro hc <;> first | (exfalso; omega) | skip)))
 refine K.l_box rfl rfl rfl (fun B1 => ?_)
 (repeat' (first | refine X.rq ?_ | (refine X.rc ?_ ?_ <;> intro hc <;> first | (exfalso; omega) | skip)))
 refine K.l_callV (Fx.cal rfl) rfl hu (K.pp [] rfl) rfl rfl ?_
 simp only [List.nil_append]
 refine K.l_alloc (Fx.zr rfl) rfl rfl (fun B3 => ?_)
 refine X.stw ?_
 simp only [List.set_cons_zero, List.set_cons_succ, List.eraseIdx_cons_zero, List.eraseIdx_cons_succ, List.cons_append, List.nil_append]
 (repeat' (first | refine X.rq ?_ | (refine X.rc ?_ ?_ <;> intro hc <;> first | (exfalso; omega) | skip)))
 all_goals
  refine K.AT.sel [0, 0] rfl ?_
  refine K.done (by first | exact Or.inl rfl | exact Or.inr rfl) rfl (by first | exact K.Base.le.refl _ | assumption) (H' := []) rfl ⟨?_, rfl, rfl⟩
  refine congrArg Value.bool (Bool.eq_iff_iff.2 ?_)
  simp only [decide_eq_true_eq, Bool.false_eq_true, false_iff]
  omega
end Go.Proofs.YtkdngpiiecmpgaaGreat.Rc
end

section
namespace Go.K
set_option linter.unusedVariables false
set_option linter.unusedSimpArgs false

theorem Ok.forget {h h1 : Base} {F : List Asrt} {w : World} (hle : h.le h1) (ok : Ok h1 F w) : Ok h F w :=
 ⟨ok.os.trans hle.os, ok.tape.trans hle.tape, ok.output.trans hle.output, ⟨fun b o hb => ok.sat.imm b o (hle.mem b o hb), ok.sat.own⟩, ok.nd, fun b hb => by
  cases hm : h.mem b with
  | none => rfl
  | some o => have := hle.mem b o hm; rw [ok.dj b hb] at this; cases this⟩
section
variable {P : Program} {n : Nat} {Q : Exit → Act → World → Prop} {E : Env} {h h1 : Base} {A R F : List Asrt} {ops : Array Oper}
theorem AT.forget {q : Exit} (hle : h.le h1) (hx : AT P n Q q E h F) : AT P n Q q E h1 F := ⟨fun a w fa ok => hx.run a w fa (Ok.forget hle ok)⟩
theorem WL.forget {L : List Oper} (hle : h.le h1) (hx : WL P n ops Q L E h F) : WL P n ops Q L E h1 F := ⟨fun a w fa ok => hx.run a w fa (Ok.forget hle ok)⟩
theorem WC.forget {c : Code} (hle : h.le h1) (hx : WC P n c Q E h F) : WC P n c Q E h1 F := ⟨fun a w fa ok => hx.run a w fa (Ok.forget hle ok)⟩
theorem Tr.give {f : FuncId} {args : List Value} {Q : Value → List Asrt → Prop} (ht : ∀ h', h.le h' → Says h' A → Tr P f args h' R (fun u h1 H1 => Q u H1)) :
  Tr P f args h (A ++ R) (fun u h1 H1 => h1 = h ∧ Q u H1) := fun F w ok => by
 rw [List.append_assoc] at ok
 obtain ⟨h', hle, hs, ok', _⟩ := ok.freezeA
 refine Calls.mono (ht h' hle hs F w ok') fun e w' ⟨u, he, h1, H1, hle1, q2, ok1⟩ => ⟨u, he, h, H1, .refl _, ⟨rfl, q2⟩, ?_⟩
 exact Ok.forget (hle.trans hle1) ok1
theorem Tr.forget {f : FuncId} {args : List Value} {Q : Value → List Asrt → Prop} (ht : Tr P f args h R (fun u h1 H1 => Q u H1)) : Tr P f args h R (fun u h1 H1 => h1 = h ∧ Q u H1) := fun F w ok =>
 Calls.mono (ht F w ok) fun e w' ⟨u, he, h1, H1, hle1, q2, ok1⟩ => ⟨u, he, h, H1, .refl _, ⟨rfl, q2⟩, Ok.forget hle1 ok1⟩
end
theorem says_blk {h : Base} {T b : Nat} {cs : List Value} (hs : Says h [blk b T cs]) : Cels h [] b 0 cs := cels_of fun j u hj => ⟨fun w hw => by
 have e := hs.2 w hw _ (List.mem_singleton.2 rfl)
 rw [Nat.zero_add]
 exact (cel_own (K := [blk b T cs]) (h := h) 0 rfl hj).run w ⟨hw.imm, fun A hA => by
  rw [List.mem_singleton] at hA; subst hA; exact e⟩⟩
abbrev n64 (x : Nat) : Value := .int .u64 (x : Int)
def U64s (h : Base) (v : Value) (xs : List Nat) : Prop := SL h 1 v (xs.map fun x => [n64 x])
theorem says_nums {h : Base} {T b : Nat} {xs : List Nat} (hs : Says h [blk b T (xs.map n64)]) : U64s h (.slice (some ⟨b, 0, none⟩) xs.length xs.length) xs := by
 have hc := says_blk hs
 refine .inr ⟨b, 0, xs.length, by rw [List.length_map], by rw [List.length_map]; exact Nat.le_refl _, fun j hj => ?_⟩
 rw [List.length_map] at hj
 rw [List.getElem_map]
 refine ⟨rfl, ?_⟩
 have := hc.get j (n64 xs[j]) (by rw [List.getElem?_map, List.getElem?_eq_getElem hj]; rfl)
 rw [Nat.zero_add, Nat.mul_one]
 rw [Nat.zero_add] at this
 exact ⟨this, trivial⟩
end Go.K
end
