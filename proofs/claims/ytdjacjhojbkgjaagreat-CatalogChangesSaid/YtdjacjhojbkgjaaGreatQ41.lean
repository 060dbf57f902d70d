/-
  Texts joined: Wh Wi Wj. Conditions: each theorem's own.
-/
import Derived.Test.YtdjacjhojbkgjaaGreatQ37
import Derived.Test.YtdjacjhojbkgjaaGreatQ38
import Derived.Test.YtdjacjhojbkgjaaGreatQ40
section
namespace Go.Proofs.YtdjacjhojbkgjaaGreat.Ct
open Go Go.K Go.Proofs Go.Proofs.YtdjacjhojbkgjaaGreat Go.Proofs.YtdjacjhojbkgjaaGreat.Rw
set_option linter.unusedVariables false
set_option linter.unusedSimpArgs false
set_option maxRecDepth 10000

def colsA : List Col := [⟨⟨#[97]⟩, 1, false⟩, ⟨⟨#[98]⟩, 2, true⟩]
def schA : PSch := ⟨[⟨1, ⟨#[116]⟩, colsA, 5⟩], []⟩
def schB : PSch := ⟨[⟨1, ⟨#[116]⟩, colsA, 5⟩], [⟨1, 1, ⟨#[105]⟩, [1], true, 6⟩]⟩
theorem awake1 : addTabQ zSch ⟨#[116]⟩ colsA 5 = (schA, 1, 0) := by decide
theorem awake2 : addIdxQ schA ⟨#[105]⟩ ⟨#[116]⟩ [1] true 6 = (schB, 1, 0) := by decide
theorem awake3 : mayS schB = true := by decide
theorem awake4 : (rowsQ schB).length = 5 := by decide
theorem awake5 : schB.idxs.find? (fun t => decide (t.name = ⟨#[105]⟩)) = some ⟨1, 1, ⟨#[105]⟩, [1], true, 6⟩ := by decide
theorem wfC_A : ∀ c ∈ colsA, wfC c := fun c hc => by
  simp only [colsA, List.mem_cons, List.mem_nil_iff, or_false] at hc
  rcases hc with rfl | rfl <;> exact ⟨by decide, by decide, by decide⟩
theorem wf_tabA : ∀ t ∈ schA.tabs, wfTb t := fun t ht => by
  simp only [schA, List.mem_cons, List.mem_nil_iff, or_false] at ht
  subst ht
  exact ⟨by decide, by decide, wfC_A, by decide, by decide⟩
theorem wfA : wfS schA := ⟨wf_tabA, fun t h => (by cases h), by decide, by decide⟩
theorem wfB : wfS schB := ⟨wf_tabA, fun t ht => by
  simp only [schB, List.mem_cons, List.mem_nil_iff, or_false] at ht
  subst ht
  exact ⟨by decide, by decide, by decide, fun n hn => (by simp only [List.mem_cons, List.mem_nil_iff, or_false] at hn; subst hn; decide), by decide, by decide⟩, by decide, by decide⟩
set_option maxHeartbeats 8000000 in
theorem Awake (h : Base) : Tr Tryz.prog 8 [] h [] (fun u h' H' => H' = [] ∧ u = .bool true) := by
  refine K.enter Tryz.func8 rfl (Nat.le_of_ble_eq_true rfl) (fun F => ?_)
  simp only [List.nil_append, List.cons_append]
  (repeat' (first | refine X.rq ?_ | (refine X.rc ?_ ?_ <;> intro hc <;> first | (exfalso; omega) | skip)))
  refine X.bs (fun B => ?_)
  refine K.WL.bufOf (m := 2) (s := 3) rfl (by unfold maxLen; omega) ?_
  refine K.WL.freezeRowN (m := 2) (es := colsA.map cC) rfl (three _) (fun h1 hle1 hs1 => ?_)
  (repeat' (first | refine X.rq ?_ | (refine X.rc ?_ ?_ <;> intro hc <;> first | (exfalso; omega) | skip)))
  refine K.l_call (Fx.cal rfl) rfl (AddTable h1 [.slice none 0 0, .slice none 0 0] zSch ⟨#[116]⟩ _ colsA 5 (zSch_c h1) zSch_wf hs1 (by decide) wfC_A (by decide)) (K.pp [] rfl) rfl ?_
  rintro u h2 H' hle2 ⟨rfl, cs2, rfl, hsf2⟩
  rw [awake1] at hsf2 ⊢
  have hs2 := hsf2.c
  simp only at hs2
  obtain ⟨vt, vi, ts, is, rfl, hvt, ht, hvi, hi⟩ := id hs2
  obtain ⟨ao, ca, rfl⟩ := hvt.len
  obtain ⟨ai, ci, rfl⟩ := hvi.len
  simp only [List.set_cons_zero, List.set_cons_succ, List.eraseIdx_cons_zero, List.eraseIdx_cons_succ, List.cons_append, List.nil_append]
  (repeat' (first | refine X.rq ?_ | (refine X.rc ?_ ?_ <;> intro hc <;> first | (exfalso; omega) | skip)))
  refine K.l_alloc (Fx.zr rfl) rfl rfl (fun B2 => ?_)
  refine X.stw ?_
  simp only [List.set_cons_zero, List.set_cons_succ, List.eraseIdx_cons_zero, List.eraseIdx_cons_succ, List.cons_append, List.nil_append]
  (repeat' (first | refine X.rq ?_ | (refine X.rc ?_ ?_ <;> intro hc <;> first | (exfalso; omega) | skip)))
  refine X.bs (fun B => ?_)
  refine K.WL.bufOf (m := 1) (s := 1) rfl (by unfold maxLen; omega) ?_
  refine K.WL.freezeRowN (m := 1) (es := rowN [1]) rfl (oneN _) (fun h3 hle3 hs3 => ?_)
  refine K.l_call (Fx.cal rfl) rfl (AddIndex h3 _ schA ⟨#[105]⟩ ⟨#[116]⟩ _ [1] true 6 (hs2.le hle3) wfA hs3 (by decide) (by decide)) (K.pp [] rfl) rfl ?_
  rintro u h4 H' hle4 ⟨rfl, cs4, rfl, hsf4⟩
  rw [awake2] at hsf4 ⊢
  have hs4 := hsf4.c
  simp only at hs4
  obtain ⟨vt4, vi4, ts4, is4, rfl, hvt4, ht4, hvi4, hi4⟩ := id hs4
  obtain ⟨ao4, ca4, rfl⟩ := hvt4.len
  obtain ⟨ai4, ci4, rfl⟩ := hvi4.len
  simp only [List.set_cons_zero, List.set_cons_succ, List.eraseIdx_cons_zero, List.eraseIdx_cons_succ, List.cons_append, List.nil_append]
  (repeat' (first | refine X.rq ?_ | (refine X.rc ?_ ?_ <;> intro hc <;> first | (exfalso; omega) | skip)))
  refine K.l_alloc (Fx.zr rfl) rfl rfl (fun B5 => ?_)
  refine X.stw ?_
  simp only [List.set_cons_zero, List.set_cons_succ, List.eraseIdx_cons_zero, List.eraseIdx_cons_succ, List.cons_append, List.nil_append]
  (repeat' (first | refine X.rq ?_ | (refine X.rc ?_ ?_ <;> intro hc <;> first | (exfalso; omega) | skip)))
  refine K.l_call (Fx.cal rfl) rfl (Rows h4 _ schB hs4 wfB) (K.pp [] rfl) rfl ?_
  rintro u h5 H' hle5 ⟨rfl, v5, rfl, hr5⟩
  rw [awake3] at hr5 ⊢
  simp only [if_true] at hr5
  have hl5 : ∃ a c, v5 = .slice a 5 c := by
    obtain ⟨es5, h51, h52⟩ := hr5
    obtain ⟨a, c, e⟩ := h51.len
    exact ⟨a, c, by rw [e, h52.len, awake4]⟩
  obtain ⟨a5, c5, rfl⟩ := hl5
  simp only [if_true]
  simp only [List.set_cons_zero, List.set_cons_succ, List.eraseIdx_cons_zero, List.eraseIdx_cons_succ, List.cons_append, List.nil_append]
  (repeat' (first | refine X.rq ?_ | (refine X.rc ?_ ?_ <;> intro hc <;> first | (exfalso; omega) | skip)))
  refine K.l_call (Fx.cal rfl) rfl (OwnRows h5 _ (rowsQ schB) hr5 (fun r hr => by have := rows_six r hr; omega) (by rw [awake4]; decide)) (K.pp [] rfl) rfl ?_
  rintro u h6 H' hle6 ⟨rfl, hr6⟩
  obtain ⟨a6, c6, rfl⟩ : ∃ a c, u = .slice a 5 c := by
    obtain ⟨es5, h51, h52⟩ := hr6
    obtain ⟨a, c, e⟩ := h51.len
    exact ⟨a, c, by rw [e, h52.len, awake4]⟩
  simp only [List.set_cons_zero, List.set_cons_succ, List.eraseIdx_cons_zero, List.eraseIdx_cons_succ, List.cons_append, List.nil_append]
  (repeat' (first | refine X.rq ?_ | (refine X.rc ?_ ?_ <;> intro hc <;> first | (exfalso; omega) | skip)))
  have hrw := rows_wf wfB awake3
  refine K.l_call (Fx.cal rfl) rfl (Read h6 _ (rowsQ schB) hr6 (fun r hr => (hrw r hr).1) (fun r hr => (hrw r hr).2) (by rw [awake4]; decide)) (K.pp [] rfl) rfl ?_
  rintro u h7 H' hle7 ⟨rfl, ok7, s7, cs7, rfl, hs7, hw7, hp7⟩
  obtain ⟨rfl, rfl⟩ := read_one hp7 (ok2 := true) (s2 := schB) ⟨fun _ => ⟨awake3, .refl _⟩, fun e => (by cases e)⟩ hw7 wfB
  obtain ⟨vt7, vi7, ts7, is7, rfl, hvt7, ht7, hvi7, hi7⟩ := id hs7
  obtain ⟨ao7, ca7, rfl⟩ := hvt7.len
  obtain ⟨ai7, ci7, rfl⟩ := hvi7.len
  simp only [if_true, eV]
  simp only [List.set_cons_zero, List.set_cons_succ, List.eraseIdx_cons_zero, List.eraseIdx_cons_succ, List.cons_append, List.nil_append]
  (repeat' (first | refine X.rq ?_ | (refine X.rc ?_ ?_ <;> intro hc <;> first | (exfalso; omega) | skip)))
  refine K.l_alloc (Fx.zr rfl) rfl rfl (fun B10 => ?_)
  refine X.stw ?_
  simp only [List.set_cons_zero, List.set_cons_succ, List.eraseIdx_cons_zero, List.eraseIdx_cons_succ, List.cons_append, List.nil_append]
  (repeat' (first | refine X.rq ?_ | (refine X.rc ?_ ?_ <;> intro hc <;> first | (exfalso; omega) | skip)))
  have hs47 := hs4.le (hle5.trans (hle6.trans hle7))
  refine K.l_call (Fx.cal rfl) rfl (Index h7 _ schB ⟨#[105]⟩ hs47 wfB) (K.pp [] rfl) rfl ?_
  rintro u h8 H' hle8 ⟨rfl, v8, rfl, hv8, _⟩
  rw [awake5] at hv8 ⊢
  simp only [Option.getD_some, Option.isSome_some] at hv8 ⊢
  obtain ⟨a8, c8, rfl⟩ := hv8.len
  simp only [List.set_cons_zero, List.set_cons_succ, List.eraseIdx_cons_zero, List.eraseIdx_cons_succ, List.cons_append, List.nil_append]
  (repeat' (first | refine X.rq ?_ | (refine X.rc ?_ ?_ <;> intro hc <;> first | (exfalso; omega) | skip)))
  refine K.l_alloc (Fx.zr rfl) rfl rfl (fun B12 => ?_)
  refine X.stw ?_
  simp only [List.set_cons_zero, List.set_cons_succ, List.eraseIdx_cons_zero, List.eraseIdx_cons_succ, List.cons_append, List.nil_append]
  (repeat' (first | refine X.rq ?_ | (refine X.rc ?_ ?_ <;> intro hc <;> first | (exfalso; omega) | skip)))
  refine K.l_callV (Fx.cal rfl) rfl (SameS h8 _ _ schB schB (hs47.le hle8) (hs7.le hle8) wfB wfB) (K.pp [] rfl) rfl rfl ?_
  simp only [List.nil_append, decide_true]
  (repeat' (first | refine X.rq ?_ | (refine X.rc ?_ ?_ <;> intro hc <;> first | (exfalso; omega) | skip)))
  refine K.l_call (Fx.cal rfl) rfl (MayS h8 _ schB (hs47.le hle8) wfB) (K.pp [] rfl) rfl ?_
  rintro u h9 H' hle9 ⟨rfl, rfl⟩
  rw [awake3]
  simp only [List.set_cons_zero, List.set_cons_succ, List.eraseIdx_cons_zero, List.eraseIdx_cons_succ, List.cons_append, List.nil_append]
  (repeat' (first | refine X.rq ?_ | (refine X.rc ?_ ?_ <;> intro hc <;> first | (exfalso; omega) | skip)))
  refine K.AT.dropsA (A := [_, _, _, _]) ?_
  refine K.done (.inl rfl) rfl (hle1.trans (hle2.trans (hle3.trans (hle4.trans (hle5.trans (hle6.trans (hle7.trans (hle8.trans hle9)))))))) (H' := []) rfl ⟨rfl, rfl⟩
end Go.Proofs.YtdjacjhojbkgjaaGreat.Ct
end

section
namespace Go.Proofs.YtdjacjhojbkgjaaGreat.Ct
open Go Go.K Go.Proofs Go.Proofs.YtdjacjhojbkgjaaGreat Go.Proofs.YtdjacjhojbkgjaaGreat.Rw
set_option linter.unusedVariables false
set_option linter.unusedSimpArgs false
set_option maxRecDepth 10000

theorem SchC.form {h : Base} {s : PSch} {cs : List Value} (hs : SchC h s cs) : ∃ a k a2 k2, cs = [.slice a s.tabs.length k, .slice a2 s.idxs.length k2] := by
  obtain ⟨vt, vi, ts, is, rfl, h1, h2, h3, h4⟩ := hs
  obtain ⟨a, k, rfl⟩ := h1.len
  obtain ⟨a2, k2, rfl⟩ := h3.len
  exact ⟨a, k, a2, k2, by rw [h2.len, h4.len]⟩
theorem copied {h : Base} {s : PSch} {a : Option Nat} {k : Nat} {a2 : Option Nat} {k2 : Nat} {es es2 : List (List Value)} (h1 : SL h 4 (bufV a s.tabs.length k) es) (h2 : Each (TabC h) es s.tabs) (h3 : SL h 6 (bufV a2 s.idxs.length k2) es2) (h4 : Each (IdxC h) es2 s.idxs) : SchC h s [bufV a s.tabs.length k, bufV a2 s.idxs.length k2] := ⟨_, _, _, _, rfl, h1, h2, h3, h4⟩
end Go.Proofs.YtdjacjhojbkgjaaGreat.Ct
end

section
namespace Go.Proofs.YtdjacjhojbkgjaaGreat.Ct
open Go Go.K Go.Proofs Go.Proofs.YtdjacjhojbkgjaaGreat Go.Proofs.YtdjacjhojbkgjaaGreat.Rw
set_option linter.unusedVariables false
set_option linter.unusedSimpArgs false
set_option maxRecDepth 10000

def cmp2 (u v : Value) : Prop := u = v ∨ (∃ k a b, u = .int k a ∧ v = .int k b) ∨ ∃ a b, u = .string a ∧ v = .string b
theorem cmp2.trans {u v w : Value} (h1 : cmp2 u v) (h2 : cmp2 v w) : cmp2 u w := by
  rcases h1 with rfl | ⟨k, a, b, rfl, rfl⟩ | ⟨a, b, rfl, rfl⟩
  · exact h2
  · rcases h2 with rfl | ⟨k2, a2, b2, e, rfl⟩ | ⟨_, _, e, _⟩
    · exact .inr (.inl ⟨_, _, _, rfl, rfl⟩)
    · cases e; exact .inr (.inl ⟨_, _, _, rfl, rfl⟩)
    · cases e
  · rcases h2 with rfl | ⟨_, _, _, e, _⟩ | ⟨a2, b2, e, rfl⟩
    · exact .inr (.inr ⟨_, _, rfl, rfl⟩)
    · cases e
    · cases e; exact .inr (.inr ⟨_, _, rfl, rfl⟩)
theorem cmp2_slice {ao : Option Addr} {n c : Nat} {u : Value} (hc : cmp2 (.slice ao n c) u) : u = .slice ao n c := by
  rcases hc with rfl | ⟨_, _, _, e, _⟩ | ⟨_, _, e, _⟩
  · rfl
  · cases e
  · cases e
theorem cmp2_int {k : IntKind} {a : Int} {u : Value} (hc : cmp2 (.int k a) u) : ∃ c, u = .int k c := by
  rcases hc with rfl | ⟨_, _, _, e, rfl⟩ | ⟨_, _, e, _⟩
  · exact ⟨_, rfl⟩
  · cases e; exact ⟨_, rfl⟩
  · cases e
def Cmp2 (h' : Base) (L : List Nat) (g : Nat → List Value) : Prop := ∀ b ∈ L, ∀ arr T fz, h'.mem b = some (.cells arr T fz) → (g b).length = arr.size ∧ ∀ (i : Nat) u, arr[i]? = some u → ∃ u', (g b)[i]? = some u' ∧ cmp2 u u'
theorem Cmp2.of {h' : Base} {L : List Nat} {g : Nat → List Value} (hc : Cmp h' L g) : Cmp2 h' L g := fun b hb arr T fz hm => by
  obtain ⟨h1, h2⟩ := hc b hb arr T fz hm
  refine ⟨h1, fun i u hu => ?_⟩
  obtain ⟨u', h3, h4⟩ := h2 i u hu
  refine ⟨u', h3, ?_⟩
  rcases h4 with rfl | ⟨k, a, b, rfl, rfl⟩
  · exact .inl rfl
  · exact .inr (.inl ⟨_, _, _, rfl, rfl⟩)
theorem Cmp2.upd {h' : Base} {L : List Nat} {gg : Nat → List Value} {b o : Nat} {u0 u1 : Value} (hc : Cmp2 h' L gg) (hg : (gg b)[o]? = some u0) (h01 : cmp2 u0 u1) : Cmp2 h' L (K.upd gg b o u1) := fun x hx arr T fz hm => by
  obtain ⟨h1, h2⟩ := hc x hx arr T fz hm
  unfold K.upd
  by_cases e : x = b
  · subst e
    rw [if_pos rfl]
    refine ⟨by simpa using h1, fun i u hu => ?_⟩
    obtain ⟨u', hu1, hu2⟩ := h2 i u hu
    by_cases ei : i = o
    · subst ei
      rw [hg] at hu1
      cases hu1
      exact ⟨u1, by simp [(List.getElem?_eq_some_iff.1 hg).1], hu2.trans h01⟩
    · exact ⟨u', by rw [List.getElem?_set_ne (fun e => ei e.symm)]; exact hu1, hu2⟩
  · rw [if_neg e]
    exact ⟨h1, h2⟩
theorem row_lt2 {j n sz i : Nat} (hj : j < n) (hi : i < sz) : j * sz + i < n * sz := by
  have : (j + 1) * sz ≤ n * sz := Nat.mul_le_mul_right _ hj
  rw [Nat.add_mul, Nat.one_mul] at this
  omega
theorem spR2 {h h' : Base} {L : List Nat} {sz n c : Nat} {ao : Option Addr} {es : List (List Value)} (hw : ∃ w, Sat h' [] w) (hL : ∀ b arr T fz, h.mem b = none → h'.mem b = some (.cells arr T fz) → b ∈ L) (hv : SL h' sz (.slice ao n c) es) (hf : Fsh h h' sz (.slice ao n c)) {j : Nat} {e : List Value} (hj : es[j]? = some e) (hjn : j < n) :
    ∃ b arr T fz, ao = some ⟨b, 0, none⟩ ∧ b ∈ L ∧ h'.mem b = some (.cells arr T fz) ∧ (∀ i, i < sz → (decide (fz.1 ≤ j * sz + i) && decide (j * sz + i < fz.2)) = false) ∧ ∀ g, Cmp2 h' L g → ∀ (i : Nat) u, e[i]? = some u → ∃ u', (g b)[j * sz + i]? = some u' ∧ cmp2 u u' := by
  obtain ⟨b, arr, T, fz, e1, e2, e3, e4⟩ := hf _ _ _ rfl (by omega)
  refine ⟨b, arr, T, fz, e1, hL b arr T fz e2 e3, e3, fun i hi => e4 _ (row_lt2 hjn hi), fun g hg i u hu => ?_⟩
  rcases hv with ⟨_, _, _, rfl⟩ | ⟨b', o, c', hve, _, hall⟩
  · simp at hj
  · injection hve with e5 _ _
    rw [e1] at e5
    injection e5 with e5
    injection e5 with e6 e7 _
    subst e6 e7
    obtain ⟨hlt, rfl⟩ := List.getElem?_eq_some_iff.1 hj
    have hc := (hall j hlt).2.get i u hu
    have ha := cel_arr hw e3 hc
    rw [show 0 + j * sz + i = j * sz + i by omega] at ha
    exact (hg b (hL b arr T fz e2 e3) arr T fz e3).2 _ _ ha
end Go.Proofs.YtdjacjhojbkgjaaGreat.Ct
end
