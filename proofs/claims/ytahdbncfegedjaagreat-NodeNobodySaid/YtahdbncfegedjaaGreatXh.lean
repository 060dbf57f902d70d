/-
  Trees of pages: the first entry told, both. Conditions: each theorem's own.
-/
import Derived.Test.YtahdbncfegedjaaGreatXg

namespace Go.Proofs.YtahdbncfegedjaaGreat.Nd
open Go Go.K Go.Proofs Go.Proofs.YtahdbncfegedjaaGreat Go.Proofs.YtahdbncfegedjaaGreat.Pg
set_option linter.unusedVariables false
set_option linter.unusedSimpArgs false
set_option maxRecDepth 10000

def SeekR (r : Except Int (Nat × Int)) (v : Value) : Prop := ∃ (n : Nat) (i e : Int), v = .tuple #[uV n, .int .i64 i, .int .i64 e] ∧ n < 4294967296 ∧ ((e = 0 ∧ r = .ok (n, i)) ∨ (r = .error e ∧ n = 0 ∧ i = 0))
set_option maxHeartbeats 1000000 in
theorem Seek (h : Base) (gv : Value) (G : Option GetQ) (root : Nat) (s : List UInt8) (hg : GetV h gv G) (hroot : root < 4294967296) :
    Tr Tryz.prog 28 [gv, uV root, txt s] h [] (fun v h' H' => H' = [] ∧ SeekR (seekQ G root s) v) := by
  refine K.enter Tryz.func28 rfl (Nat.le_of_ble_eq_true rfl) (fun F => ?_)
  have h1 := hg.one
  (repeat' (first | refine X.rq ?_ | (refine X.rc ?_ ?_ <;> intro hc <;> first | (exfalso; omega) | skip)))
  refine K.l_box rfl h1 rfl (fun B0 => ?_)
  refine K.l_box rfl rfl rfl (fun B1 => ?_)
  refine K.l_box rfl rfl rfl (fun B2 => ?_)
  simp only [List.set_cons_zero, List.set_cons_succ, List.eraseIdx_cons_zero, List.eraseIdx_cons_succ, List.cons_append, List.nil_append]
  (repeat' (first | refine X.rq ?_ | (refine X.rc ?_ ?_ <;> intro hc <;> first | (exfalso; omega) | skip)))
  · have h0 : root = 0 := by omega
    exact K.doneC (vs := [uV 0, .int .i64 0, .int .i64 1]) (by first | exact Or.inl rfl | exact Or.inr rfl) (.tmp rfl (.tmp rfl (.tmp rfl .nil))) (K.Base.le.refl _) (D := [_, _, _]) (H' := []) rfl ⟨rfl, 0, 0, 1, rfl, by decide, .inr ⟨by rw [seekQ, if_pos h0], rfl, rfl⟩⟩
  have h0 : ¬ root = 0 := by omega
  have hq : seekQ G root s = seekW G root s := by rw [seekQ, if_neg h0]
  refine K.s_pure (K.p_makeFunc rfl) rfl ?_
  have ht := TryP h 68 _ _ _ _ (Fx.cal rfl) (fun r u h' H' hr => ⟨_, _, hr.2.2⟩) (SeekC h gv G root s B0 B1 B2 hg hroot)
  refine K.l_call (F := F) (Fx.cal rfl) rfl ht (K.pp [2, 1, 0] rfl) rfl ?_
  rintro v h' H' hle (⟨⟨n, i⟩, u, hr, rfl, rfl, hn, rfl⟩ | ⟨e, hr, rfl, rfl⟩)
  · simp only [List.set_cons_zero, List.set_cons_succ, List.eraseIdx_cons_zero, List.eraseIdx_cons_succ, List.cons_append, List.nil_append]
    (repeat' (first | refine X.rq ?_ | (refine X.rc ?_ ?_ <;> intro hc <;> first | (exfalso; omega) | skip)))
    refine K.l_alloc (Fx.zr rfl) rfl rfl (fun B9 => ?_)
    refine X.stw ?_
    simp only [List.set_cons_zero, List.set_cons_succ, List.eraseIdx_cons_zero, List.eraseIdx_cons_succ, List.cons_append, List.nil_append]
    (repeat' (first | refine X.rq ?_ | (refine X.rc ?_ ?_ <;> intro hc <;> first | (exfalso; omega) | skip)))
    refine X.draw ([blk B9 113 (plV n i)]) [] (.pu 0 (.pu 2 (.pu 4 (.st 1 (.pu 5 (.st 3 (.pu 6 (.pu 7 .nil)))))))) ?_
    refine K.d_pu rfl (fun _ _ => X.fa) rfl ?_
    refine K.d_pu rfl (fun _ _ => X.fa) rfl ?_
    refine K.d_pu rfl (fun _ _ => X.mv) rfl ?_
    refine K.d_st rfl X.ld rfl ?_
    refine K.d_pu rfl (fun _ _ => X.sg) rfl ?_
    refine K.d_st rfl X.ld rfl ?_
    refine K.d_pu rfl (fun _ _ => X.sg) rfl ?_
    refine K.d_pu rfl (fun _ _ => X.sg) rfl ?_
    refine K.d_nil ?_
    (repeat' (first | refine X.rq ?_ | (refine X.rc ?_ ?_ <;> intro hc <;> first | (exfalso; omega) | skip)))
    exact K.doneC (vs := [uV n, .int .i64 i, .int .i64 0]) (by first | exact Or.inl rfl | exact Or.inr rfl) (.tmp rfl (.tmp rfl (.tmp rfl .nil))) hle (D := [_]) (H' := []) rfl ⟨rfl, n, i, 0, rfl, hn, .inl ⟨rfl, by rw [hq, hr]⟩⟩
  · simp only [List.set_cons_zero, List.set_cons_succ, List.eraseIdx_cons_zero, List.eraseIdx_cons_succ, List.cons_append, List.nil_append]
    (repeat' (first | refine X.rq ?_ | (refine X.rc ?_ ?_ <;> intro hc <;> first | (exfalso; omega) | skip)))
    refine K.l_alloc (Fx.zr rfl) rfl rfl (fun B9 => ?_)
    refine X.stw ?_
    simp only [List.set_cons_zero, List.set_cons_succ, List.eraseIdx_cons_zero, List.eraseIdx_cons_succ, List.cons_append, List.nil_append]
    (repeat' (first | refine X.rq ?_ | (refine X.rc ?_ ?_ <;> intro hc <;> first | (exfalso; omega) | skip)))
    refine X.draw ([blk B9 113 (plV 0 0)]) [] (.pu 0 (.pu 2 (.pu 4 (.st 1 (.pu 5 (.st 3 (.pu 6 (.pu 7 .nil)))))))) ?_
    refine K.d_pu rfl (fun _ _ => X.fa) rfl ?_
    refine K.d_pu rfl (fun _ _ => X.fa) rfl ?_
    refine K.d_pu rfl (fun _ _ => X.mv) rfl ?_
    refine K.d_st rfl X.ld rfl ?_
    refine K.d_pu rfl (fun _ _ => X.sg) rfl ?_
    refine K.d_st rfl X.ld rfl ?_
    refine K.d_pu rfl (fun _ _ => X.sg) rfl ?_
    refine K.d_pu rfl (fun _ _ => X.sg) rfl ?_
    refine K.d_nil ?_
    (repeat' (first | refine X.rq ?_ | (refine X.rc ?_ ?_ <;> intro hc <;> first | (exfalso; omega) | skip)))
    exact K.doneC (vs := [uV 0, .int .i64 0, .int .i64 e]) (by first | exact Or.inl rfl | exact Or.inr rfl) (.tmp rfl (.tmp rfl (.tmp rfl .nil))) hle (D := [_]) (H' := []) rfl ⟨rfl, 0, 0, e, rfl, by decide, .inr ⟨by rw [hq, hr], rfl, rfl⟩⟩
/-- An error is never nought. -/
def okG (G : Option GetQ) : Prop := ∀ g, G = some g → ∀ n e, g n = .error e → e ≠ 0
theorem okG_tree (t : PTree) : okG (some (treeG t)) := fun g hg n e he => by
  cases hg
  unfold treeG at he
  split at he
  · cases he; rename_i h; exact h.1
  · split at he
    · cases he
    · cases he; decide
theorem okG_none : okG none := fun g hg => by cases hg
theorem page_ne {G : Option GetQ} (hG : okG G) {n : Nat} {e : Int} (h : pageQ G n = .error e) : e ≠ 0 := by
  unfold pageQ at h
  split at h
  · cases h; decide
  · split at h
    · cases h; decide
    · rename_i g
      split at h
      · rename_i e' he'
        cases h
        exact hG g rfl n e he'
      · split at h
        · cases h
        · cases h; decide
theorem way_ne0 {G : Option GetQ} (hG : okG G) {s : List UInt8} : ∀ {k n : Nat} {e : Int}, wayQ G s k n = .error e → e ≠ 0
  | 0, n, e, h => by
    unfold wayQ at h
    split at h
    · rename_i e' he'; cases h; exact page_ne hG he'
    · split at h
      · cases h
      · cases h; decide
  | k + 1, n, e, h => by
    unfold wayQ at h
    split at h
    · rename_i e' he'; cases h; exact page_ne hG he'
    · split at h
      · cases h
      · dsimp only at h
        split at h
        · rename_i e' he'; cases h; exact way_ne0 hG he'
        · cases h
theorem seek_ne0 {G : Option GetQ} (hG : okG G) {s : List UInt8} : ∀ {k n : Nat} {e : Int}, seekL G s k n = .error e → e ≠ 0
  | k, n, e, h => by
    by_cases hn : n = 0
    · subst hn; rw [seek_nil] at h; cases h; decide
    · cases hp : pageQ G n with
      | error e' => rw [seek_err hn hp] at h; cases h; exact page_ne hG hp
      | ok p =>
        by_cases h2 : p.kind = 2 ∧ 0 < k
        · match k, h2, h with
          | k + 1, h2, h =>
            rw [seek_page hn hp h2.1] at h
            split at h
            · cases h
            · exact seek_ne0 hG h
        · rw [seek_kind hn hp h2] at h; cases h; decide
theorem last_at {l : List Nat} (hne : l ≠ []) : (l.map fun n => [uV n])[((l.length : Int) - 1).toNat]? = some [uV (l.getLastD 0)] := by
  have hl0 : 0 < l.length := List.length_pos_iff.2 hne
  rw [List.getElem?_map, show ((l.length : Int) - 1).toNat = l.length - 1 by omega, ← List.getLast?_eq_getElem?, List.getLastD_eq_getLast?]
  cases hx : l.getLast? with
  | none => rw [List.getLast?_eq_none_iff] at hx; exact absurd hx hne
  | some x => rfl
theorem last_lt {l : List Nat} (h : ∀ x ∈ l, x < 4294967296) : l.getLastD 0 < 4294967296 := by
  rw [List.getLastD_eq_getLast?]
  cases hx : l.getLast? with
  | none => decide
  | some x => exact h x (List.mem_of_getLast? hx)
end Go.Proofs.YtahdbncfegedjaaGreat.Nd
