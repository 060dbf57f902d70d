/-
  Whether a page is no new one: the code's. Conditions: each theorem's own.
-/
import Derived.Test.YtdjacjhojbkgjaaGreatQ13
namespace Go.Proofs.YtdjacjhojbkgjaaGreat.Ct
open Go Go.K Go.Proofs Go.Proofs.YtdjacjhojbkgjaaGreat Go.Proofs.YtdjacjhojbkgjaaGreat.Rw
set_option linter.unusedVariables false
set_option linter.unusedSimpArgs false
set_option maxRecDepth 10000

set_option maxHeartbeats 2000000 in
theorem Taken (h : Base) (cs : List Value) (s : PSch) (page : Nat) (hs : SchC h s cs) (hw : wfS s) :
    Tr Tryz.prog 26 [.agg cs.toArray, .int .u32 page] h [] (fun u h' H' => H' = [] ∧ u = .bool (decide (page ∈ pagesQ s ∨ page = 0))) := by
  have hs' := hs
  obtain ⟨vt, vi, ts, is, rfl, hvt, ht, hvi, hi⟩ := hs
  obtain ⟨ao, ca, rfl⟩ := hvt.len
  obtain ⟨ai, ci, rfl⟩ := hvi.len
  refine K.enterM Tryz.func26 rfl (Nat.le_of_ble_eq_true rfl) (fun F => ?_)
  simp only [List.nil_append, List.cons_append]
  (repeat' (first | refine X.rq ?_ | (refine X.rc ?_ ?_ <;> intro hc <;> first | (exfalso; omega) | skip)))
  refine K.l_box rfl rfl rfl (fun B2 => ?_)
  refine K.l_box rfl rfl rfl (fun B3 => ?_)
  refine K.l_alloc (Fx.zr rfl) rfl rfl (fun B4 => ?_)
  (repeat' (first | refine X.rq ?_ | (refine X.rc ?_ ?_ <;> intro hc <;> first | (exfalso; omega) | skip)))
  refine K.l_call (Fx.cal rfl) rfl (Pages h _) (K.pp [] rfl) rfl ?_
  rintro u h' H' - ⟨e, B1, rfl, rfl⟩
  obtain rfl := e.symm
  simp only [List.set_cons_zero, List.set_cons_succ, List.eraseIdx_cons_zero, List.eraseIdx_cons_succ, List.cons_append, List.nil_append]
  (repeat' (first | refine X.rq ?_ | (refine X.rc ?_ ?_ <;> intro hc <;> first | (exfalso; omega) | skip)))
  refine K.WC.perm (K.pp [1, 1] rfl) (K.WC.close [_, _] ?_)
  refine K.c_range (fun pre _ A => A = all [blk B4 4 [.bool false], blk B3 28 [.int .u32 page]] ∧ page ∉ pre) (fun c pre _ A => c = .ret ∧ A = all [blk B4 4 [.bool true], blk B3 28 [.int .u32 page]] ∧ page ∈ pre)
    (fun (x : Nat) _ => [(5, .int .u32 x), (3, .pointer (some ⟨B3, 0, none⟩)), (4, .pointer (some ⟨B4, 0, none⟩))]) (PagesI h _ s B1 hs' hw) rfl (Fx.cal rfl) (fun h x args e => by rw [e]; rfl) rfl rfl (fun _ _ _ _ _ x => x) (fun _ _ _ _ _ _ x => x) (K.pp2 1 0 rfl) ⟨rfl, List.not_mem_nil⟩ ?_ ?_ ?_ ?_
  · rintro l x h' args A R hle rfl
    refine K.r_region rfl (fun _ _ x => x) ?_
    refine K.s_pure (K.p_assign rfl) rfl (K.l_nil (K.a_AP (by repeat (first | exact K.Sub.nil _ | refine K.Sub.cons rfl ?_))))
  · rintro l pre x h' args A R hle hpre rfl ⟨rfl, hnp⟩
    refine K.WR.open ?_
    simp only [List.set_cons_zero, List.set_cons_succ, List.eraseIdx_cons_zero, List.eraseIdx_cons_succ, List.cons_append, List.nil_append]
    refine K.r_block (K.r_seq (K.r_region rfl (fun _ _ x => x) ?_))
    (repeat' (first | refine X.rq ?_ | (refine X.rc ?_ ?_ <;> intro hc <;> first | (exfalso; omega) | skip)))
    refine K.a_thenR ?_
    refine K.r_condD rfl (fun hx => ?_) (fun hx => ?_)
    · obtain rfl : x = page := by omega
      refine K.r_seq (K.r_region rfl (fun _ _ x => x) ?_)
      refine X.sto ?_
      simp only [List.set_cons_zero, List.set_cons_succ, List.eraseIdx_cons_zero, List.eraseIdx_cons_succ, List.cons_append, List.nil_append]
      (repeat' (first | refine X.rq ?_ | (refine X.rc ?_ ?_ <;> intro hc <;> first | (exfalso; omega) | skip)))
      refine K.a_thenR (K.r_ret (K.a_block_ret ?_))
      exact K.AT.closed (K.pp [0, 0] rfl) (K.a_RPx (K.Base.le.refl _) ⟨rfl, rfl, by simp⟩ (List.Perm.refl _))
    · refine K.r_skip ?_
      (repeat' (first | refine X.rq ?_ | (refine X.rc ?_ ?_ <;> intro hc <;> first | (exfalso; omega) | skip)))
      exact K.AT.closed (K.pp [0, 0] rfl) (K.a_RP (K.Base.le.refl _) ⟨rfl, by simp; exact ⟨hnp, fun e => hx (by omega)⟩⟩ (List.Perm.refl _))
  · rintro D h' A' hle ⟨rfl, hnp⟩
    refine K.AT.perm (K.pp [2] rfl) (K.AT.open ?_)
    simp only [List.set_cons_zero, List.set_cons_succ, List.eraseIdx_cons_zero, List.eraseIdx_cons_succ, List.cons_append, List.nil_append]
    (repeat' (first | refine X.rq ?_ | (refine X.rc ?_ ?_ <;> intro hc <;> first | (exfalso; omega) | skip)))
    refine X.sto ?_
    simp only [List.set_cons_zero, List.set_cons_succ, List.eraseIdx_cons_zero, List.eraseIdx_cons_succ, List.cons_append, List.nil_append]
    (repeat' (first | refine X.rq ?_ | (refine X.rc ?_ ?_ <;> intro hc <;> first | (exfalso; omega) | skip)))
    have hb : decide ((page : Int) = 0) = decide (page ∈ pagesQ s ∨ page = 0) := by
      rw [decide_eq_decide]
      constructor
      · intro e; exact .inr (by omega)
      · rintro (e | e)
        · exact absurd e hnp
        · omega
    rw [hb]
    refine K.doneM (vs := [_]) rfl (.inl rfl) (K.pp1 2 rfl) (.cell1 rfl (Fx.agg rfl) (K.cel_own 0 rfl rfl) .nil) hle (D := [_, _, _, _]) (H' := []) rfl ⟨rfl, rfl⟩
  · rintro D c pre h' A' hle hpre ⟨rfl, rfl, hnp⟩
    refine K.c_ret (K.AT.perm (K.pp [2] rfl) (K.AT.open ?_))
    simp only [List.set_cons_zero, List.set_cons_succ, List.eraseIdx_cons_zero, List.eraseIdx_cons_succ, List.cons_append, List.nil_append]
    (repeat' (first | refine X.rq ?_ | (refine X.rc ?_ ?_ <;> intro hc <;> first | (exfalso; omega) | skip)))
    have hb : true = decide (page ∈ pagesQ s ∨ page = 0) := by
      rw [eq_comm, decide_eq_true_eq]; exact .inl (hpre.subset hnp)
    refine K.doneM (vs := [_]) rfl (.inl rfl) (K.pp1 2 rfl) (.cell1 rfl (Fx.agg rfl) (K.cel_own 0 rfl rfl) .nil) hle (D := [_, _, _, _]) (H' := []) rfl ⟨rfl, ?_⟩
    rw [← hb]
    rfl
end Go.Proofs.YtdjacjhojbkgjaaGreat.Ct
