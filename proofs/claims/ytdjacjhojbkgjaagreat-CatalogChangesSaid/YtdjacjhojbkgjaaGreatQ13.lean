/-
  All heads and roots, one behind the other: the code's iterator. Conditions: each theorem's own.
-/
import Derived.Test.YtdjacjhojbkgjaaGreatQ4
import Derived.Test.YtdjacjhojbkgjaaGreatQ12
namespace Go.Proofs.YtdjacjhojbkgjaaGreat.Ct
open Go Go.K Go.Proofs Go.Proofs.YtdjacjhojbkgjaaGreat Go.Proofs.YtdjacjhojbkgjaaGreat.Rw
set_option linter.unusedVariables false
set_option linter.unusedSimpArgs false
set_option maxRecDepth 10000

def pagesQ (s : PSch) : List Nat := s.tabs.map (·.head) ++ s.idxs.map (·.root)
def EncP (h : Base) (p : Nat) (args : List Value) : Prop := args = [.int .u32 p]
theorem pre_snoc {α : Type} {l : List α} {x : α} {xs rest : List α} (h : xs = l ++ x :: rest) : l ++ [x] <+: xs := ⟨rest, by rw [h]; simp⟩
theorem take_at {α : Type} {l : List α} {j : Nat} {x : α} (hx : l[j]? = some x) : l.take (j + 1) = l.take j ++ [x] ∧ ∃ r, l = l.take j ++ x :: r := by
  obtain ⟨hj, he⟩ := List.getElem?_eq_some_iff.1 hx
  exact ⟨by rw [List.take_succ_eq_append_getElem hj, he], l.drop (j + 1), by rw [← he, ← List.drop_eq_getElem_cons hj, List.take_append_drop]⟩

structure PgS where
  j : Nat
  hb : Base
  A : Asrt
set_option maxHeartbeats 2000000 in
theorem PagesI (h0 : Base) (cs : List Value) (s : PSch) (B1 : Nat) (hs : SchC h0 s cs) (hw : wfS s) :
    IterK Tryz.prog 82 [.pointer (some ⟨B1, 0, none⟩)] EncP h0 [blk B1 25 cs] (pagesQ s) := by
  intro l J Jx hJ hJx hY F A w h hle hJ0 ok
  obtain ⟨vt, vi, ts, is, rfl, hvt, ht, hvi, hi⟩ := hs.le hle
  obtain ⟨ao, ca, rfl⟩ := hvt.len
  rw [ht.len] at hvt ok ⊢
  obtain ⟨ai, ci, rfl⟩ := hvi.len
  rw [hi.len] at hvi ok ⊢
  have hlt := hw.lt
  have hli := hw.li
  refine K.iter_enter (l := l) (lb := [.pointer (some ⟨B1, 0, none⟩)]) (X := fun w' => ∃ h' A', h.le h' ∧ Ok h' ([blk B1 25 [.slice ao s.tabs.length ca, .slice ai s.idxs.length ci]] ++ A' :: F) w' ∧ (J (pagesQ s) h' A' ∨ ∃ pre, pre <+: pagesQ s ∧ Jx pre h' A')) Tryz.func82 rfl (Nat.le_of_ble_eq_true rfl) ?_ ok
  simp only [List.nil_append, List.cons_append]
  (repeat' (first | refine X.rq ?_ | (refine X.rc ?_ ?_ <;> intro hc <;> first | (exfalso; omega) | skip)))
  refine K.c_loop (σ := PgS) (fun s1 => [(0, .func (.yield l) #[] #[]), (1, .pointer (some ⟨B1, 0, none⟩)), (8, .slice ao s.tabs.length ca), (9, .int .i64 s.tabs.length), (10, .int .i64 s1.j)]) (fun s1 => s1.hb) (fun s1 => blk B1 25 [.slice ao s.tabs.length ca, .slice ai s.idxs.length ci] :: s1.A :: F)
    (fun s1 => s1.j ≤ s.tabs.length ∧ h.le s1.hb ∧ J ((pagesQ s).take s1.j) s1.hb s1.A) (fun s1 => s.tabs.length - s1.j) ⟨0, h, A⟩ ⟨Nat.zero_le _, Base.le.refl _, hJ0⟩ (by repeat (first | exact K.Sub.nil _ | refine K.Sub.cons rfl ?_)) rfl rfl ?_
  rintro ⟨j, hb, A1⟩ ⟨hj, hle1, hjA⟩ KL hKL
  simp only at hj hle1 hjA ⊢
  by_cases hjl : j < s.tabs.length
  · have hx1 : s.tabs[j]? = some s.tabs[j] := List.getElem?_eq_getElem hjl
    generalize s.tabs[j] = t at hx1
    have hp1 : (pagesQ s)[j]? = some t.head := by
      rw [pagesQ, List.getElem?_append_left (by simpa using hjl), List.getElem?_map, hx1]
      rfl
    obtain ⟨htk, rest, hrest⟩ := take_at hp1
    obtain ⟨c, hc0, htc⟩ := ht.get hx1
    obtain ⟨v1, rfl, hcv⟩ := htc
    obtain ⟨av, cv, rfl⟩ := hcv.len
    obtain ⟨bb, oo, rfl, hcx⟩ := (hvt.le hle1).at hc0
    (repeat' (first | refine X.rq ?_ | (refine X.rc ?_ ?_ <;> intro hc <;> first | (exfalso; omega) | skip)))
    refine K.s_pure (K.p_loadM (Fx.agg rfl) rfl (Cels.up hcx) (Fx.sz rfl) rfl) rfl ?_
    refine K.l_alloc (Fx.zr rfl) rfl rfl (fun B4 => ?_)
    refine X.stw ?_
    refine K.l_nil (K.a_then (K.c_seq (K.c_regionY 3 rfl (fun _ _ ⟨_, e, _⟩ => by cases e) ?_)))
    simp only [List.set_cons_zero, List.set_cons_succ, List.eraseIdx_cons_zero, List.eraseIdx_cons_succ, List.cons_append, List.nil_append]
    simp only [List.take_succ_cons, List.take_zero, List.drop_succ_cons, List.drop_zero]
    (repeat' (first | refine X.rq ?_ | (refine X.rc ?_ ?_ <;> intro hc <;> first | (exfalso; omega) | skip)))
    refine K.y_call hY rfl rfl (pre_snoc hrest) rfl hjA (K.pp1 2 rfl) rfl rfl (fun _ _ ⟨_, e, _⟩ => by cases e) (fun b h2 A2 hle2 hb1 hb2 => ?_)
    rw [← htk] at hb1 hb2
    simp only [List.set_cons_zero, List.set_cons_succ, List.eraseIdx_cons_zero, List.eraseIdx_cons_succ, List.cons_append, List.nil_append]
    cases b with
    | true =>
      (repeat' (first | refine X.rq ?_ | (refine X.rc ?_ ?_ <;> intro hc <;> first | (exfalso; omega) | skip)))
      refine K.AT.sel [1] rfl (K.AT.perm (K.pp [1] rfl) ?_)
      refine K.a_round hKL ⟨j + 1, h2, A2⟩ ⟨by simp only; omega, hle1.trans hle2, hb1 rfl⟩ (by repeat (first | exact K.Sub.nil _ | refine K.Sub.cons rfl ?_)) rfl rfl (by simp only; omega)
    | false =>
      (repeat' (first | refine X.rq ?_ | (refine X.rc ?_ ?_ <;> intro hc <;> first | (exfalso; omega) | skip)))
      refine K.AT.sel [1] rfl (K.AT.perm (K.pp [1] rfl) ?_)
      exact K.ret_post (.inl rfl) (vs := []) rfl fun w ok => ⟨h2, A2, hle1.trans hle2, ok, .inr ⟨_, by rw [htk]; exact pre_snoc hrest, hb2 rfl⟩⟩
  · obtain rfl : j = s.tabs.length := by omega
    (repeat' (first | refine X.rq ?_ | (refine X.rc ?_ ?_ <;> intro hc <;> first | (exfalso; omega) | skip)))
    refine K.c_loop (σ := PgS) (fun s1 => [(0, .func (.yield l) #[] #[]), (1, .pointer (some ⟨B1, 0, none⟩)), (21, .slice ai s.idxs.length ci), (22, .int .i64 s.idxs.length), (23, .int .i64 s1.j)]) (fun s1 => s1.hb) (fun s1 => blk B1 25 [.slice ao s.tabs.length ca, .slice ai s.idxs.length ci] :: s1.A :: F)
      (fun s1 => s1.j ≤ s.idxs.length ∧ h.le s1.hb ∧ J ((pagesQ s).take (s.tabs.length + s1.j)) s1.hb s1.A) (fun s1 => s.idxs.length - s1.j) ⟨0, hb, A1⟩ ⟨Nat.zero_le _, hle1, hjA⟩ (by repeat (first | exact K.Sub.nil _ | refine K.Sub.cons rfl ?_)) rfl rfl ?_
    clear hjA hle1 KL hKL hjl hj
    rintro ⟨j, hb, A1⟩ ⟨hj, hle1, hjA⟩ KL hKL
    simp only at hj hle1 hjA ⊢
    by_cases hjl : j < s.idxs.length
    · have hx1 : s.idxs[j]? = some s.idxs[j] := List.getElem?_eq_getElem hjl
      generalize s.idxs[j] = t at hx1
      have hp1 : (pagesQ s)[s.tabs.length + j]? = some t.root := by
        rw [pagesQ, List.getElem?_append_right (by simp), List.length_map, Nat.add_sub_cancel_left, List.getElem?_map, hx1]
        rfl
      obtain ⟨htk, rest, hrest⟩ := take_at hp1
      obtain ⟨c, hc0, htc⟩ := hi.get hx1
      obtain ⟨v1, rfl, hcv⟩ := htc
      obtain ⟨av, cv, rfl⟩ := hcv.len
      obtain ⟨bb, oo, rfl, hcx⟩ := (hvi.le hle1).at hc0
      (repeat' (first | refine X.rq ?_ | (refine X.rc ?_ ?_ <;> intro hc <;> first | (exfalso; omega) | skip)))
      refine K.s_pure (K.p_loadM (Fx.agg rfl) rfl (Cels.up hcx) (Fx.sz rfl) rfl) rfl ?_
      refine K.l_alloc (Fx.zr rfl) rfl rfl (fun B4 => ?_)
      refine X.stw ?_
      refine K.l_nil (K.a_then (K.c_seq (K.c_regionY 3 rfl (fun _ _ ⟨_, e, _⟩ => by cases e) ?_)))
      simp only [List.set_cons_zero, List.set_cons_succ, List.eraseIdx_cons_zero, List.eraseIdx_cons_succ, List.cons_append, List.nil_append]
      simp only [List.take_succ_cons, List.take_zero, List.drop_succ_cons, List.drop_zero]
      (repeat' (first | refine X.rq ?_ | (refine X.rc ?_ ?_ <;> intro hc <;> first | (exfalso; omega) | skip)))
      refine K.y_call hY rfl rfl (pre_snoc hrest) rfl hjA (K.pp1 2 rfl) rfl rfl (fun _ _ ⟨_, e, _⟩ => by cases e) (fun b h2 A2 hle2 hb1 hb2 => ?_)
      rw [← htk] at hb1 hb2
      simp only [List.set_cons_zero, List.set_cons_succ, List.eraseIdx_cons_zero, List.eraseIdx_cons_succ, List.cons_append, List.nil_append]
      cases b with
      | true =>
        (repeat' (first | refine X.rq ?_ | (refine X.rc ?_ ?_ <;> intro hc <;> first | (exfalso; omega) | skip)))
        refine K.AT.sel [1] rfl (K.AT.perm (K.pp [1] rfl) ?_)
        refine K.a_round hKL ⟨j + 1, h2, A2⟩ ⟨by simp only; omega, hle1.trans hle2, hb1 rfl⟩ (by repeat (first | exact K.Sub.nil _ | refine K.Sub.cons rfl ?_)) rfl rfl (by simp only; omega)
      | false =>
        (repeat' (first | refine X.rq ?_ | (refine X.rc ?_ ?_ <;> intro hc <;> first | (exfalso; omega) | skip)))
        refine K.AT.sel [1] rfl (K.AT.perm (K.pp [1] rfl) ?_)
        exact K.ret_post (.inl rfl) (vs := []) rfl fun w ok => ⟨h2, A2, hle1.trans hle2, ok, .inr ⟨_, by rw [htk]; exact pre_snoc hrest, hb2 rfl⟩⟩
    · obtain rfl : j = s.idxs.length := by omega
      have hfull : (pagesQ s).take (s.tabs.length + s.idxs.length) = pagesQ s := List.take_of_length_le (by simp [pagesQ])
      rw [hfull] at hjA
      (repeat' (first | refine X.rq ?_ | (refine X.rc ?_ ?_ <;> intro hc <;> first | (exfalso; omega) | skip)))
      exact K.ret_post (.inr rfl) (vs := []) rfl fun w ok => ⟨hb, A1, hle1, ok, .inl hjA⟩
theorem Pages (h : Base) (cs : List Value) : Tr Tryz.prog 59 [.agg cs.toArray] h [] (fun u h' H' => h' = h ∧ ∃ B1, u = .func (.func 82) #[] #[.pointer (some ⟨B1, 0, none⟩)] ∧ H' = [blk B1 25 cs]) := by
  refine K.enter Tryz.func59 rfl (Nat.le_of_ble_eq_true rfl) (fun F => ?_)
  simp only [List.nil_append, List.cons_append]
  (repeat' (first | refine X.rq ?_ | (refine X.rc ?_ ?_ <;> intro hc <;> first | (exfalso; omega) | skip)))
  refine K.l_box rfl rfl rfl (fun B1 => ?_)
  (repeat' (first | refine X.rq ?_ | (refine X.rc ?_ ?_ <;> intro hc <;> first | (exfalso; omega) | skip)))
  refine K.s_pure (K.p_makeFunc rfl) rfl ?_
  (repeat' (first | refine X.rq ?_ | (refine X.rc ?_ ?_ <;> intro hc <;> first | (exfalso; omega) | skip)))
  refine K.done (by first | exact Or.inl rfl | exact Or.inr rfl) rfl (by first | exact K.Base.le.refl _ | assumption) (H' := [_]) rfl ⟨rfl, _, rfl, rfl⟩
end Go.Proofs.YtdjacjhojbkgjaaGreat.Ct
