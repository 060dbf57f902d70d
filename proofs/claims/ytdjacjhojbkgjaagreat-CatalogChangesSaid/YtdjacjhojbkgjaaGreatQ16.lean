/-
  Whether a schema may be: the code's. Conditions: each theorem's own.
-/
import Derived.Test.YtdjacjhojbkgjaaGreatQ15
namespace Go.Proofs.YtdjacjhojbkgjaaGreat.Ct
open Go Go.K Go.Proofs Go.Proofs.YtdjacjhojbkgjaaGreat Go.Proofs.YtdjacjhojbkgjaaGreat.Rw
set_option linter.unusedVariables false
set_option linter.unusedSimpArgs false
set_option maxRecDepth 10000

/-! ### What is asked -/
def allB {α : Type} (f : Nat → α → Bool) (l : List α) : Bool := (List.range l.length).all fun j => match l[j]? with
  | some x => f j x
  | none => true
theorem allB_no {α : Type} {f : Nat → α → Bool} {l : List α} {j : Nat} {x : α} (hx : l[j]? = some x) (hf : f j x = false) : allB f l = false := by
  refine List.all_eq_false.2 ⟨j, List.mem_range.2 (List.getElem?_eq_some_iff.1 hx).1, ?_⟩
  rw [hx]
  simpa using hf
theorem allB_iff {α : Type} {f : Nat → α → Bool} {l : List α} : allB f l = true ↔ ∀ j x, l[j]? = some x → f j x = true := by
  constructor
  · intro h j x hx
    cases hf : f j x with
    | true => rfl
    | false => rw [allB_no hx hf] at h; cases h
  · intro h
    refine List.all_eq_true.2 fun j hj => ?_
    cases hx : l[j]? with
    | none => rfl
    | some x => exact h j x hx
def tabB (l : List PTab) (j : Nat) (t : PTab) : Bool := decide (t.id ≠ 0) && (nameB t.name.data.toList && (mayB t.cols && decide (∀ u ∈ l.take j, u.id < t.id ∧ u.name ≠ t.name)))
def plcB (s : PSch) (x : PIdx) : Bool := match s.tabs.find? (fun t => decide (t.id = x.table)) with
  | some t => placesB t.cols.length x.cols
  | none => false
def idxB (s : PSch) (j : Nat) (x : PIdx) : Bool := decide (x.id ≠ 0) && (nameB x.name.data.toList && (plcB s x && decide (∀ u ∈ s.idxs.take j, u.id < x.id ∧ u.name ≠ x.name)))
def mayS (s : PSch) : Bool := decide (s.tabs.length ≤ 32) && (decide (s.idxs.length ≤ 64) && (decide (pagesQ s).Nodup && (decide (0 ∉ pagesQ s) && (allB (tabB s.tabs) s.tabs && allB (idxB s) s.idxs))))
structure Last {α : Type} (f : α → Nat) (l : List α) (j last : Nat) : Prop where
  le : ∀ u ∈ l.take j, f u ≤ last
  z : j = 0 → last = 0
  ex : 0 < j → ∃ u ∈ l.take j, f u = last
theorem Last.nil {α : Type} (f : α → Nat) (l : List α) : Last f l 0 0 := ⟨fun u hu => by simp at hu, fun _ => rfl, fun h => by omega⟩
theorem Last.step {α : Type} {f : α → Nat} {l : List α} {j last : Nat} {x : α} (h : Last f l j last) (hx : l[j]? = some x) (hl : last < f x) : Last f l (j + 1) (f x) := by
  obtain ⟨e, _⟩ := take_at hx
  refine ⟨fun u hu => ?_, fun h => by omega, fun _ => ⟨x, by rw [e]; simp, rfl⟩⟩
  rw [e] at hu
  rcases List.mem_append.1 hu with hu | hu
  · have := h.le u hu; omega
  · rw [List.mem_singleton.1 hu]; exact Nat.le_refl _
theorem Last.up {α : Type} {f : α → Nat} {l : List α} {j last : Nat} {x : α} (h : Last f l j last) : last < f x ↔ f x ≠ 0 ∧ ∀ u ∈ l.take j, f u < f x := by
  constructor
  · intro hl; exact ⟨by omega, fun u hu => by have := h.le u hu; omega⟩
  · rintro ⟨h0, h1⟩
    rcases Nat.eq_zero_or_pos j with e | e
    · rw [h.z e]; omega
    · obtain ⟨u, hu, hv⟩ := h.ex e
      have := h1 u hu; omega
theorem tabB_eq {l : List PTab} {j last : Nat} {t : PTab} (h : Last (·.id) l j last) : tabB l j t = (decide (last < t.id) && (nameB t.name.data.toList && (mayB t.cols && !((l.take j).any fun u => decide (u.name = t.name))))) := by
  rw [Bool.eq_iff_iff]
  simp only [tabB, Bool.and_eq_true, decide_eq_true_eq, Bool.not_eq_true', List.any_eq_false, decide_eq_true_eq, h.up (x := t)]
  constructor
  · rintro ⟨h0, h1, h2, h3⟩; exact ⟨⟨h0, fun u hu => (h3 u hu).1⟩, h1, h2, fun u hu => (h3 u hu).2⟩
  · rintro ⟨⟨h0, h3⟩, h1, h2, h4⟩; exact ⟨h0, h1, h2, fun u hu => ⟨h3 u hu, h4 u hu⟩⟩
theorem idxB_eq {s : PSch} {j last : Nat} {x : PIdx} (h : Last (·.id) s.idxs j last) : idxB s j x = (decide (last < x.id) && (nameB x.name.data.toList && (plcB s x && !((s.idxs.take j).any fun u => decide (u.name = x.name))))) := by
  rw [Bool.eq_iff_iff]
  simp only [idxB, Bool.and_eq_true, decide_eq_true_eq, Bool.not_eq_true', List.any_eq_false, decide_eq_true_eq, h.up (x := x)]
  constructor
  · rintro ⟨h0, h1, h2, h3⟩; exact ⟨⟨h0, fun u hu => (h3 u hu).1⟩, h1, h2, fun u hu => (h3 u hu).2⟩
  · rintro ⟨⟨h0, h3⟩, h1, h2, h4⟩; exact ⟨h0, h1, h2, fun u hu => ⟨h3 u hu, h4 u hu⟩⟩
def SeenM (m : List ME) (S : List Nat) : Prop := ∀ v : Nat, Go.K.look m v = if v ∈ S then some (.int .i64 1) else none
theorem SeenM.put {m : List ME} {S : List Nat} (hs : SeenM m S) (c v : Nat) : SeenM (putM m c v (.int .i64 1)) (S ++ [v]) := fun q => by
  rw [Go.K.look_put]
  by_cases h : q = v
  · subst h
    simp
  · rw [if_neg (by omega), hs q]
    by_cases h1 : q ∈ S
    · rw [if_pos h1, if_pos (by simp [h1])]
    · rw [if_neg h1, if_neg (by simp [h1, h])]
theorem pages_bad {s : PSch} {pre : List Nat} (hpre : pre <+: pagesQ s) (hb : ¬ (pre.Nodup ∧ 0 ∉ pre)) : mayS s = false := by
  simp only [mayS, Bool.and_eq_false_iff, decide_eq_false_iff_not]
  by_cases h1 : (pagesQ s).Nodup
  · exact .inr (.inr (.inr (.inl fun h0 => hb ⟨h1.sublist hpre.sublist, fun h => h0 (hpre.subset h)⟩)))
  · exact .inr (.inr (.inl h1))

theorem Each.mono {α : Type} {R R' : α → List Value → Prop} {es : List (List Value)} {xs : List α} (hm : ∀ x c, R x c → R' x c) (h : Each R es xs) : Each R' es xs := ⟨h.len, fun i c x hc hx => hm x c (h.at_ i c x hc hx)⟩
theorem Each.take {α : Type} {R : α → List Value → Prop} {es : List (List Value)} {xs : List α} (h : Each R es xs) (j : Nat) : Each R (es.take j) (xs.take j) :=
  ⟨by rw [List.length_take, List.length_take, h.len], fun i c x hc hx => by
    rw [List.getElem?_take] at hc hx
    split at hc
    · rename_i hij; rw [if_pos hij] at hx; exact h.at_ i c x hc hx
    · cases hc⟩
structure MyX where
  j : Nat
  last : Nat
  hb : Base
structure MyT where
  j : Nat
  last : Nat
abbrev mayH (D BP BR BM M BS : Nat) (cs : List Value) (m : List ME) (c : Nat) (r : Bool) (F : List Asrt) : List Asrt :=
  objA D (.deferred (some [])) :: blk BP 25 cs :: blk BM 89 [.map (some M)] :: mapA M .u32 m c :: blk BR 4 [.bool r] :: blk BS 25 cs :: F
set_option maxHeartbeats 4000000 in
theorem MayS (h : Base) (cs : List Value) (s : PSch) (hs : SchC h s cs) (hw : wfS s) :
    Tr Tryz.prog 23 [.agg cs.toArray] h [] (fun u h' H' => H' = [] ∧ u = .bool (mayS s)) := by
  have hs' := hs
  obtain ⟨vt, vi, ts, is, rfl, hvt, ht, hvi, hi⟩ := hs
  obtain ⟨ao, ca, rfl⟩ := hvt.len
  rw [ht.len] at hvt hs' ⊢
  obtain ⟨ai, ci, rfl⟩ := hvi.len
  rw [hi.len] at hvi hs' ⊢
  have hlt := hw.lt
  have hli := hw.li
  refine K.enterM Tryz.func23 rfl (Nat.le_of_ble_eq_true rfl) (fun F => ?_)
  simp only [List.nil_append, List.cons_append]
  (repeat' (first | refine X.rq ?_ | (refine X.rc ?_ ?_ <;> intro hc <;> first | (exfalso; omega) | skip)))
  refine K.l_box rfl rfl rfl (fun BS => ?_)
  refine K.l_alloc (Fx.zr rfl) rfl rfl (fun BR => ?_)
  by_cases hlen : s.tabs.length ≤ 32 ∧ s.idxs.length ≤ 64
  · (repeat' (first | refine X.rq ?_ | (refine X.rc ?_ ?_ <;> intro hc <;> first | (exfalso; omega) | skip)))
    all_goals first | (exfalso; omega) | skip
    refine K.l_makeMap (kk := .u32) rfl (fun M => ?_)
    refine K.l_alloc (Fx.zr rfl) rfl rfl (fun BM => ?_)
    (repeat' (first | refine X.rq ?_ | (refine X.rc ?_ ?_ <;> intro hc <;> first | (exfalso; omega) | skip)))
    refine X.sto ?_
    simp only [List.set_cons_zero, List.set_cons_succ, List.eraseIdx_cons_zero, List.eraseIdx_cons_succ, List.cons_append, List.nil_append]
    (repeat' (first | refine X.rq ?_ | (refine X.rc ?_ ?_ <;> intro hc <;> first | (exfalso; omega) | skip)))
    refine K.l_call (Fx.cal rfl) rfl (Pages h _) (K.pp [] rfl) rfl ?_
    rintro u h' H' - ⟨e, BP, rfl, rfl⟩
    obtain rfl := e.symm
    simp only [List.set_cons_zero, List.set_cons_succ, List.eraseIdx_cons_zero, List.eraseIdx_cons_succ, List.cons_append, List.nil_append]
    (repeat' (first | refine X.rq ?_ | (refine X.rc ?_ ?_ <;> intro hc <;> first | (exfalso; omega) | skip)))
    have bad : ∀ (D : Nat) (m : List ME) (c : Nat) (h1 : Base) (E : Env), mayS s = false → K.lk E 2 = some (.pointer (some ⟨BR, 0, none⟩)) → h.le h1 →
        AT Tryz.prog ⟨Tryz.f23.ntmps, [K.mark D]⟩ (K.postM Tryz.prog Tryz.f23 fun v w' => ∃ h' H', h.le h' ∧ (H' = [] ∧ v = Value.bool (mayS s)) ∧ Ok h' (H' ++ F) w') .ret E h1 (mayH D BP BR BM M BS [.slice ao s.tabs.length ca, .slice ai s.idxs.length ci] m c false F) := fun D m c h1 E hno hE hle => by
      rw [hno]
      exact K.doneM (vs := [_]) rfl (.inl rfl) (K.pp1 0 rfl) (.cell1 hE (Fx.agg rfl) (K.cel_own 3 rfl rfl) .nil) hle (D := [_, _, _, _, _]) (H' := []) rfl ⟨rfl, rfl⟩
    refine K.WC.perm (K.pp [1, 1, 1] rfl) (K.WC.close [_, _, _] ?_)
    refine K.c_range (fun pre _ A => ∃ m c, A = all [blk BM 89 [.map (some M)], mapA M .u32 m c, blk BR 4 [.bool false]] ∧ MapOk m c ∧ SeenM m pre ∧ pre.Nodup ∧ 0 ∉ pre)
      (fun q pre _ A => q = .ret ∧ ∃ m c, A = all [blk BM 89 [.map (some M)], mapA M .u32 m c, blk BR 4 [.bool false]] ∧ ¬ (pre.Nodup ∧ 0 ∉ pre))
      (fun (x : Nat) _ => [(4, .int .u32 x), (3, .pointer (some ⟨BM, 0, none⟩)), (2, .pointer (some ⟨BR, 0, none⟩))]) (PagesI h _ s BP hs' hw) rfl (Fx.cal rfl) (fun h x args e => by rw [e]; rfl) rfl rfl (fun _ _ _ _ _ x => x) (fun _ _ _ _ _ _ x => x) (K.pp2 1 0 rfl)
      ⟨[], 0, rfl, MapOk.nil, fun v => by simp [Go.K.look], List.nodup_nil, List.not_mem_nil⟩ ?_ ?_ ?_ ?_
    · rintro l x h' args A R hle rfl
      refine K.r_region rfl (fun _ _ x => x) ?_
      refine K.s_pure (K.p_assign rfl) rfl (K.l_nil (K.a_AP (by repeat (first | exact K.Sub.nil _ | refine K.Sub.cons rfl ?_))))
    · rintro l pre x h' args A R hle hpre rfl ⟨m, c, rfl, hm, hsn, hnd, hnz⟩
      refine K.WR.open ?_
      simp only [List.set_cons_zero, List.set_cons_succ, List.eraseIdx_cons_zero, List.eraseIdx_cons_succ, List.cons_append, List.nil_append]
      have hlk := hsn x
      refine K.r_block (K.r_seq (K.r_region rfl (fun _ _ x => x) ?_))
      by_cases hx : x ∈ pre
      · rw [if_pos hx] at hlk
        have h0 : x ≠ 0 := fun e => hnz (e ▸ hx)
        have hlk2 : Go.K.look (putM m c x (.int .i64 (1 + 1))) x = some (.int .i64 (1 + 1)) := by rw [Go.K.look_put, if_pos rfl]
        (repeat' (first | refine X.rq ?_ | (refine X.rc ?_ ?_ <;> intro hc <;> first | (exfalso; omega) | skip)))
        refine K.s_pure (K.p_lookup (v := .int .i64 1) 1 rfl rfl rfl rfl rfl rfl (by rw [hlk]; rfl)) rfl ?_
        (repeat' (first | refine X.rq ?_ | (refine X.rc ?_ ?_ <;> intro hc <;> first | (exfalso; omega) | skip)))
        refine K.l_update_at 1 rfl rfl rfl hm rfl rfl rfl ?_
        simp only [List.set_cons_zero, List.set_cons_succ, List.eraseIdx_cons_zero, List.eraseIdx_cons_succ, List.cons_append, List.nil_append]
        (repeat' (first | refine X.rq ?_ | (refine X.rc ?_ ?_ <;> intro hc <;> first | (exfalso; omega) | skip)))
        refine K.a_thenR (K.r_seq (K.r_region rfl (fun _ _ x => x) ?_))
        (repeat' (first | refine X.rq ?_ | (refine X.rc ?_ ?_ <;> intro hc <;> first | (exfalso; omega) | skip)))
        all_goals first | (exfalso; omega) | skip
        refine K.s_pure (K.p_lookup (v := .int .i64 (1 + 1)) 1 rfl rfl rfl rfl rfl rfl (by rw [hlk2]; rfl)) rfl ?_
        (repeat' (first | refine X.rq ?_ | (refine X.rc ?_ ?_ <;> intro hc <;> first | (exfalso; omega) | skip)))
        refine K.a_thenR (K.r_condT rfl (K.r_seq (K.r_region rfl (fun _ _ x => x) ?_)))
        refine X.sto ?_
        simp only [List.set_cons_zero, List.set_cons_succ, List.eraseIdx_cons_zero, List.eraseIdx_cons_succ, List.cons_append, List.nil_append]
        (repeat' (first | refine X.rq ?_ | (refine X.rc ?_ ?_ <;> intro hc <;> first | (exfalso; omega) | skip)))
        refine K.a_thenR (K.r_ret (K.a_block_ret ?_))
        exact K.AT.closed (K.pp [0, 0, 0] rfl) (K.a_RPx (K.Base.le.refl _) ⟨rfl, _, _, rfl, fun h => by have := (List.nodup_append.1 h.1).2.2 x hx x (by simp); exact this rfl⟩ (List.Perm.refl _))
      · rw [if_neg hx] at hlk
        (repeat' (first | refine X.rq ?_ | (refine X.rc ?_ ?_ <;> intro hc <;> first | (exfalso; omega) | skip)))
        refine K.s_pure (K.p_lookup (v := .int .i64 0) 1 rfl rfl rfl rfl rfl rfl (by rw [hlk]; rfl)) rfl ?_
        (repeat' (first | refine X.rq ?_ | (refine X.rc ?_ ?_ <;> intro hc <;> first | (exfalso; omega) | skip)))
        refine K.l_update_at 1 rfl rfl rfl hm rfl rfl rfl ?_
        simp only [List.set_cons_zero, List.set_cons_succ, List.eraseIdx_cons_zero, List.eraseIdx_cons_succ, List.cons_append, List.nil_append]
        have hlk2 : Go.K.look (putM m c x (.int .i64 (0 + 1))) x = some (.int .i64 (0 + 1)) := by rw [Go.K.look_put, if_pos rfl]
        (repeat' (first | refine X.rq ?_ | (refine X.rc ?_ ?_ <;> intro hc <;> first | (exfalso; omega) | skip)))
        refine K.a_thenR (K.r_seq (K.r_region rfl (fun _ _ x => x) ?_))
        by_cases h0 : x = 0
        · (repeat' (first | refine X.rq ?_ | (refine X.rc ?_ ?_ <;> intro hc <;> first | (exfalso; omega) | skip)))
          all_goals first | (exfalso; omega) | skip
          refine K.a_thenR (K.r_condT rfl (K.r_seq (K.r_region rfl (fun _ _ x => x) ?_)))
          refine X.sto ?_
          simp only [List.set_cons_zero, List.set_cons_succ, List.eraseIdx_cons_zero, List.eraseIdx_cons_succ, List.cons_append, List.nil_append]
          (repeat' (first | refine X.rq ?_ | (refine X.rc ?_ ?_ <;> intro hc <;> first | (exfalso; omega) | skip)))
          refine K.a_thenR (K.r_ret (K.a_block_ret ?_))
          exact K.AT.closed (K.pp [0, 0, 0] rfl) (K.a_RPx (K.Base.le.refl _) ⟨rfl, _, _, rfl, fun h => h.2 (by simp [h0])⟩ (List.Perm.refl _))
        · (repeat' (first | refine X.rq ?_ | (refine X.rc ?_ ?_ <;> intro hc <;> first | (exfalso; omega) | skip)))
          all_goals first | (exfalso; omega) | skip
          refine K.s_pure (K.p_lookup (v := .int .i64 (0 + 1)) 1 rfl rfl rfl rfl rfl rfl (by rw [hlk2]; rfl)) rfl ?_
          (repeat' (first | refine X.rq ?_ | (refine X.rc ?_ ?_ <;> intro hc <;> first | (exfalso; omega) | skip)))
          refine K.a_thenR (K.r_condF rfl (K.r_skip ?_))
          (repeat' (first | refine X.rq ?_ | (refine X.rc ?_ ?_ <;> intro hc <;> first | (exfalso; omega) | skip)))
          refine K.AT.closed (K.pp [0, 0, 0] rfl) (K.a_RP (K.Base.le.refl _) ⟨_, _, rfl, hm.put _ _, hsn.put c x, ?_, ?_⟩ (List.Perm.refl _))
          · exact List.nodup_append.2 ⟨hnd, by simp, fun a ha b hb e => hx (by rw [← List.mem_singleton.1 hb, ← e]; exact ha)⟩
          · simp only [List.mem_append, List.mem_singleton, not_or]
            exact ⟨hnz, fun e => h0 e.symm⟩
    · rintro D h1 A' hle ⟨m, c, rfl, hm, hsn, hnd, hnz⟩
      have hnd' := hnd
      refine K.AT.perm (K.pp [2] rfl) (K.AT.open ?_)
      simp only [List.set_cons_zero, List.set_cons_succ, List.eraseIdx_cons_zero, List.eraseIdx_cons_succ, List.cons_append, List.nil_append]
      refine K.AT.perm (K.pp [3, 3, 0, 0, 0] rfl) ?_
      simp only [List.set_cons_zero, List.set_cons_succ, List.eraseIdx_cons_zero, List.eraseIdx_cons_succ, List.cons_append, List.nil_append]
      (repeat' (first | refine X.rq ?_ | (refine X.rc ?_ ?_ <;> intro hc <;> first | (exfalso; omega) | skip)))
      refine K.c_loop (σ := MyT) (fun q => [(1, .pointer (some ⟨BS, 0, none⟩)), (2, .pointer (some ⟨BR, 0, none⟩)), (5, .int .u32 q.last), (39, .slice ao s.tabs.length ca), (40, .int .i64 s.tabs.length), (41, .int .i64 q.j)]) (fun _ => h1) (fun _ => mayH D BP BR BM M BS [.slice ao s.tabs.length ca, .slice ai s.idxs.length ci] m c false F)
        (fun q => q.j ≤ s.tabs.length ∧ q.last < 4294967296 ∧ Last (·.id) s.tabs q.j q.last ∧ ∀ i x, i < q.j → s.tabs[i]? = some x → tabB s.tabs i x = true) (fun q => s.tabs.length - q.j) ⟨0, 0⟩ ⟨Nat.zero_le _, by decide, Last.nil _ _, fun i x hi => absurd hi (Nat.not_lt_zero _)⟩ (by repeat (first | exact K.Sub.nil _ | refine K.Sub.cons rfl ?_)) rfl rfl ?_
      rintro ⟨j, last⟩ ⟨hj, hl1, hlast, hok⟩ KL hKL
      simp only at hj hl1 hlast hok ⊢
      by_cases hjl : j < s.tabs.length
      · have hx1 : s.tabs[j]? = some s.tabs[j] := List.getElem?_eq_getElem hjl
        have hwt : wfTb s.tabs[j] := hw.tabs _ (List.getElem_mem hjl)
        generalize s.tabs[j] = t at hx1 hwt
        have heq := tabB_eq (t := t) hlast
        have hno : tabB s.tabs j t = false → mayS s = false := fun e => by
          simp only [mayS, Bool.and_eq_false_iff]
          exact .inr (.inr (.inr (.inr (.inl (allB_no hx1 e)))))
        obtain ⟨q, hc0, htc⟩ := ht.get hx1
        have htc1 := htc.le hle
        obtain ⟨v1, rfl, hcv⟩ := htc
        obtain ⟨av, cv, rfl⟩ := hcv.len
        have hcv1 := hcv.le hle
        have hvt1 := hvt.le hle
        have hcap := hvt.cap (by rw [ht.len]; omega)
        rw [ht.len] at hcap
        obtain ⟨bb, oo, rfl, hcx⟩ := hvt1.at hc0
        (repeat' (first | refine X.rq ?_ | (refine X.rc ?_ ?_ <;> intro hc <;> first | (exfalso; omega) | skip)))
        refine K.s_pure (K.p_loadM (Fx.agg rfl) rfl (Cels.up hcx) (Fx.sz rfl) rfl) rfl ?_
        refine K.l_alloc (Fx.zr rfl) rfl rfl (fun B => ?_)
        (repeat' (first | refine X.rq ?_ | (refine X.rc ?_ ?_ <;> intro hc <;> first | (exfalso; omega) | skip)))
        refine X.stw ?_
        simp only [List.set_cons_zero, List.set_cons_succ, List.eraseIdx_cons_zero, List.eraseIdx_cons_succ, List.cons_append, List.nil_append]
        by_cases g1 : t.id ≤ last
        · (repeat' (first | refine X.rq ?_ | (refine X.rc ?_ ?_ <;> intro hc <;> first | (exfalso; omega) | skip)))
          all_goals first | (exfalso; omega) | skip
          refine X.sto ?_
          simp only [List.set_cons_zero, List.set_cons_succ, List.eraseIdx_cons_zero, List.eraseIdx_cons_succ, List.cons_append, List.nil_append]
          (repeat' (first | refine X.rq ?_ | (refine X.rc ?_ ?_ <;> intro hc <;> first | (exfalso; omega) | skip)))
          exact K.AT.sel [0] rfl (bad D m c h1 _ (hno (by first | (rw [heq, decide_eq_false (by omega)]; done) | (rw [heq, decide_eq_false (by omega)]; rfl))) rfl hle)
        (repeat' (first | refine X.rq ?_ | (refine X.rc ?_ ?_ <;> intro hc <;> first | (exfalso; omega) | skip)))
        all_goals first | (exfalso; omega) | skip
        refine K.l_callV (Fx.cal rfl) rfl (Name h1 t.name hwt.name) (K.pp [] rfl) rfl rfl ?_
        simp only [List.nil_append]
        cases hn : nameB t.name.data.toList with
        | false =>
          (repeat' (first | refine X.rq ?_ | (refine X.rc ?_ ?_ <;> intro hc <;> first | (exfalso; omega) | skip)))
          refine X.sto ?_
          simp only [List.set_cons_zero, List.set_cons_succ, List.eraseIdx_cons_zero, List.eraseIdx_cons_succ, List.cons_append, List.nil_append]
          (repeat' (first | refine X.rq ?_ | (refine X.rc ?_ ?_ <;> intro hc <;> first | (exfalso; omega) | skip)))
          exact K.AT.sel [0] rfl (bad D m c h1 _ (hno (by first | (rw [heq, hn, Bool.false_and, Bool.and_false]; done) | (rw [heq, hn, Bool.false_and, Bool.and_false]; rfl))) rfl hle)
        | true =>
          (repeat' (first | refine X.rq ?_ | (refine X.rc ?_ ?_ <;> intro hc <;> first | (exfalso; omega) | skip)))
          refine K.l_callV (Fx.cal rfl) rfl (May h1 _ t.cols hcv1 hwt.cols (Nat.le_trans hwt.len (by decide))) (K.pp [] rfl) rfl rfl ?_
          simp only [List.nil_append]
          cases hmb : mayB t.cols with
          | false =>
            (repeat' (first | refine X.rq ?_ | (refine X.rc ?_ ?_ <;> intro hc <;> first | (exfalso; omega) | skip)))
            refine X.sto ?_
            simp only [List.set_cons_zero, List.set_cons_succ, List.eraseIdx_cons_zero, List.eraseIdx_cons_succ, List.cons_append, List.nil_append]
            (repeat' (first | refine X.rq ?_ | (refine X.rc ?_ ?_ <;> intro hc <;> first | (exfalso; omega) | skip)))
            exact K.AT.sel [0] rfl (bad D m c h1 _ (hno (by first | (rw [heq, hmb, Bool.false_and, Bool.and_false, Bool.and_false]; done) | (rw [heq, hmb, Bool.false_and, Bool.and_false, Bool.and_false]; rfl))) rfl hle)
          | true =>
            (repeat' (first | refine X.rq ?_ | (refine X.rc ?_ ?_ <;> intro hc <;> first | (exfalso; omega) | skip)))
            refine K.s_pure (K.p_sliceU (q := j) (Fx.und rfl) (Fx.sz rfl) rfl rfl rfl (by omega)) rfl ?_
            refine K.s_take rfl rfl (K.s_pure (K.p_makeFunc rfl) rfl ?_)
            refine K.s_take rfl rfl (K.l_callV (Fx.cal rfl) rfl (CtnT h1 [blk B 37 (cTab t (.slice av (t.cols.map cC).length cv))] 61 [.pointer (some ⟨B, 0, none⟩)] (Fx.cal rfl) (.slice (some ⟨bb, oo, none⟩) j ca) (ts.take j) (s.tabs.take j) (fun u => decide (u.name = t.name)) (hvt1.take (by rw [ht.len]; omega))
              ((Each.mono (fun x c hc => hc.le hle) ht).take j) (by simp; omega) (fun x c _ hc => May1 h1 B t av _ cv x c hc)) (K.pp [0] rfl) rfl rfl ?_)
            simp only [List.set_cons_zero, List.set_cons_succ, List.eraseIdx_cons_zero, List.eraseIdx_cons_succ, List.cons_append, List.nil_append]
            cases hany : (s.tabs.take j).any fun u => decide (u.name = t.name) with
            | true =>
              (repeat' (first | refine X.rq ?_ | (refine X.rc ?_ ?_ <;> intro hc <;> first | (exfalso; omega) | skip)))
              refine X.sto ?_
              simp only [List.set_cons_zero, List.set_cons_succ, List.eraseIdx_cons_zero, List.eraseIdx_cons_succ, List.cons_append, List.nil_append]
              (repeat' (first | refine X.rq ?_ | (refine X.rc ?_ ?_ <;> intro hc <;> first | (exfalso; omega) | skip)))
              exact K.AT.sel [0] rfl (bad D m c h1 _ (hno (by first | (rw [heq, hany, Bool.not_true, Bool.and_false, Bool.and_false, Bool.and_false]; done) | (rw [heq, hany, Bool.not_true, Bool.and_false, Bool.and_false, Bool.and_false]; rfl))) rfl hle)
            | false =>
              (repeat' (first | refine X.rq ?_ | (refine X.rc ?_ ?_ <;> intro hc <;> first | (exfalso; omega) | skip)))
              refine K.AT.sel [0] rfl ?_
              refine K.a_round hKL ⟨j + 1, t.id⟩ ⟨by simp only; omega, hwt.id, hlast.step hx1 (by omega), fun i x hi hx => ?_⟩ (by repeat (first | exact K.Sub.nil _ | refine K.Sub.cons rfl ?_)) rfl rfl (by simp only; omega)
              by_cases hij : i < j
              · exact hok i x hij hx
              · obtain rfl : i = j := by simp only at hi; omega
                rw [hx1] at hx
                cases hx
                rw [heq, hn, hmb, hany, decide_eq_true (by omega)]
                rfl
      · obtain rfl : j = s.tabs.length := by omega
        have htabs : allB (tabB s.tabs) s.tabs = true := allB_iff.2 fun i x hx => hok i x (List.getElem?_eq_some_iff.1 hx).1 hx
        (repeat' (first | refine X.rq ?_ | (refine X.rc ?_ ?_ <;> intro hc <;> first | (exfalso; omega) | skip)))
        refine K.c_loop (σ := MyX) (fun q => [(1, .pointer (some ⟨BS, 0, none⟩)), (2, .pointer (some ⟨BR, 0, none⟩)), (5, .int .u32 q.last), (74, .slice ai s.idxs.length ci), (75, .int .i64 s.idxs.length), (76, .int .i64 q.j)]) (fun q => q.hb) (fun _ => mayH D BP BR BM M BS [.slice ao s.tabs.length ca, .slice ai s.idxs.length ci] m c false F)
          (fun q => h.le q.hb ∧ q.j ≤ s.idxs.length ∧ q.last < 4294967296 ∧ Last (·.id) s.idxs q.j q.last ∧ ∀ i x, i < q.j → s.idxs[i]? = some x → idxB s i x = true) (fun q => s.idxs.length - q.j) ⟨0, 0, h1⟩ ⟨hle, Nat.zero_le _, (by decide : (0 : Nat) < 4294967296), Last.nil _ _, fun i x hi => absurd hi (Nat.not_lt_zero _)⟩ (by repeat (first | exact K.Sub.nil _ | refine K.Sub.cons rfl ?_)) rfl rfl ?_
        clear hok hlast hl1 hjl hj hKL KL hle h1
        rintro ⟨j, last, h1⟩ ⟨hle1, hj, hl1, hlast, hok⟩ KL hKL
        simp only at hle1 hj hl1 hlast hok ⊢
        by_cases hjl : j < s.idxs.length
        · have hx1 : s.idxs[j]? = some s.idxs[j] := List.getElem?_eq_getElem hjl
          have hwx : wfIx s.idxs[j] := hw.idxs _ (List.getElem_mem hjl)
          generalize s.idxs[j] = x at hx1 hwx
          have heq := idxB_eq (x := x) hlast
          have hno : idxB s j x = false → mayS s = false := fun e => by
            simp only [mayS, Bool.and_eq_false_iff]
            exact .inr (.inr (.inr (.inr (.inr (allB_no hx1 e)))))
          obtain ⟨q, hc0, htc⟩ := hi.get hx1
          obtain ⟨v1, rfl, hcv⟩ := htc
          obtain ⟨av, cv, rfl⟩ := hcv.len
          have hcv1 := hcv.le hle1
          have hvi1 := hvi.le hle1
          have hcap := hvi.cap (by rw [hi.len]; omega)
          rw [hi.len] at hcap
          have hlx : (rowN x.cols).length = x.cols.length := List.length_map ..
          have hfd := hw.tabs
          obtain ⟨bb, oo, rfl, hcx⟩ := hvi1.at hc0
          (repeat' (first | refine X.rq ?_ | (refine X.rc ?_ ?_ <;> intro hc <;> first | (exfalso; omega) | skip)))
          refine K.s_pure (K.p_loadM (Fx.agg rfl) rfl (Cels.up hcx) (Fx.sz rfl) rfl) rfl ?_
          refine K.l_alloc (Fx.zr rfl) rfl rfl (fun B9 => ?_)
          (repeat' (first | refine X.rq ?_ | (refine X.rc ?_ ?_ <;> intro hc <;> first | (exfalso; omega) | skip)))
          refine X.stw ?_
          simp only [List.set_cons_zero, List.set_cons_succ, List.eraseIdx_cons_zero, List.eraseIdx_cons_succ, List.cons_append, List.nil_append]
          (repeat' (first | refine X.rq ?_ | (refine X.rc ?_ ?_ <;> intro hc <;> first | (exfalso; omega) | skip)))
          refine K.s_pure (K.p_loadW 6 rfl rfl (Fx.agg rfl) (Fx.sz rfl)) rfl ?_
          (repeat' (first | refine X.rq ?_ | (refine X.rc ?_ ?_ <;> intro hc <;> first | (exfalso; omega) | skip)))
          refine K.l_call (Fx.cal rfl) rfl (Table h1 _ s x.table (hs'.le hle1) hw) (K.pp [] rfl) rfl ?_
          rintro u h2 H' hle2 ⟨rfl, v, rfl, hv2, hf2⟩
          simp only [List.set_cons_zero, List.set_cons_succ, List.eraseIdx_cons_zero, List.eraseIdx_cons_succ, List.cons_append, List.nil_append]
          have hplc : plcB s x = match s.tabs.find? (fun t => decide (t.id = x.table)) with
            | some t => placesB t.cols.length x.cols
            | none => false := rfl
          have hmem : ∀ t, s.tabs.find? (fun t => decide (t.id = x.table)) = some t → t.cols.length ≤ 4398046511104 := fun t ht => (hw.tabs t (List.mem_of_find?_eq_some ht)).len
          generalize s.tabs.find? (fun t => decide (t.id = x.table)) = o at hplc hv2 hf2 hmem ⊢
          obtain ⟨av2, cv2, rfl⟩ := hv2.len
          (repeat' (first | refine X.rq ?_ | (refine X.rc ?_ ?_ <;> intro hc <;> first | (exfalso; omega) | skip)))
          refine K.l_alloc (Fx.zr rfl) rfl rfl (fun B10 => ?_)
          refine X.stw ?_
          simp only [List.set_cons_zero, List.set_cons_succ, List.eraseIdx_cons_zero, List.eraseIdx_cons_succ, List.cons_append, List.nil_append]
          (repeat' (first | refine X.rq ?_ | (refine X.rc ?_ ?_ <;> intro hc <;> first | (exfalso; omega) | skip)))
          by_cases g1 : x.id ≤ last
          · (repeat' (first | refine X.rq ?_ | (refine X.rc ?_ ?_ <;> intro hc <;> first | (exfalso; omega) | skip)))
            all_goals first | (exfalso; omega) | skip
            refine X.sto ?_
            simp only [List.set_cons_zero, List.set_cons_succ, List.eraseIdx_cons_zero, List.eraseIdx_cons_succ, List.cons_append, List.nil_append]
            (repeat' (first | refine X.rq ?_ | (refine X.rc ?_ ?_ <;> intro hc <;> first | (exfalso; omega) | skip)))
            exact K.AT.sel [0, 0] rfl (bad D m c h2 _ (hno (by first | (rw [heq, decide_eq_false (by omega)]; done) | (rw [heq, decide_eq_false (by omega)]; rfl))) rfl (hle1.trans hle2))
          (repeat' (first | refine X.rq ?_ | (refine X.rc ?_ ?_ <;> intro hc <;> first | (exfalso; omega) | skip)))
          all_goals first | (exfalso; omega) | skip
          refine K.l_callV (Fx.cal rfl) rfl (Name h2 x.name hwx.name) (K.pp [] rfl) rfl rfl ?_
          simp only [List.nil_append]
          cases hn : nameB x.name.data.toList with
          | false =>
            (repeat' (first | refine X.rq ?_ | (refine X.rc ?_ ?_ <;> intro hc <;> first | (exfalso; omega) | skip)))
            refine X.sto ?_
            simp only [List.set_cons_zero, List.set_cons_succ, List.eraseIdx_cons_zero, List.eraseIdx_cons_succ, List.cons_append, List.nil_append]
            (repeat' (first | refine X.rq ?_ | (refine X.rc ?_ ?_ <;> intro hc <;> first | (exfalso; omega) | skip)))
            exact K.AT.sel [0, 0] rfl (bad D m c h2 _ (hno (by first | (rw [heq, hn, Bool.false_and, Bool.and_false]; done) | (rw [heq, hn, Bool.false_and, Bool.and_false]; rfl))) rfl (hle1.trans hle2))
          | true =>
            cases o with
            | none =>
              have hpf : plcB s x = false := hplc
              simp only [Option.isSome_none]
              (repeat' (first | refine X.rq ?_ | (refine X.rc ?_ ?_ <;> intro hc <;> first | (exfalso; omega) | skip)))
              refine X.sto ?_
              simp only [List.set_cons_zero, List.set_cons_succ, List.eraseIdx_cons_zero, List.eraseIdx_cons_succ, List.cons_append, List.nil_append]
              (repeat' (first | refine X.rq ?_ | (refine X.rc ?_ ?_ <;> intro hc <;> first | (exfalso; omega) | skip)))
              exact K.AT.sel [0, 0] rfl (bad D m c h2 _ (hno (by first | (rw [heq, hpf, Bool.false_and, Bool.and_false, Bool.and_false]; done) | (rw [heq, hpf, Bool.false_and, Bool.and_false, Bool.and_false]; rfl))) rfl (hle1.trans hle2))
            | some t =>
              simp only [Option.isSome_some, Option.getD_some]
              simp only [Option.getD_some] at hv2
              have hpt : plcB s x = placesB t.cols.length x.cols := hplc
              (repeat' (first | refine X.rq ?_ | (refine X.rc ?_ ?_ <;> intro hc <;> first | (exfalso; omega) | skip)))
              refine K.l_callV (Fx.cal rfl) rfl (Places h2 t _ _ x.cols ⟨_, rfl, hv2⟩ (hmem t rfl) (hcv1.le hle2) (Nat.le_trans hwx.len (by decide))) (K.pp [] rfl) rfl rfl ?_
              simp only [List.nil_append]
              cases hpb : placesB t.cols.length x.cols with
              | false =>
                rw [hpb] at hpt
                (repeat' (first | refine X.rq ?_ | (refine X.rc ?_ ?_ <;> intro hc <;> first | (exfalso; omega) | skip)))
                refine X.sto ?_
                simp only [List.set_cons_zero, List.set_cons_succ, List.eraseIdx_cons_zero, List.eraseIdx_cons_succ, List.cons_append, List.nil_append]
                (repeat' (first | refine X.rq ?_ | (refine X.rc ?_ ?_ <;> intro hc <;> first | (exfalso; omega) | skip)))
                exact K.AT.sel [0, 0] rfl (bad D m c h2 _ (hno (by first | (rw [heq, hpt, Bool.false_and, Bool.and_false, Bool.and_false]; done) | (rw [heq, hpt, Bool.false_and, Bool.and_false, Bool.and_false]; rfl))) rfl (hle1.trans hle2))
              | true =>
                rw [hpb] at hpt
                (repeat' (first | refine X.rq ?_ | (refine X.rc ?_ ?_ <;> intro hc <;> first | (exfalso; omega) | skip)))
                refine K.s_pure (K.p_sliceU (q := j) (Fx.und rfl) (Fx.sz rfl) rfl rfl rfl (by omega)) rfl ?_
                refine K.s_take rfl rfl (K.s_pure (K.p_makeFunc rfl) rfl ?_)
                refine K.s_take rfl rfl (K.l_callV (Fx.cal rfl) rfl (CtnI h2 [blk B9 43 (cIdx x (.slice av (rowN x.cols).length cv))] 64 [.pointer (some ⟨B9, 0, none⟩)] (Fx.cal rfl) (.slice (some ⟨bb, oo, none⟩) j ci) (is.take j) (s.idxs.take j) (fun u => decide (u.name = x.name)) ((hvi1.le hle2).take (by rw [hi.len]; omega))
                  ((Each.mono (fun x c hc => hc.le (hle1.trans hle2)) hi).take j) (by simp; omega) (fun y c _ hc => May2 h2 B9 x av _ cv y c hc)) (K.pp [1] rfl) rfl rfl ?_)
                simp only [List.set_cons_zero, List.set_cons_succ, List.eraseIdx_cons_zero, List.eraseIdx_cons_succ, List.cons_append, List.nil_append]
                cases hany : (s.idxs.take j).any fun u => decide (u.name = x.name) with
                | true =>
                  (repeat' (first | refine X.rq ?_ | (refine X.rc ?_ ?_ <;> intro hc <;> first | (exfalso; omega) | skip)))
                  refine X.sto ?_
                  simp only [List.set_cons_zero, List.set_cons_succ, List.eraseIdx_cons_zero, List.eraseIdx_cons_succ, List.cons_append, List.nil_append]
                  (repeat' (first | refine X.rq ?_ | (refine X.rc ?_ ?_ <;> intro hc <;> first | (exfalso; omega) | skip)))
                  exact K.AT.sel [0, 0] rfl (bad D m c h2 _ (hno (by first | (rw [heq, hany, Bool.not_true, Bool.and_false, Bool.and_false, Bool.and_false]; done) | (rw [heq, hany, Bool.not_true, Bool.and_false, Bool.and_false, Bool.and_false]; rfl))) rfl (hle1.trans hle2))
                | false =>
                  (repeat' (first | refine X.rq ?_ | (refine X.rc ?_ ?_ <;> intro hc <;> first | (exfalso; omega) | skip)))
                  refine K.AT.sel [0, 0] rfl ?_
                  refine K.a_round hKL ⟨j + 1, x.id, h2⟩ ⟨hle1.trans hle2, by simp only; omega, hwx.id, hlast.step hx1 (by omega), fun i y hi' hy => ?_⟩ (by repeat (first | exact K.Sub.nil _ | refine K.Sub.cons rfl ?_)) rfl rfl (by simp only; omega)
                  by_cases hij : i < j
                  · exact hok i y hij hy
                  · obtain rfl : i = j := by simp only at hi'; omega
                    rw [hx1] at hy
                    cases hy
                    rw [heq, hn, hpt, hany, decide_eq_true (by omega)]
                    rfl
        · obtain rfl : j = s.idxs.length := by omega
          have hidx : allB (idxB s) s.idxs = true := allB_iff.2 fun i x hx => hok i x (List.getElem?_eq_some_iff.1 hx).1 hx
          have hyes : mayS s = true := by
            simp only [mayS, Bool.and_eq_true, decide_eq_true_eq]
            exact ⟨hlen.1, hlen.2, hnd, hnz, htabs, hidx⟩
          rw [hyes]
          (repeat' (first | refine X.rq ?_ | (refine X.rc ?_ ?_ <;> intro hc <;> first | (exfalso; omega) | skip)))
          refine X.sto ?_
          simp only [List.set_cons_zero, List.set_cons_succ, List.eraseIdx_cons_zero, List.eraseIdx_cons_succ, List.cons_append, List.nil_append]
          (repeat' (first | refine X.rq ?_ | (refine X.rc ?_ ?_ <;> intro hc <;> first | (exfalso; omega) | skip)))
          exact K.doneM (vs := [_]) rfl (.inl rfl) (K.pp1 0 rfl) (.cell1 rfl (Fx.agg rfl) (K.cel_own 3 rfl rfl) .nil) hle1 (D := [_, _, _, _, _]) (H' := []) rfl ⟨rfl, rfl⟩
    · rintro D q pre h' A' hle hpre ⟨rfl, m, c, rfl, hb⟩
      refine K.c_ret (K.AT.perm (K.pp [2] rfl) (K.AT.open ?_))
      simp only [List.set_cons_zero, List.set_cons_succ, List.eraseIdx_cons_zero, List.eraseIdx_cons_succ, List.cons_append, List.nil_append]
      (repeat' (first | refine X.rq ?_ | (refine X.rc ?_ ?_ <;> intro hc <;> first | (exfalso; omega) | skip)))
      exact K.AT.perm (K.pp [3, 3, 0, 0, 0] rfl) (bad D m c h' _ (pages_bad hpre hb) rfl hle)
  · have hno : mayS s = false := by
      simp only [mayS, Bool.and_eq_false_iff, decide_eq_false_iff_not]
      by_cases h1 : s.tabs.length ≤ 32
      · exact .inr (.inl fun h2 => hlen ⟨h1, h2⟩)
      · exact .inl h1
    rw [hno]
    (repeat' (first | refine X.rq ?_ | (refine X.rc ?_ ?_ <;> intro hc <;> first | (exfalso; omega) | skip)))
    all_goals first | (exfalso; omega) | skip
    all_goals
      refine X.sto ?_
      simp only [List.set_cons_zero, List.set_cons_succ, List.eraseIdx_cons_zero, List.eraseIdx_cons_succ, List.cons_append, List.nil_append]
      (repeat' (first | refine X.rq ?_ | (refine X.rc ?_ ?_ <;> intro hc <;> first | (exfalso; omega) | skip)))
      refine K.doneM0 (vs := [_]) (.inl rfl) (.cell1 rfl (Fx.agg rfl) (K.cel_own 0 rfl rfl) .nil) (K.Base.le.refl _) (D := [_, _]) (H' := []) rfl ⟨rfl, rfl⟩
end Go.Proofs.YtdjacjhojbkgjaaGreat.Ct
