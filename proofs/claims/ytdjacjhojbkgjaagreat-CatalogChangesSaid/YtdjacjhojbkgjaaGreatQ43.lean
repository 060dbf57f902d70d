/-
  A page taken, a table added: the document's. Conditions: each theorem's own.
-/
import Derived.Test.YtdjacjhojbkgjaaGreatQ35
namespace Go.Proofs.YtdjacjhojbkgjaaGreat.Ct
open Go Go.K Go.Proofs Go.Proofs.YtdjacjhojbkgjaaGreat Go.Proofs.YtdjacjhojbkgjaaGreat.Rw
set_option linter.unusedVariables false
set_option linter.unusedSimpArgs false
set_option maxRecDepth 10000

theorem SchC.shape {h : Base} {s : PSch} {cs : List Value} (hs : SchC h s cs) : ∃ a k a2 k2, cs = [.slice a s.tabs.length k, .slice a2 s.idxs.length k2] := by
  obtain ⟨vt, vi, ts, is, rfl, h1, h2, h3, h4⟩ := hs
  obtain ⟨a, k, rfl⟩ := h1.len
  obtain ⟨a2, k2, rfl⟩ := h3.len
  exact ⟨a, k, a2, k2, by rw [h2.len, h4.len]⟩
set_option maxHeartbeats 2000000 in
theorem RTaken (h : Base) (cs : List Value) (s : PSch) (page : Nat) (hs : SchC h s cs) (hw : wfS s) :
    Tr Tryz.prog 40 [.agg cs.toArray, .int .u32 page] h [] (fun u h' H' => H' = [] ∧ u = .bool (decide (page ∈ pagesQ s ∨ page = 0))) := by
  have hlt := hw.lt
  have hli := hw.li
  have hpl : (pagesQ s).length = s.tabs.length + s.idxs.length := by simp [pagesQ]
  obtain ⟨a, k, a2, k2, rfl⟩ := hs.shape
  refine K.enter Tryz.func40 rfl (Nat.le_of_ble_eq_true rfl) (fun F => ?_)
  simp only [List.nil_append, List.cons_append]
  (repeat' (first | refine X.rq ?_ | (refine X.rc ?_ ?_ <;> intro hc <;> first | (exfalso; omega) | skip)))
  refine K.l_box rfl rfl rfl (fun B2 => ?_)
  (repeat' (first | refine X.rq ?_ | (refine X.rc ?_ ?_ <;> intro hc <;> first | (exfalso; omega) | skip)))
  refine K.l_call (Fx.cal rfl) rfl (RPages h _ s hs hw) (K.pp [] rfl) rfl ?_
  rintro u h1 H' hle1 ⟨rfl, hv⟩
  obtain ⟨ao, ca, rfl⟩ := hv.len
  rw [List.length_map] at hv ⊢
  generalize pagesQ s = l at hv hpl ⊢
  simp only [List.set_cons_zero, List.set_cons_succ, List.eraseIdx_cons_zero, List.eraseIdx_cons_succ, List.cons_append, List.nil_append]
  (repeat' (first | refine X.rq ?_ | (refine X.rc ?_ ?_ <;> intro hc <;> first | (exfalso; omega) | skip)))
  refine K.c_loop (σ := Nat) (fun j => [(1, .int .u32 page), (5, .slice ao l.length ca), (6, .int .i64 j)]) (fun _ => h1) (fun _ => blk B2 25 [.slice a s.tabs.length k, .slice a2 s.idxs.length k2] :: F)
    (fun j => j ≤ l.length ∧ page ∉ l.take j) (fun j => l.length - j) 0 ⟨Nat.zero_le _, by simp⟩ (by repeat (first | exact K.Sub.nil _ | refine K.Sub.cons rfl ?_)) rfl rfl ?_
  rintro j ⟨hj, hn⟩ KL hKL
  by_cases hjl : j < l.length
  · have hx1 : l[j]? = some l[j] := List.getElem?_eq_getElem hjl
    have hmem := List.getElem_mem hjl
    generalize l[j] = x at hx1 hmem
    obtain ⟨htk, _⟩ := take_at hx1
    have hc1 : (l.map fun n => [pgV n])[j]? = some [.int .u32 x] := by rw [List.getElem?_map, hx1]; rfl
    obtain ⟨bb, oo, rfl, hcx⟩ := hv.at hc1
    (repeat' (first | refine X.rq ?_ | (refine X.rc ?_ ?_ <;> intro hc <;> first | (exfalso; omega) | skip)))
    refine K.s_pure (K.p_load (Fx.agg rfl) rfl (Cels.up hcx).1) rfl ?_
    by_cases hxp : x = page
    · subst hxp
      (repeat' (first | refine X.rq ?_ | (refine X.rc ?_ ?_ <;> intro hc <;> first | (exfalso; omega) | skip)))
      all_goals first | (exfalso; omega) | skip
      rw [decide_eq_true (.inl hmem)]
      refine K.AT.sel [0] rfl ?_
      refine K.done (by first | exact Or.inl rfl | exact Or.inr rfl) rfl (by first | exact K.Base.le.refl _ | assumption) (H' := []) rfl ⟨rfl, rfl⟩
    · (repeat' (first | refine X.rq ?_ | (refine X.rc ?_ ?_ <;> intro hc <;> first | (exfalso; omega) | skip)))
      all_goals first | (exfalso; omega) | skip
      refine K.a_round hKL (j + 1) ⟨by omega, by rw [htk, List.mem_append, List.mem_singleton]; exact fun e => e.elim hn fun e => hxp e.symm⟩ (by repeat (first | exact K.Sub.nil _ | refine K.Sub.cons rfl ?_)) rfl rfl (by omega)
  · obtain rfl : j = l.length := by omega
    rw [List.take_length] at hn
    have hdd : decide (page ∈ l ∨ page = 0) = decide ((page : Int) = 0) := by
      rw [decide_eq_decide]
      exact ⟨fun e => e.elim (fun e => absurd e hn) (by omega), fun e => .inr (by omega)⟩
    rw [hdd]
    (repeat' (first | refine X.rq ?_ | (refine X.rc ?_ ?_ <;> intro hc <;> first | (exfalso; omega) | skip)))
    refine K.AT.sel [0] rfl ?_
    refine K.done (by first | exact Or.inl rfl | exact Or.inr rfl) rfl (by first | exact K.Base.le.refl _ | assumption) (H' := []) rfl ⟨rfl, rfl⟩
theorem lastT_step {l : List PTab} (hp : l.Pairwise fun a b => a.id < b.id) {j : Nat} {t : PTab} (hx : l[j]? = some t) : lastT (l.take (j + 1)) = t.id ∧ lastT (l.take j) ≤ t.id := by
  obtain ⟨htk, r, hr⟩ := take_at hx
  rw [htk]
  constructor
  · rw [lastT, List.getLast?_append]; rfl
  · rcases nil_or_last (l.take j) with e | ⟨ys, a, e⟩
    · rw [e]; exact Nat.zero_le _
    · have ha : a ∈ l.take j := by rw [e]; simp
      have hlt : a.id < t.id := by
        rw [hr] at hp
        exact (List.pairwise_append.1 hp).2.2 a ha t (by simp)
      rw [e, lastT, List.getLast?_append]
      show a.id ≤ t.id
      omega
theorem lastX_step {l : List PIdx} (hp : l.Pairwise fun a b => a.id < b.id) {j : Nat} {t : PIdx} (hx : l[j]? = some t) : lastX (l.take (j + 1)) = t.id ∧ lastX (l.take j) ≤ t.id := by
  obtain ⟨htk, r, hr⟩ := take_at hx
  rw [htk]
  constructor
  · rw [lastX, List.getLast?_append]; rfl
  · rcases nil_or_last (l.take j) with e | ⟨ys, a, e⟩
    · rw [e]; exact Nat.zero_le _
    · have ha : a ∈ l.take j := by rw [e]; simp
      have hlt : a.id < t.id := by
        rw [hr] at hp
        exact (List.pairwise_append.1 hp).2.2 a ha t (by simp)
      rw [e, lastX, List.getLast?_append]
      show a.id ≤ t.id
      omega
set_option maxHeartbeats 8000000 in
theorem RAddTable (h : Base) (cs : List Value) (s : PSch) (name : ByteArray) (v : Value) (cols : List Col) (head : Nat) (hs : SchC h s cs) (hw : wfS s) (hv : SL h 3 v (cols.map cC)) (hn : name.size ≤ 9223372036854775807) (hcw : ∀ c ∈ cols, wfC c) (hcl : cols.length ≤ 4398046511104) :
    Tr Tryz.prog 13 [.agg cs.toArray, .string name, v, .int .u32 head] h [] (fun u h' H' => H' = [] ∧ ∃ cs', u = .tuple #[.agg cs'.toArray, .int .u32 (addTabQ s name cols head).2.1, eV (addTabQ s name cols head).2.2] ∧ SchC h' (addTabQ s name cols head).1 cs') := by
  have hs' := hs
  obtain ⟨vt, vi, ts, is, rfl, hvt, ht, hvi, hi⟩ := hs
  have hvl := hv.len
  have hlc : (cols.map cC).length = cols.length := List.length_map ..
  have hsrc : ∀ hb KK, h.le hb → Src Tryz.prog hb KK 3 v cols.length (cols.map cC).flatten := fun hb KK hle => by
    have := K.SL.src (P := Tryz.prog) (K := KK) (hv.le hle) (fun e he => by
      obtain ⟨x, _, rfl⟩ := List.mem_map.1 he
      rfl)
    rwa [hlc] at this
  obtain ⟨av, cv, rfl⟩ := hvl
  rw [hlc] at hv hsrc ⊢
  obtain ⟨ao, ca, rfl⟩ := hvt.len
  rw [ht.len] at hvt hs' ⊢
  obtain ⟨ai, ci, rfl⟩ := hvi.len
  rw [hi.len] at hvi hs' ⊢
  have hlt := hw.lt
  have hlid := lastT_lt hw
  refine K.enter Tryz.func13 rfl (Nat.le_of_ble_eq_true rfl) (fun F => ?_)
  simp only [List.nil_append, List.cons_append]
  (repeat' (first | refine X.rq ?_ | (refine X.rc ?_ ?_ <;> intro hc <;> first | (exfalso; omega) | skip)))
  refine K.l_box rfl rfl rfl (fun BS => ?_)
  refine K.l_alloc (Fx.zr rfl) rfl rfl (fun BR => ?_)
  have bad : ∀ (e : Int) (hb : Base) (E : Env) (H2 : List Asrt), addTabQ s name cols head = (zSch, 0, e) → h.le hb → K.lk E 8 = some (.pointer (some ⟨BR, 0, none⟩)) → K.lk E 9 = some (.int .u32 0) → K.lk E 10 = some (eV e) →
      AT Tryz.prog Tryz.f13.ntmps (K.post Tryz.prog Tryz.f13 fun v w' => ∃ h' H', h.le h' ∧ (H' = [] ∧ ∃ cs', v = .tuple #[.agg cs'.toArray, .int .u32 (addTabQ s name cols head).2.1, eV (addTabQ s name cols head).2.2] ∧ SchC h' (addTabQ s name cols head).1 cs') ∧ Ok h' (H' ++ F) w') .ret E hb (blk BR 25 [.slice none 0 0, .slice none 0 0] :: (H2 ++ F)) := fun e hb E H2 hq hle hE hE2 hE3 => by
    rw [hq]
    exact K.doneC (.inl rfl) (.cell hE (Fx.agg rfl) (Fx.sz rfl) (K.cels_own (pre := []) (post := []) 0 rfl rfl) (.tmp hE2 (.tmp hE3 .nil))) hle (vs := [.agg [Value.slice none 0 0, Value.slice none 0 0].toArray, .int .u32 0, eV e]) (D := blk BR 25 [.slice none 0 0, .slice none 0 0] :: H2) (H' := []) rfl ⟨rfl, _, rfl, zSch_c hb⟩
  (repeat' (first | refine X.rq ?_ | (refine X.rc ?_ ?_ <;> intro hc <;> first | (exfalso; omega) | skip)))
  refine K.l_call (Fx.cal rfl) rfl (RMay h _ s hs' hw) (K.pp [] rfl) rfl ?_
  rintro u h1 H' hle1 ⟨rfl, rfl⟩
  simp only [List.set_cons_zero, List.set_cons_succ, List.eraseIdx_cons_zero, List.eraseIdx_cons_succ, List.cons_append, List.nil_append]
  cases hm : mayS s with
  | false =>
    have hq : addTabQ s name cols head = (zSch, 0, 1) := by rw [addTabQ, if_pos (by rw [hm]; simp)]
    (repeat' (first | refine X.rq ?_ | (refine X.rc ?_ ?_ <;> intro hc <;> first | (exfalso; omega) | skip)))
    refine X.stw ?_
    simp only [List.set_cons_zero, List.set_cons_succ, List.eraseIdx_cons_zero, List.eraseIdx_cons_succ, List.cons_append, List.nil_append]
    (repeat' (first | refine X.rq ?_ | (refine X.rc ?_ ?_ <;> intro hc <;> first | (exfalso; omega) | skip)))
    exact bad 1 h1 _ [_] hq hle1 rfl rfl rfl
  | true =>
    (repeat' (first | refine X.rq ?_ | (refine X.rc ?_ ?_ <;> intro hc <;> first | (exfalso; omega) | skip)))
    refine K.l_callV (Fx.cal rfl) rfl (RefName h1 name hn) (K.pp [] rfl) rfl rfl ?_
    simp only [List.nil_append]
    cases hnb : nameB name.data.toList with
    | false =>
      have hq : addTabQ s name cols head = (zSch, 0, 1) := by rw [addTabQ, if_pos (by rw [hnb]; simp)]
      (repeat' (first | refine X.rq ?_ | (refine X.rc ?_ ?_ <;> intro hc <;> first | (exfalso; omega) | skip)))
      refine X.stw ?_
      simp only [List.set_cons_zero, List.set_cons_succ, List.eraseIdx_cons_zero, List.eraseIdx_cons_succ, List.cons_append, List.nil_append]
      (repeat' (first | refine X.rq ?_ | (refine X.rc ?_ ?_ <;> intro hc <;> first | (exfalso; omega) | skip)))
      exact bad 1 h1 _ [_] hq hle1 rfl rfl rfl
    | true =>
      (repeat' (first | refine X.rq ?_ | (refine X.rc ?_ ?_ <;> intro hc <;> first | (exfalso; omega) | skip)))
      refine K.l_callV (Fx.cal rfl) rfl (RefMay h1 _ cols (hv.le hle1) hcw (Nat.le_trans hcl (by decide))) (K.pp [] rfl) rfl rfl ?_
      simp only [List.nil_append]
      cases hmb : mayB cols with
      | false =>
        have hq : addTabQ s name cols head = (zSch, 0, 1) := by rw [addTabQ, if_pos (by rw [hmb]; simp)]
        (repeat' (first | refine X.rq ?_ | (refine X.rc ?_ ?_ <;> intro hc <;> first | (exfalso; omega) | skip)))
        refine X.stw ?_
        simp only [List.set_cons_zero, List.set_cons_succ, List.eraseIdx_cons_zero, List.eraseIdx_cons_succ, List.cons_append, List.nil_append]
        (repeat' (first | refine X.rq ?_ | (refine X.rc ?_ ?_ <;> intro hc <;> first | (exfalso; omega) | skip)))
        exact bad 1 h1 _ [_] hq hle1 rfl rfl rfl
      | true =>
        (repeat' (first | refine X.rq ?_ | (refine X.rc ?_ ?_ <;> intro hc <;> first | (exfalso; omega) | skip)))
        refine K.l_call (Fx.cal rfl) rfl (RTaken h1 _ s head (hs'.le hle1) hw) (K.pp [] rfl) rfl ?_
        rintro u h2 H' hle2 ⟨rfl, rfl⟩
        have hle2 := hle1.trans hle2
        simp only [List.set_cons_zero, List.set_cons_succ, List.eraseIdx_cons_zero, List.eraseIdx_cons_succ, List.cons_append, List.nil_append]
        by_cases htk : head ∈ pagesQ s ∨ head = 0
        · have hq : addTabQ s name cols head = (zSch, 0, 1) := by rw [addTabQ, if_pos (fun h => h.2.2.2 htk)]
          rw [decide_eq_true htk]
          (repeat' (first | refine X.rq ?_ | (refine X.rc ?_ ?_ <;> intro hc <;> first | (exfalso; omega) | skip)))
          refine X.stw ?_
          simp only [List.set_cons_zero, List.set_cons_succ, List.eraseIdx_cons_zero, List.eraseIdx_cons_succ, List.cons_append, List.nil_append]
          (repeat' (first | refine X.rq ?_ | (refine X.rc ?_ ?_ <;> intro hc <;> first | (exfalso; omega) | skip)))
          exact bad 1 h2 _ [_] hq hle2 rfl rfl rfl
        · rw [decide_eq_false htk]
          have hq0 : addTabQ s name cols head = if (s.tabs.find? fun t => decide (t.name = name)).isSome then (zSch, 0, 200)
              else if s.tabs.length = 32 ∨ lastT s.tabs = 4294967295 then (zSch, 0, 4)
              else (⟨s.tabs ++ [⟨lastT s.tabs + 1, name, cols, head⟩], s.idxs⟩, lastT s.tabs + 1, 0) := by rw [addTabQ, if_neg (fun h => h ⟨hm, hnb, hmb, htk⟩)]
          (repeat' (first | refine X.rq ?_ | (refine X.rc ?_ ?_ <;> intro hc <;> first | (exfalso; omega) | skip)))
          refine K.l_call (Fx.cal rfl) rfl (RNamed h2 _ s name (hs'.le hle2) hw) (K.pp [] rfl) rfl ?_
          rintro u h' H' - ⟨e, rfl, c3, rfl, hc3⟩
          obtain rfl := e.symm
          simp only [List.set_cons_zero, List.set_cons_succ, List.eraseIdx_cons_zero, List.eraseIdx_cons_succ, List.cons_append, List.nil_append]
          generalize (s.tabs.find? fun t => decide (t.name = name)) = o at hq0 hc3 ⊢
          obtain ⟨v3, rfl, hv3⟩ := hc3
          obtain ⟨a3, c3, rfl⟩ := hv3.len
          (repeat' (first | refine X.rq ?_ | (refine X.rc ?_ ?_ <;> intro hc <;> first | (exfalso; omega) | skip)))
          refine K.l_alloc (Fx.zr rfl) rfl rfl (fun B11 => ?_)
          refine X.stw ?_
          simp only [List.set_cons_zero, List.set_cons_succ, List.eraseIdx_cons_zero, List.eraseIdx_cons_succ, List.cons_append, List.nil_append]
          cases o with
          | some t =>
            rw [if_pos (by simp)] at hq0
            simp only [Option.isSome_some]
            (repeat' (first | refine X.rq ?_ | (refine X.rc ?_ ?_ <;> intro hc <;> first | (exfalso; omega) | skip)))
            refine X.stw ?_
            simp only [List.set_cons_zero, List.set_cons_succ, List.eraseIdx_cons_zero, List.eraseIdx_cons_succ, List.cons_append, List.nil_append]
            (repeat' (first | refine X.rq ?_ | (refine X.rc ?_ ?_ <;> intro hc <;> first | (exfalso; omega) | skip)))
            refine K.AT.perm (K.pp [1] rfl) ?_
            simp only [List.set_cons_zero, List.set_cons_succ, List.eraseIdx_cons_zero, List.eraseIdx_cons_succ, List.cons_append, List.nil_append]
            exact bad 200 h2 _ [_, _] hq0 hle2 rfl rfl rfl
          | none =>
            rw [if_neg (by simp)] at hq0
            simp only [Option.isSome_none]
            have h32 := (may0 hm).lt
            have hpw := (may0 hm).tid
            (repeat' (first | refine X.rq ?_ | (refine X.rc ?_ ?_ <;> intro hc <;> first | (exfalso; omega) | skip)))
            refine K.c_loop (σ := Nat) (fun j => [(1, .string name), (2, .slice av cols.length cv), (3, .int .u32 head), (4, .pointer (some ⟨BS, 0, none⟩)), (8, .pointer (some ⟨BR, 0, none⟩)), (13, .int .u32 (lastT (s.tabs.take j))), (14, .int .i64 j)]) (fun _ => h2)
              (fun _ => blk B11 37 (cTab zTab (.slice a3 (List.map cC zTab.cols).length c3)) :: blk BR 25 [.slice none 0 0, .slice none 0 0] :: blk BS 25 [.slice ao s.tabs.length ca, .slice ai s.idxs.length ci] :: F)
              (fun j => j ≤ s.tabs.length) (fun j => s.tabs.length - j) 0 (Nat.zero_le _) (by repeat (first | exact K.Sub.nil _ | refine K.Sub.cons rfl ?_)) rfl rfl ?_
            rintro j hj KL hKL
            by_cases hjl : j < s.tabs.length
            · have hx1 : s.tabs[j]? = some s.tabs[j] := List.getElem?_eq_getElem hjl
              generalize s.tabs[j] = t at hx1
              obtain ⟨hl1, hl2⟩ := lastT_step hpw hx1
              obtain ⟨c, hc0, v1, rfl, hcv1⟩ := ht.get hx1
              obtain ⟨bb, oo, rfl, hcx⟩ := (hvt.le hle2).at hc0
              (repeat' (first | refine X.rq ?_ | (refine X.rc ?_ ?_ <;> intro hc <;> first | (exfalso; omega) | skip)))
              refine K.s_pure (K.p_load (v := .int .u32 t.id) (Fx.agg rfl) rfl (Cels.up hcx).1) rfl ?_
              refine K.s_pure (K.p_max (c := (t.id : Int)) rfl rfl (by omega)) rfl ?_
              (repeat' (first | refine X.rq ?_ | (refine X.rc ?_ ?_ <;> intro hc <;> first | (exfalso; omega) | skip)))
              refine K.a_round hKL (j + 1) (by omega) (by rw [hl1]; exact (by repeat (first | exact K.Sub.nil _ | refine K.Sub.cons rfl ?_))) rfl rfl (by omega)
            · obtain rfl : j = s.tabs.length := by omega
              rw [List.take_length]
              generalize hla : lastT s.tabs = m at hq0 hlid
              by_cases hful : s.tabs.length = 32 ∨ m = 4294967295
              · rw [if_pos hful] at hq0
                (repeat' (first | refine X.rq ?_ | (refine X.rc ?_ ?_ <;> intro hc <;> first | (exfalso; omega) | skip)))
                all_goals first | (exfalso; omega) | skip
                all_goals
                  refine X.stw ?_
                  simp only [List.set_cons_zero, List.set_cons_succ, List.eraseIdx_cons_zero, List.eraseIdx_cons_succ, List.cons_append, List.nil_append]
                  (repeat' (first | refine X.rq ?_ | (refine X.rc ?_ ?_ <;> intro hc <;> first | (exfalso; omega) | skip)))
                  refine K.AT.perm (K.pp [1] rfl) ?_
                  simp only [List.set_cons_zero, List.set_cons_succ, List.eraseIdx_cons_zero, List.eraseIdx_cons_succ, List.cons_append, List.nil_append]
                  exact bad 4 h2 _ [_, _] hq0 hle2 rfl rfl rfl
              · rw [if_neg hful] at hq0
                (repeat' (first | refine X.rq ?_ | (refine X.rc ?_ ?_ <;> intro hc <;> first | (exfalso; omega) | skip)))
                all_goals first | (exfalso; omega) | skip
                refine K.l_call (Fx.cal rfl) rfl (RCopy h2 _ s (hs'.le hle2) hw) (K.pp [] rfl) rfl ?_
                rintro u h4 H' hle4 ⟨oa, ok, oa2, ok2, es, es2, rfl, hes, hes2, rfl⟩
                simp only [List.set_cons_zero, List.set_cons_succ, List.eraseIdx_cons_zero, List.eraseIdx_cons_succ, List.cons_append, List.nil_append]
                (repeat' (first | refine X.rq ?_ | (refine X.rc ?_ ?_ <;> intro hc <;> first | (exfalso; omega) | skip)))
                refine K.l_alloc (Fx.zr rfl) rfl rfl (fun BO => ?_)
                refine X.stw ?_
                simp only [List.set_cons_zero, List.set_cons_succ, List.eraseIdx_cons_zero, List.eraseIdx_cons_succ, List.cons_append, List.nil_append]
                (repeat' (first | refine X.rq ?_ | (refine X.rc ?_ ?_ <;> intro hc <;> first | (exfalso; omega) | skip)))
                refine X.draw ([blk BO 25 [bufV oa s.tabs.length ok, bufV oa2 s.idxs.length ok2]]) [13] (.pu 0 (.pu 2 (.pu 3 (.pu 4 (.pu 6 (.pu 8 (.st 1 (.on 5 (.on 7 (.pu 9 (.on 10 (.on 11 (.pu 12 (.cl 13 .nil)))))))))))))) ?_ (hQ := by repeat (first | with_reducible refine K.NoPanic.then ?_ | with_reducible refine K.NoPanic.inBlock ?_ | with_reducible exact K.post_noPanic _ _ | exact K.post_noPanic _ _))
                refine K.d_pu rfl (fun _ _ => X.fa) rfl ?_
                refine K.d_pu rfl (fun _ _ => X.mv) rfl ?_
                refine K.d_pu rfl (fun _ _ => K.p_add (c := ((m + 1 : Nat) : Int)) rfl rfl (by rw [K.wr_u32 (by omega) (by omega)]; omega)) rfl ?_
                refine K.d_pu rfl (fun _ _ => X.mv) rfl ?_
                refine K.d_pu rfl (fun _ _ => X.mv) rfl ?_
                refine K.d_pu rfl (fun _ _ => X.mv) rfl ?_
                refine K.d_st rfl X.ld rfl ?_
                refine K.d_on rfl (fun KK hKK => ?_)
                refine K.l_buildSlice (Fx.und rfl) (Fx.sz rfl) rfl (Fx.zr rfl) rfl rfl rfl rfl rfl (fun B0 => ?_)
                refine K.WL.bufOf (m := 0) (s := 3) rfl (by unfold maxLen; omega) ?_
                refine K.l_nil ?_
                refine X.onE hKK ?_
                refine K.d_on rfl (fun KK hKK => ?_)
                refine K.l_append_at 0 rfl (Fx.und rfl) (Fx.und rfl) rfl (Fx.sz rfl) (Fx.zr rfl) rfl (Fx.byt rfl) rfl rfl (hsrc _ _ (hle2.trans hle4)) (by omega) (by omega) rfl (fun a5 k5 => ?_)
                simp only [List.set_cons_zero, List.set_cons_succ, List.eraseIdx_cons_zero, List.eraseIdx_cons_succ, List.cons_append, List.nil_append]
                simp only [Nat.zero_add, cellsL, List.nil_append]
                rw [← hlc]
                refine K.WL.freezeRow (three _) (fun h5 hle5 hs5 _ => ?_)
                refine K.l_nil ?_
                refine X.onE hKK ?_
                refine K.d_pu rfl (fun _ _ => X.bd) rfl ?_
                refine K.d_on rfl (fun KK hKK => ?_)
                refine X.bs (fun B => ?_)
                refine K.l_nil ?_
                refine X.onE hKK ?_
                refine K.d_on rfl (fun KK hKK => ?_)
                refine K.l_append_at 2 rfl (Fx.und rfl) (Fx.und rfl) rfl (Fx.sz rfl) (Fx.zr rfl) rfl (Fx.byt rfl) rfl rfl (K.src_cells (K.cels_own (pre := []) (cs := cTab ⟨(m + 1), name, cols, head⟩ (bufV a5 (cols.map cC).length k5)) (post := []) 0 rfl rfl) rfl (by simp [oneCell, cTab, bufV])) (by omega) (by omega) rfl (fun a6 k6 => ?_)
                simp only [List.set_cons_zero, List.set_cons_succ, List.eraseIdx_cons_zero, List.eraseIdx_cons_succ, List.cons_append, List.nil_append]
                refine K.l_nil ?_
                refine X.onE hKK ?_
                refine K.d_pu rfl (fun _ _ => X.fa) rfl ?_
                refine K.d_cl rfl (fun KK hKK => ?_)
                refine X.sto ?_
                simp only [List.set_cons_zero, List.set_cons_succ, List.eraseIdx_cons_zero, List.eraseIdx_cons_succ, List.cons_append, List.nil_append]
                refine K.l_nil ?_
                refine K.d_clE hKK ?_
                refine K.d_nil ?_
                (repeat' (first | refine X.rq ?_ | (refine X.rc ?_ ?_ <;> intro hc <;> first | (exfalso; omega) | skip)))
                refine X.stw ?_
                simp only [List.set_cons_zero, List.set_cons_succ, List.eraseIdx_cons_zero, List.eraseIdx_cons_succ, List.cons_append, List.nil_append]
                (repeat' (first | refine X.rq ?_ | (refine X.rc ?_ ?_ <;> intro hc <;> first | (exfalso; omega) | skip)))
                have hle25 := hle2.trans (hle4.trans hle5)
                have hee : Each (TabC h5) (es ++ [cTab ⟨m + 1, name, cols, head⟩ (bufV a5 (cols.map cC).length k5)]) (s.tabs ++ [⟨m + 1, name, cols, head⟩]) := Each.snoc (hes.mono fun x c hc => hc.le hle5) ⟨_, rfl, hs5⟩
                refine K.AT.perm (K.pp [2] rfl) (AT.freezeRowN (es := es ++ [cTab ⟨m + 1, name, cols, head⟩ (bufV a5 (cols.map cC).length k5)]) (by simp) (by simp [hes.len]) (Each.all hee fun x c hc => hc.four) (fun h6 hle6 hs6 => ?_))
                simp only [List.set_cons_zero, List.set_cons_succ, List.eraseIdx_cons_zero, List.eraseIdx_cons_succ, List.cons_append, List.nil_append]
                refine K.AT.perm (K.pp [2] rfl) (AT.freezeRowN (es := es2) rfl hes2.len.symm (Each.all hes2 fun x c hc => hc.six) (fun h7 hle7 hs7 => ?_))
                rw [hq0]
                refine K.doneC (.inl rfl) (.cell rfl (Fx.agg rfl) (Fx.sz rfl) (K.cels_own (pre := []) (post := []) 3 rfl rfl) (.tmp rfl (.tmp rfl .nil))) (hle25.trans (hle6.trans hle7)) (vs := [.agg [bufV a6 (s.tabs.length + 1) k6, bufV oa2 s.idxs.length ok2].toArray, .int .u32 (m + 1), eV 0]) (D := [_, _, _, _, _]) (H' := []) rfl ⟨rfl, _, rfl, _, _, _, _, rfl, hs6.le hle7, hee.mono fun x c hc => hc.le (hle6.trans hle7), hs7, hes2.mono fun x c hc => hc.le (hle5.trans (hle6.trans hle7))⟩
end Go.Proofs.YtdjacjhojbkgjaaGreat.Ct
