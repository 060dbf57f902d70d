/-
  Trees of pages: the first entry told, both. Conditions: each theorem's own.
-/
import Derived.Test.YtahdbncfegedjaaXg

namespace Go.Proofs.Ytahdbncfegedjaa.Nd
open Go Go.K Go.Proofs Go.Proofs.Ytahdbncfegedjaa Go.Proofs.Ytahdbncfegedjaa.Pg
set_option linter.unusedVariables false
set_option linter.unusedSimpArgs false
set_option maxRecDepth 10000

def SeekR (r : Except Int (Nat × Int)) (v : Value) : Prop := ∃ (n : Nat) (i e : Int), v = .tuple #[uV n, .int .i64 i, .int .i64 e] ∧ n < 4294967296 ∧ ((e = 0 ∧ r = .ok (n, i)) ∨ (r = .error e ∧ n = 0 ∧ i = 0))
set_option maxHeartbeats 1000000 in
theorem Seek (h : Base) (gv : Value) (G : Option GetQ) (root : Nat) (s : List UInt8) (hg : GetV h gv G) (hroot : root < 4294967296) :
    Tr Try.prog 12 [gv, uV root, txt s] h [] (fun v h' H' => H' = [] ∧ SeekR (seekQ G root s) v) := by
  refine K.enter Try.func12 rfl (Nat.le_of_ble_eq_true rfl) (fun F => ?_)
  have h1 := hg.one
  (repeat' (first | refine X.rq ?_ | (refine X.rc ?_ ?_ <;> intro hc <;> first | (exfalso; omega) | skip)))
  refine K.l_box rfl h1 rfl (fun B0 => ?_)
  refine K.l_box rfl rfl rfl (fun B1 => ?_)
  refine K.l_box rfl rfl rfl (fun B2 => ?_)
  simp only [List.set_cons_zero, List.set_cons_succ, List.eraseIdx_cons_zero, List.eraseIdx_cons_succ, List.cons_append, List.nil_append]
  (repeat' (first | refine X.rq ?_ | (refine X.rc ?_ ?_ <;> intro hc <;> first | (exfalso; omega) | skip)))
  · have h0 : root = 0 := by omega
    exact K.doneC (vs := [uV 0, .int .i64 0, .int .i64 1]) (by first | exact Or.inl rfl | exact Or.inr rfl) (.tmp rfl (.tmp rfl (.tmp rfl .nil))) (K.Base.le.refl _) (D := [_, _, _]) (H' := []) rfl ⟨rfl, 0, 0, 1, rfl, by decide, .inr ⟨by rw [seekQ, if_pos h0], rfl, rfl⟩⟩
  have h0 : ¬ root = 0 := by omega
  have hq : seekQ G root s = seekW G root s := by rw [seekQ, if_neg h0]
  refine K.s_pure (K.p_makeFunc rfl) rfl ?_
  have ht := TryP h 30 _ _ _ _ (Fx.cal rfl) (fun r u h' H' hr => ⟨_, _, hr.2.2⟩) (SeekC h gv G root s B0 B1 B2 hg hroot)
  refine K.l_call (F := F) (Fx.cal rfl) rfl ht (K.pp [2, 1, 0] rfl) rfl ?_
  rintro v h' H' hle (⟨⟨n, i⟩, u, hr, rfl, rfl, hn, rfl⟩ | ⟨e, hr, rfl, rfl⟩)
  · simp only [List.set_cons_zero, List.set_cons_succ, List.eraseIdx_cons_zero, List.eraseIdx_cons_succ, List.cons_append, List.nil_append]
    (repeat' (first | refine X.rq ?_ | (refine X.rc ?_ ?_ <;> intro hc <;> first | (exfalso; omega) | skip)))
    refine K.l_alloc (Fx.zr rfl) rfl rfl (fun B9 => ?_)
    refine X.stw ?_
    simp only [List.set_cons_zero, List.set_cons_succ, List.eraseIdx_cons_zero, List.eraseIdx_cons_succ, List.cons_append, List.nil_append]
    (repeat' (first | refine X.rq ?_ | (refine X.rc ?_ ?_ <;> intro hc <;> first | (exfalso; omega) | skip)))
    refine X.draw ([blk B9 67 (plV n i)]) [] (.pu 0 (.pu 2 (.pu 4 (.st 1 (.pu 5 (.st 3 (.pu 6 (.pu 7 .nil)))))))) ?_
    refine K.d_pu rfl (fun _ _ => X.fa) rfl ?_
    refine K.d_pu rfl (fun _ _ => X.fa) rfl ?_
    refine K.d_pu rfl (fun _ _ => X.mv) rfl ?_
    refine K.d_st rfl X.ld rfl ?_
    refine K.d_pu rfl (fun _ _ => X.sg) rfl ?_
    refine K.d_st rfl X.ld rfl ?_
    refine K.d_pu rfl (fun _ _ => X.sg) rfl ?_
    refine K.d_pu rfl (fun _ _ => X.sg) rfl ?_
    refine K.d_nil ?_
    (repeat' (first | refine X.rq ?_ | (refine X.rc ?_ ?_ <;> intro hc <;> first | (exfalso; omega) | skip)))
    exact K.doneC (vs := [uV n, .int .i64 i, .int .i64 0]) (by first | exact Or.inl rfl | exact Or.inr rfl) (.tmp rfl (.tmp rfl (.tmp rfl .nil))) hle (D := [_]) (H' := []) rfl ⟨rfl, n, i, 0, rfl, hn, .inl ⟨rfl, by rw [hq, hr]⟩⟩
  · simp only [List.set_cons_zero, List.set_cons_succ, List.eraseIdx_cons_zero, List.eraseIdx_cons_succ, List.cons_append, List.nil_append]
    (repeat' (first | refine X.rq ?_ | (refine X.rc ?_ ?_ <;> intro hc <;> first | (exfalso; omega) | skip)))
    refine K.l_alloc (Fx.zr rfl) rfl rfl (fun B9 => ?_)
    refine X.stw ?_
    simp only [List.set_cons_zero, List.set_cons_succ, List.eraseIdx_cons_zero, List.eraseIdx_cons_succ, List.cons_append, List.nil_append]
    (repeat' (first | refine X.rq ?_ | (refine X.rc ?_ ?_ <;> intro hc <;> first | (exfalso; omega) | skip)))
    refine X.draw ([blk B9 67 (plV 0 0)]) [] (.pu 0 (.pu 2 (.pu 4 (.st 1 (.pu 5 (.st 3 (.pu 6 (.pu 7 .nil)))))))) ?_
    refine K.d_pu rfl (fun _ _ => X.fa) rfl ?_
    refine K.d_pu rfl (fun _ _ => X.fa) rfl ?_
    refine K.d_pu rfl (fun _ _ => X.mv) rfl ?_
    refine K.d_st rfl X.ld rfl ?_
    refine K.d_pu rfl (fun _ _ => X.sg) rfl ?_
    refine K.d_st rfl X.ld rfl ?_
    refine K.d_pu rfl (fun _ _ => X.sg) rfl ?_
    refine K.d_pu rfl (fun _ _ => X.sg) rfl ?_
    refine K.d_nil ?_
    (repeat' (first | refine X.rq ?_ | (refine X.rc ?_ ?_ <;> intro hc <;> first | (exfalso; omega) | skip)))
    exact K.doneC (vs := [uV 0, .int .i64 0, .int .i64 e]) (by first | exact Or.inl rfl | exact Or.inr rfl) (.tmp rfl (.tmp rfl (.tmp rfl .nil))) hle (D := [_]) (H' := []) rfl ⟨rfl, 0, 0, e, rfl, by decide, .inr ⟨by rw [hq, hr], rfl, rfl⟩⟩
/-- An error is never nought. -/
def okG (G : Option GetQ) : Prop := ∀ g, G = some g → ∀ n e, g n = .error e → e ≠ 0
theorem okG_tree (t : PTree) : okG (some (treeG t)) := fun g hg n e he => by
  cases hg
  unfold treeG at he
  split at he
  · cases he; rename_i h; exact h.1
  · split at he
    · cases he
    · cases he; decide
theorem okG_none : okG none := fun g hg => by cases hg
theorem page_ne {G : Option GetQ} (hG : okG G) {n : Nat} {e : Int} (h : pageQ G n = .error e) : e ≠ 0 := by
  unfold pageQ at h
  split at h
  · cases h; decide
  · split at h
    · cases h; decide
    · rename_i g
      split at h
      · rename_i e' he'
        cases h
        exact hG g rfl n e he'
      · split at h
        · cases h
        · cases h; decide
theorem way_ne0 {G : Option GetQ} (hG : okG G) {s : List UInt8} : ∀ {k n : Nat} {e : Int}, wayQ G s k n = .error e → e ≠ 0
  | 0, n, e, h => by
    unfold wayQ at h
    split at h
    · rename_i e' he'; cases h; exact page_ne hG he'
    · split at h
      · cases h
      · cases h; decide
  | k + 1, n, e, h => by
    unfold wayQ at h
    split at h
    · rename_i e' he'; cases h; exact page_ne hG he'
    · split at h
      · cases h
      · dsimp only at h
        split at h
        · rename_i e' he'; cases h; exact way_ne0 hG he'
        · cases h
theorem seek_ne0 {G : Option GetQ} (hG : okG G) {s : List UInt8} : ∀ {k n : Nat} {e : Int}, seekL G s k n = .error e → e ≠ 0
  | k, n, e, h => by
    by_cases hn : n = 0
    · subst hn; rw [seek_nil] at h; cases h; decide
    · cases hp : pageQ G n with
      | error e' => rw [seek_err hn hp] at h; cases h; exact page_ne hG hp
      | ok p =>
        by_cases h2 : p.kind = 2 ∧ 0 < k
        · match k, h2, h with
          | k + 1, h2, h =>
            rw [seek_page hn hp h2.1] at h
            split at h
            · cases h
            · exact seek_ne0 hG h
        · rw [seek_kind hn hp h2] at h; cases h; decide
theorem last_at {l : List Nat} (hne : l ≠ []) : (l.map fun n => [uV n])[((l.length : Int) - 1).toNat]? = some [uV (l.getLastD 0)] := by
  have hl0 : 0 < l.length := List.length_pos_iff.2 hne
  rw [List.getElem?_map, show ((l.length : Int) - 1).toNat = l.length - 1 by omega, ← List.getLast?_eq_getElem?, List.getLastD_eq_getLast?]
  cases hx : l.getLast? with
  | none => rw [List.getLast?_eq_none_iff] at hx; exact absurd hx hne
  | some x => rfl
theorem last_lt {l : List Nat} (h : ∀ x ∈ l, x < 4294967296) : l.getLastD 0 < 4294967296 := by
  rw [List.getLastD_eq_getLast?]
  cases hx : l.getLast? with
  | none => decide
  | some x => exact h x (List.mem_of_getLast? hx)
set_option maxHeartbeats 4000000 in
theorem RSeek (h : Base) (cs : List Value) (t : PTree) (root : Nat) (s : List UInt8) (hx : TreeC h cs t) (hroot : root < 4294967296) :
    Tr Try.prog 13 [.agg cs.toArray, uV root, txt s] h [] (fun v h' H' => H' = [] ∧ SeekR (seekQ (some (treeG t)) root s) v) := by
  have hx0 := hx
  obtain ⟨hb, he, hpl, pv, rfl, es, hv, hel, hr⟩ := hx
  obtain ⟨ao, ca, rfl⟩ := hv.len
  have fin : ∀ (h1 : Base) e, seekQ (some (treeG t)) root s = .error e → SeekR (seekQ (some (treeG t)) root s) (.tuple #[uV 0, .int .i64 0, .int .i64 e]) := fun _ e h => ⟨0, 0, e, rfl, by decide, .inr ⟨h, rfl, rfl⟩⟩
  refine K.enter Try.func13 rfl (Nat.le_of_ble_eq_true rfl) (fun F => ?_)
  (repeat' (first | refine X.rq ?_ | (refine X.rc ?_ ?_ <;> intro hc <;> first | (exfalso; omega) | skip)))
  refine K.l_box rfl rfl rfl (fun B3 => ?_)
  (repeat' (first | refine X.rq ?_ | (refine X.rc ?_ ?_ <;> intro hc <;> first | (exfalso; omega) | skip)))
  · have h0 : root = 0 := by omega
    exact K.doneC (vs := [uV 0, .int .i64 0, .int .i64 1]) (by first | exact Or.inl rfl | exact Or.inr rfl) (.tmp rfl (.tmp rfl (.tmp rfl .nil))) (K.Base.le.refl _) (D := [_]) (H' := []) rfl ⟨rfl, fin h 1 (by rw [seekQ, if_pos h0])⟩
  have h0 : ¬ root = 0 := by omega
  have hq : seekQ (some (treeG t)) root s = seekW (some (treeG t)) root s := by rw [seekQ, if_neg h0]
  refine K.l_call (Fx.cal rfl) rfl (RWay h _ t root s hx0 hroot) (K.pp [] rfl) rfl ?_
  rintro v h1 H' hle1 ⟨rfl, sv, l, e, rfl, hu, hr⟩
  obtain ⟨ao9, sc, rfl⟩ := hu.1.len
  rw [List.length_map] at hu ⊢
  have hl8 : l.length ≤ 8 := by
    rcases hr with ⟨_, hr⟩ | ⟨_, rfl⟩
    · exact way_len hr
    · decide
  simp only [List.set_cons_zero, List.set_cons_succ, List.eraseIdx_cons_zero, List.eraseIdx_cons_succ, List.cons_append, List.nil_append]
  (repeat' (first | refine X.rq ?_ | (refine X.rc ?_ ?_ <;> intro hc <;> first | (exfalso; omega) | skip)))
  · have he0 : e ≠ 0 := by assumption
    obtain ⟨hr, _⟩ := hr.resolve_left (fun h => he0 h.1)
    exact K.doneC (vs := [uV 0, .int .i64 0, .int .i64 e]) (by first | exact Or.inl rfl | exact Or.inr rfl) (.tmp rfl (.tmp rfl (.tmp rfl .nil))) hle1 (D := [_]) (H' := []) rfl ⟨rfl, fin h1 e (by rw [hq, seekW, hr])⟩
  have he0 : e = 0 := Classical.not_not.1 (by assumption)
  obtain ⟨_, hwq⟩ := hr.resolve_right (fun h => absurd he0 (way_ne0 (okG_tree t) h.1))
  have hne := way_ne hwq
  have hl1 := way_len hwq
  have hl0 : 0 < l.length := List.length_pos_iff.2 hne
  have hsw : seekW (some (treeG t)) root s = seekL (some (treeG t)) s 8192 (l.getLastD 0) := by rw [seekW, hwq]
  refine K.s_pureE (K.p_indexL hu.1 (Fx.und rfl) (Fx.sz rfl) rfl rfl (by omega) (last_at hne)) rfl ?_
  rintro v2 ⟨b, o, rfl, hcel⟩
  refine K.s_pure (K.p_load (Fx.agg rfl) rfl (Cels.up (K := blk B3 26 (cT t (.slice ao es.length ca)) :: F) hcel).1) rfl ?_
  (repeat' (first | refine X.rq ?_ | (refine X.rc ?_ ?_ <;> intro hc <;> first | (exfalso; omega) | skip)))
  refine K.c_loop (σ := SeS) (fun q => [(2, txt s), (3, .pointer (some ⟨B3, 0, none⟩)), (11, uV q.n), (12, .int .i64 q.i)]) (fun _ => h1) (fun q => blk B3 26 (cT t (.slice ao es.length ca)) :: F)
    (fun q => q.n < 4294967296 ∧ q.i ≤ 8192 ∧ seekW (some (treeG t)) root s = seekL (some (treeG t)) s (8192 - q.i) q.n) (fun q => 8193 - q.i) ⟨l.getLastD 0, 0⟩ ⟨last_lt hu.2, Nat.zero_le _, hsw⟩ (by repeat (first | exact K.Sub.nil _ | refine K.Sub.cons rfl ?_)) rfl rfl ?_
  clear hsw hcel
  rintro ⟨n, i⟩ ⟨hn, hi, hsw⟩ KL hKL
  simp only at hn hi hsw ⊢
  by_cases hn0 : n = 0
  · subst hn0
    (repeat' (first | refine X.rq ?_ | (refine X.rc ?_ ?_ <;> intro hc <;> first | (exfalso; omega) | skip)))
    exact K.doneC (vs := [uV 0, .int .i64 0, .int .i64 6]) (by first | exact Or.inl rfl | exact Or.inr rfl) (.tmp rfl (.tmp rfl (.tmp rfl .nil))) hle1 (D := [_]) (H' := []) rfl ⟨rfl, fin h1 6 (by rw [hq, hsw, seek_nil])⟩
  (repeat' (first | refine X.rq ?_ | (refine X.rc ?_ ?_ <;> intro hc <;> first | (exfalso; omega) | skip)))
  refine K.l_call (Fx.cal rfl) rfl (RPage h1 _ t n (hx0.le hle1) hn) (K.pp [] rfl) rfl ?_
  rintro u h' H' - ⟨e9, rfl, p, cs, er, rfl, hpc, her, hres⟩
  obtain rfl := e9.symm
  have hpc0 := hpc
  obtain ⟨hw, cv, rfl, ef, hsl, hel2, hcs⟩ := hpc
  obtain ⟨ao2, ca2, rfl⟩ := hsl.len
  rw [hel2] at hsl hpc0 ⊢
  (repeat' (first | refine X.rq ?_ | (refine X.rc ?_ ?_ <;> intro hc <;> first | (exfalso; omega) | skip)))
  refine K.l_alloc (Fx.zr rfl) rfl rfl (fun B13 => ?_)
  refine X.stw ?_
  simp only [List.set_cons_zero, List.set_cons_succ, List.eraseIdx_cons_zero, List.eraseIdx_cons_succ, List.cons_append, List.nil_append]
  (repeat' (first | refine X.rq ?_ | (refine X.rc ?_ ?_ <;> intro hc <;> first | (exfalso; omega) | skip)))
  · have e0 : er ≠ 0 := by assumption
    obtain ⟨_, e2⟩ := hres.resolve_left (fun h => e0 h.1)
    exact K.doneC (vs := [uV 0, .int .i64 0, .int .i64 er]) (by first | exact Or.inl rfl | exact Or.inr rfl) (.tmp rfl (.tmp rfl (.tmp rfl .nil))) hle1 (D := [_, _]) (H' := []) rfl ⟨rfl, fin h1 er (by rw [hq, hsw, seek_err hn0 e2])⟩
  all_goals
    have e0 : er = 0 := Classical.not_not.1 (by assumption)
    obtain ⟨_, hpq⟩ := hres.resolve_right (fun h => h.1 e0)
  · have hk : ¬ p.kind = 2 := by assumption
    exact K.doneC (vs := [uV 0, .int .i64 0, .int .i64 5]) (by first | exact Or.inl rfl | exact Or.inr rfl) (.tmp rfl (.tmp rfl (.tmp rfl .nil))) hle1 (D := [_, _]) (H' := []) rfl ⟨rfl, fin h1 5 (by rw [hq, hsw, seek_kind hn0 hpq (fun h => hk h.1)])⟩
  · have hk : ((i : Nat) : Int) ≥ 8192 := by assumption
    exact K.doneC (vs := [uV 0, .int .i64 0, .int .i64 5]) (by first | exact Or.inl rfl | exact Or.inr rfl) (.tmp rfl (.tmp rfl (.tmp rfl .nil))) hle1 (D := [_, _]) (H' := []) rfl ⟨rfl, fin h1 5 (by rw [hq, hsw, seek_kind hn0 hpq (by omega)])⟩
  have hk : p.kind = 2 := Classical.not_not.1 (by assumption)
  have hi2 : i < 8192 := by omega
  rw [show 8192 - i = (8192 - (i + 1)) + 1 by omega, seek_page hn0 hpq hk] at hsw
  have hln := hw.len
  refine K.c_loop (σ := Nat) (fun j => [(2, txt s), (3, .pointer (some ⟨B3, 0, none⟩)), (11, uV n), (12, .int .i64 i), (13, .pointer (some ⟨B13, 0, none⟩)), (15, .int .i64 j)]) (fun _ => h1) (fun _ => blk B13 55 (cP p (.slice ao2 p.cells.length ca2)) :: blk B3 26 (cT t (.slice ao es.length ca)) :: F)
    (fun j => j ≤ p.cells.length ∧ ∀ (i : Nat) y, i < j → p.cells[i]? = some y → (!lt8 y.data s) = false) (fun j => p.cells.length - j) 0 ⟨Nat.zero_le _, fun i y hi => by omega⟩ (by repeat (first | exact K.Sub.nil _ | refine K.Sub.cons rfl ?_)) rfl rfl ?_
  rintro j ⟨hj, hno⟩ KM hKM
  by_cases hjl : j < p.cells.length
  · have hc1 : ef[j]? = some (ef[j]'(by omega)) := List.getElem?_eq_getElem (by omega)
    have hc0 : ef[((j : Nat) : Int).toNat]? = some (ef[j]'(by omega)) := by rw [Int.toNat_natCast]; exact hc1
    have he1 : p.cells[j]? = some p.cells[j] := List.getElem?_eq_getElem hjl
    generalize ef[j]'(by omega) = c at hc0 hc1
    generalize p.cells[j] = x at he1
    obtain ⟨hkl, hdl, ao3, ca3, rfl, hbv⟩ := hcs j c x hc1 he1
    (repeat' (first | refine X.rq ?_ | (refine X.rc ?_ ?_ <;> intro hc <;> first | (exfalso; omega) | skip)))
    refine K.s_pureE (K.p_indexL hsl (Fx.und rfl) (Fx.sz rfl) rfl rfl (by omega) hc0) rfl ?_
    rintro v2 ⟨b, o, rfl, hcel⟩
    have hq1 := (Cels.up (K := blk B13 55 (cP p (.slice ao2 p.cells.length ca2)) :: blk B3 26 (cT t (.slice ao es.length ca)) :: F) hcel).2.2.1
    (repeat' (first | refine X.rq ?_ | (refine X.rc ?_ ?_ <;> intro hc <;> first | (exfalso; omega) | skip)))
    refine K.s_pure (K.p_textB hbv (Fx.und rfl) (Fx.und rfl) (Fx.und rfl) rfl) rfl ?_
    refine K.s_pure (K.p_move rfl) rfl ?_
    refine K.s_pure (K.p_sgeq rfl rfl) rfl ?_
    rw [txt_lt]
    cases hb : lt8 x.data s with
    | false =>
      (repeat' (first | refine X.rq ?_ | (refine X.rc ?_ ?_ <;> intro hc <;> first | (exfalso; omega) | skip)))
      rw [findIdx_at he1 (by rw [hb]; rfl) hno] at hsw
      exact K.doneC (vs := [uV n, .int .i64 j, .int .i64 0]) (by first | exact Or.inl rfl | exact Or.inr rfl) (.tmp rfl (.tmp rfl (.tmp rfl .nil))) hle1 (D := [_, _]) (H' := []) rfl ⟨rfl, n, j, 0, rfl, hn, .inl ⟨rfl, by rw [hq, hsw]⟩⟩
    | true =>
      (repeat' (first | refine X.rq ?_ | (refine X.rc ?_ ?_ <;> intro hc <;> first | (exfalso; omega) | skip)))
      refine K.a_round hKM (j + 1) ⟨by omega, fun i y hi hy => ?_⟩ (by repeat (first | exact K.Sub.nil _ | refine K.Sub.cons rfl ?_)) rfl rfl (by omega)
      by_cases hij : i < j
      · exact hno i y hij hy
      · obtain rfl : i = j := by omega
        rw [he1] at hy; cases hy; rw [hb]; rfl
  · obtain rfl : j = p.cells.length := by omega
    rw [findIdx_no fun i y hy => hno i y (List.getElem?_eq_some_iff.1 hy).1 hy] at hsw
    (repeat' (first | refine X.rq ?_ | (refine X.rc ?_ ?_ <;> intro hc <;> first | (exfalso; omega) | skip)))
    refine K.AT.drop ?_
    refine K.a_round hKL ⟨p.next, i + 1⟩ ⟨hw.next, by dsimp only; omega, hsw⟩ (by repeat (first | exact K.Sub.nil _ | refine K.Sub.cons rfl ?_)) rfl rfl (by dsimp only; omega)
end Go.Proofs.Ytahdbncfegedjaa.Nd
