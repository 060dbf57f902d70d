/-
  A schema's rows, one behind the other: the code's iterator, the rows collected. Conditions: each theorem's own.
-/
import Derived.Test.YtdjacjhojbkgjaaGreatQ23
namespace Go.Proofs.YtdjacjhojbkgjaaGreat.Ct
open Go Go.K Go.Proofs Go.Proofs.YtdjacjhojbkgjaaGreat Go.Proofs.YtdjacjhojbkgjaaGreat.Rw
set_option linter.unusedVariables false
set_option linter.unusedSimpArgs false
set_option maxRecDepth 10000

def tabRow (t : PTab) : List Val := [vN 1, vN t.id, vZ, vT t.name, vN t.head, vZ]
def colRow (t : PTab) (i : Nat) (c : Col) : List Val := [vN 2, vN t.id, vN i, vT c.name, vN c.kind, vB c.need]
def idxRow (x : PIdx) : List Val := [vN 3, vN x.id, vN x.table, vT x.name, vN x.root, vB x.uniq]
def keyRow (x : PIdx) (i : Nat) (n : Int) : List Val := [vN 4, vN x.id, vN i, vZ, vN n, vZ]
def tabRows (t : PTab) : List (List Val) := tabRow t :: t.cols.mapIdx (colRow t)
def idxRows (x : PIdx) : List (List Val) := idxRow x :: x.cols.mapIdx (keyRow x)
def rowsQ (s : PSch) : List (List Val) := s.tabs.flatMap tabRows ++ s.idxs.flatMap idxRows
def EncR (h : Base) (r : List Val) (args : List Value) : Prop := ∃ v, args = [v] ∧ SL h 3 v (r.map cV)
theorem flat_take {α β : Type} {l : List α} {j : Nat} {x : α} (hx : l[j]? = some x) (f : α → List β) : (l.take (j + 1)).flatMap f = (l.take j).flatMap f ++ f x := by
  rw [(take_at hx).1, List.flatMap_append]
  simp
theorem pre_flat {α β : Type} {l : List α} {j : Nat} {x : α} (hx : l[j]? = some x) (f : α → List β) (q r : List β) : q ++ (l.take j).flatMap f ++ f x <+: q ++ l.flatMap f ++ r := by
  obtain ⟨_, rest, e⟩ := take_at hx
  refine ⟨rest.flatMap f ++ r, ?_⟩
  conv => rhs; rw [e]
  simp
theorem pre_at {α : Type} {pre l X : List α} {k : Nat} {x : α} (h : pre ++ l <+: X) (hx : l[k]? = some x) : (pre ++ l.take k) ++ [x] <+: X := by
  obtain ⟨e, rest, e2⟩ := take_at hx
  obtain ⟨t, ht⟩ := h
  refine ⟨rest ++ t, ?_⟩
  rw [← ht]
  conv => rhs; rw [e2]
  simp
theorem pre_tab {s : PSch} {j : Nat} {t : PTab} (hx : s.tabs[j]? = some t) : (s.tabs.take j).flatMap tabRows ++ tabRows t <+: rowsQ s := by
  have := pre_flat hx tabRows [] (s.idxs.flatMap idxRows)
  simpa [rowsQ] using this
theorem pre_idx {s : PSch} {j : Nat} {x : PIdx} (hx : s.idxs[j]? = some x) : s.tabs.flatMap tabRows ++ (s.idxs.take j).flatMap idxRows ++ idxRows x <+: rowsQ s := by
  have := pre_flat hx idxRows (s.tabs.flatMap tabRows) []
  simpa [rowsQ] using this
theorem tab_at {t : PTab} {k : Nat} {c : Col} (hc : t.cols[k]? = some c) : (tabRows t)[k + 1]? = some (colRow t k c) := by
  simp [tabRows, hc]
theorem idx_at {x : PIdx} {k : Nat} {n : Int} (hc : x.cols[k]? = some n) : (idxRows x)[k + 1]? = some (keyRow x k n) := by
  simp [idxRows, hc]
theorem tab_all {t : PTab} : (tabRows t).take (t.cols.length + 1) = tabRows t := List.take_of_length_le (by simp [tabRows])
theorem idx_all {x : PIdx} : (idxRows x).take (x.cols.length + 1) = idxRows x := List.take_of_length_le (by simp [idxRows])
theorem threeV (l : List Val) : ∀ e ∈ l.map cV, e.length = 3 := fun e he => by
  obtain ⟨x, _, rfl⟩ := List.mem_map.1 he
  rfl
set_option maxHeartbeats 4000000 in
theorem AllI (h0 : Base) (cs : List Value) (s : PSch) (B1 : Nat) (hs : SchC h0 s cs) (hw : wfS s) :
    IterK Tryz.prog 72 [.pointer (some ⟨B1, 0, none⟩)] EncR h0 [blk B1 25 cs] (rowsQ s) := by
  intro l J Jx hJ hJx hY F A w h hle hJ0 ok
  obtain ⟨vt, vi, ts, is, rfl, hvt, ht, hvi, hi⟩ := hs.le hle
  obtain ⟨ao, ca, rfl⟩ := hvt.len
  rw [ht.len] at hvt ok ⊢
  obtain ⟨ai, ci, rfl⟩ := hvi.len
  rw [hi.len] at hvi ok ⊢
  have hlt := hw.lt
  have hli := hw.li
  refine K.iter_enter (l := l) (lb := [.pointer (some ⟨B1, 0, none⟩)]) (X := fun w' => ∃ h' A', h.le h' ∧ Ok h' ([blk B1 25 [.slice ao s.tabs.length ca, .slice ai s.idxs.length ci]] ++ A' :: F) w' ∧ (J (rowsQ s) h' A' ∨ ∃ pre, pre <+: rowsQ s ∧ Jx pre h' A')) Tryz.func72 rfl (Nat.le_of_ble_eq_true rfl) ?_ ok
  simp only [List.nil_append, List.cons_append]
  (repeat' (first | refine X.rq ?_ | (refine X.rc ?_ ?_ <;> intro hc <;> first | (exfalso; omega) | skip)))
  refine K.l_alloc (Fx.zr rfl) rfl rfl (fun BN => ?_)
  (repeat' (first | refine X.rq ?_ | (refine X.rc ?_ ?_ <;> intro hc <;> first | (exfalso; omega) | skip)))
  refine K.c_loop (σ := PgS) (fun s1 => [(0, .func (.yield l) #[] #[]), (1, .pointer (some ⟨B1, 0, none⟩)), (3, .pointer (some ⟨BN, 0, none⟩)), (13, .slice ao s.tabs.length ca), (14, .int .i64 s.tabs.length), (15, .int .i64 s1.j)]) (fun s1 => s1.hb) (fun s1 => blk BN 86 (cV vZ) :: blk B1 25 [.slice ao s.tabs.length ca, .slice ai s.idxs.length ci] :: s1.A :: F)
    (fun s1 => s1.j ≤ s.tabs.length ∧ h.le s1.hb ∧ J ((s.tabs.take s1.j).flatMap tabRows) s1.hb s1.A) (fun s1 => s.tabs.length - s1.j) ⟨0, h, A⟩ ⟨Nat.zero_le _, Base.le.refl _, hJ0⟩ (by repeat (first | exact K.Sub.nil _ | refine K.Sub.cons rfl ?_)) rfl rfl ?_
  rintro ⟨j, hb, A1⟩ ⟨hj, hle1, hjA⟩ KL hKL
  simp only at hj hle1 hjA ⊢
  by_cases hjl : j < s.tabs.length
  · have hx1 : s.tabs[j]? = some s.tabs[j] := List.getElem?_eq_getElem hjl
    have hwt : wfTb s.tabs[j] := hw.tabs _ (List.getElem_mem hjl)
    generalize s.tabs[j] = t at hx1 hwt
    have hpre := pre_tab hx1
    have hfl := flat_take hx1 tabRows
    obtain ⟨c, hc0, htc⟩ := ht.get hx1
    obtain ⟨v1, rfl, hcv⟩ := htc
    obtain ⟨av, cv, rfl⟩ := hcv.len
    obtain ⟨bb, oo, rfl, hcx⟩ := (hvt.le hle1).at hc0
    have hid := hwt.id
    have hhd := hwt.head
    (repeat' (first | refine X.rq ?_ | (refine X.rc ?_ ?_ <;> intro hc <;> first | (exfalso; omega) | skip)))
    refine K.s_pure (K.p_loadM (Fx.agg rfl) rfl (Cels.up hcx) (Fx.sz rfl) rfl) rfl ?_
    refine K.l_alloc (Fx.zr rfl) rfl rfl (fun B5 => ?_)
    refine X.stw ?_
    simp only [List.set_cons_zero, List.set_cons_succ, List.eraseIdx_cons_zero, List.eraseIdx_cons_succ, List.cons_append, List.nil_append]
    (repeat' (first | refine X.rq ?_ | (refine X.rc ?_ ?_ <;> intro hc <;> first | (exfalso; omega) | skip)))
    refine K.c_drawY 16 ([blk B5 37 (cTab t (.slice av (t.cols.map cC).length cv)), blk BN 86 (cV vZ)]) [] (.pu 0 (.pu 2 (.pu 7 (.pu 10 (.st 3 (.pu 4 (.st 6 (.st 8 (.st 11 (.pu 12 (.st 14 (.on 1 (.on 5 (.on 9 (.on 13 (.on 15 .nil)))))))))))))))) Fx.mixed (by kernel_rfl) (by repeat (first | with_reducible refine K.NoPanic.then ?_ | with_reducible refine K.NoPanic.inBlock ?_ | with_reducible exact K.post_noPanic _ _ | exact K.post_noPanic _ _)) (fun _ _ ⟨_, e, _⟩ => by cases e) (by kernel_rfl) (by first | exact K.suf_refl _ | exact K.suf_nil | exact K.suf_left _ _ | (repeat (first | exact K.suf_refl _ | exact K.suf_nil | refine K.suf_ins 0 rfl ?_ | refine K.suf_ins 1 rfl ?_ | refine K.suf_ins 2 rfl ?_ | refine K.suf_ins 3 rfl ?_ | refine K.suf_ins 4 rfl ?_ | refine K.suf_ins 5 rfl ?_ | refine K.suf_ins 6 rfl ?_ | refine K.suf_ins 7 rfl ?_ | refine K.suf_both ?_ | refine K.suf_cons ?_))) ?_
    refine K.d_pu rfl (fun _ _ => X.mv) rfl ?_
    refine K.d_pu rfl (fun _ _ => X.fa) rfl ?_
    refine K.d_pu rfl (fun _ _ => X.fa) rfl ?_
    refine K.d_pu rfl (fun _ _ => X.fa) rfl ?_
    refine K.d_st rfl X.ld rfl ?_
    refine K.d_pu rfl (fun _ _ => X.cv) rfl ?_
    refine K.d_st rfl X.ld rfl ?_
    refine K.d_st rfl X.ld rfl ?_
    refine K.d_st rfl X.ld rfl ?_
    refine K.d_pu rfl (fun _ _ => X.cv) rfl ?_
    refine K.d_st rfl X.ld rfl ?_
    refine K.d_on rfl (fun KK hKK => ?_)
    refine K.l_callV (Fx.cal rfl) rfl (Num hb 1) (K.pp [] rfl) rfl rfl ?_
    simp only [List.nil_append]
    refine K.l_nil ?_
    refine X.onE hKK ?_
    refine K.d_on rfl (fun KK hKK => ?_)
    refine K.l_callV (Fx.cal rfl) rfl (Num hb t.id) (K.pp [] rfl) rfl rfl ?_
    simp only [List.nil_append]
    refine K.l_nil ?_
    refine X.onE hKK ?_
    refine K.d_on rfl (fun KK hKK => ?_)
    refine K.l_callV (Fx.cal rfl) rfl (Text hb t.name) (K.pp [] rfl) rfl rfl ?_
    simp only [List.nil_append]
    refine K.l_nil ?_
    refine X.onE hKK ?_
    refine K.d_on rfl (fun KK hKK => ?_)
    refine K.l_callV (Fx.cal rfl) rfl (Num hb t.head) (K.pp [] rfl) rfl rfl ?_
    simp only [List.nil_append]
    refine K.l_nil ?_
    refine X.onE hKK ?_
    refine K.d_on rfl (fun KK hKK => ?_)
    refine X.bs (fun B => ?_)
    refine K.WL.bufOf (m := 6) (s := 3) rfl (by unfold maxLen; omega) ?_
    refine K.WL.freezeRow (es := (tabRow t).map cV) (threeV _) (fun h1 hle2 hs1 _ => ?_)
    refine K.l_nil ?_
    refine X.onE hKK ?_
    refine K.d_nil ?_
    simp only [List.drop_succ_cons, List.drop_zero]
    have hp0 : (s.tabs.take j).flatMap tabRows ++ [tabRow t] <+: rowsQ s := by simpa using pre_at hpre (k := 0) (x := tabRow t) rfl
    refine K.y_call hY rfl rfl hp0 ⟨_, rfl, hs1⟩ (hJ _ _ _ _ hle2 hjA) (K.pp1 3 rfl) rfl rfl (fun _ _ ⟨_, e, _⟩ => by cases e) (fun b h2 A2 hle3 hb1 hb2 => ?_)
    have hle4 := hle1.trans (hle2.trans hle3)
    simp only [List.set_cons_zero, List.set_cons_succ, List.eraseIdx_cons_zero, List.eraseIdx_cons_succ, List.cons_append, List.nil_append]
    cases b with
    | false =>
      (repeat' (first | refine X.rq ?_ | (refine X.rc ?_ ?_ <;> intro hc <;> first | (exfalso; omega) | skip)))
      refine K.AT.sel [1] rfl (K.AT.sel [1] rfl (K.AT.perm (K.pp [1] rfl) ?_))
      exact K.ret_post (.inl rfl) (vs := []) rfl fun w ok => ⟨h2, A2, hle4, ok, .inr ⟨_, hp0, hb2 rfl⟩⟩
    | true =>
      have hb1 := hb1 rfl
      (repeat' (first | refine X.rq ?_ | (refine X.rc ?_ ?_ <;> intro hc <;> first | (exfalso; omega) | skip)))
      refine K.c_loop (σ := PgS) (fun s1 => [(0, .func (.yield l) #[] #[]), (1, .pointer (some ⟨B1, 0, none⟩)), (3, .pointer (some ⟨BN, 0, none⟩)), (5, .pointer (some ⟨B5, 0, none⟩)), (13, .slice (some ⟨bb, oo, none⟩) s.tabs.length ca), (14, .int .i64 s.tabs.length), (15, .int .i64 j), (38, .slice av (t.cols.map cC).length cv), (39, .int .i64 (t.cols.map cC).length), (40, .int .i64 s1.j)]) (fun s1 => s1.hb)
        (fun s1 => s1.A :: blk B5 37 (cTab t (.slice av (t.cols.map cC).length cv)) :: blk BN 86 (cV vZ) :: blk B1 25 [.slice (some ⟨bb, oo, none⟩) s.tabs.length ca, .slice ai s.idxs.length ci] :: F)
        (fun s1 => s1.j ≤ t.cols.length ∧ h.le s1.hb ∧ J ((s.tabs.take j).flatMap tabRows ++ (tabRows t).take (s1.j + 1)) s1.hb s1.A) (fun s1 => t.cols.length - s1.j) ⟨0, h2, A2⟩ ⟨Nat.zero_le _, hle4, hb1⟩ (by repeat (first | exact K.Sub.nil _ | refine K.Sub.cons rfl ?_)) rfl rfl ?_
      clear hb1 hb2 hle4 hle3 hle2 hs1 hjA hle1
      rintro ⟨k, hb, A3⟩ ⟨hk, hle1, hjA⟩ KM hKM
      simp only at hk hle1 hjA ⊢
      have hlc : (t.cols.map cC).length = t.cols.length := List.length_map ..
      by_cases hkl : k < t.cols.length
      · have hy1 : t.cols[k]? = some t.cols[k] := List.getElem?_eq_getElem hkl
        have hwc : wfC t.cols[k] := hwt.cols _ (List.getElem_mem hkl)
        generalize t.cols[k] = c at hy1 hwc
        have hpk := pre_at hpre (tab_at hy1)
        have htk := (take_at (tab_at hy1)).1
        have hcl := hwt.len
        have hd1 : (t.cols.map cC)[k]? = some (cC c) := by rw [List.getElem?_map, hy1]; rfl
        obtain ⟨b2, o2, rfl, hcy⟩ := (hcv.le hle1).at hd1
        have hk1 := hwc.k1
        have hk2 := hwc.k2
        (repeat' (first | refine X.rq ?_ | (refine X.rc ?_ ?_ <;> intro hc <;> first | (exfalso; omega) | skip)))
        refine K.s_pure (K.p_loadM (Fx.agg rfl) rfl (Cels.up hcy) (Fx.sz rfl) rfl) rfl ?_
        refine K.l_alloc (Fx.zr rfl) rfl rfl (fun B7 => ?_)
        (repeat' (first | refine X.rq ?_ | (refine X.rc ?_ ?_ <;> intro hc <;> first | (exfalso; omega) | skip)))
        refine X.stw ?_
        simp only [List.set_cons_zero, List.set_cons_succ, List.eraseIdx_cons_zero, List.eraseIdx_cons_succ, List.cons_append, List.nil_append]
        (repeat' (first | refine X.rq ?_ | (refine X.rc ?_ ?_ <;> intro hc <;> first | (exfalso; omega) | skip)))
        refine K.c_drawY 18 ([blk B7 39 (cC c), A3, blk B5 37 (cTab t (.slice (some ⟨b2, o2, none⟩) (t.cols.map cC).length cv))]) [] (.pu 0 (.pu 2 (.pu 8 (.pu 11 (.pu 14 (.st 3 (.pu 4 (.st 6 (.st 9 (.st 12 (.st 15 (.on 1 (.on 5 (.on 7 (.on 10 (.on 13 (.on 16 (.on 17 .nil)))))))))))))))))) Fx.mixed (by kernel_rfl) (by repeat (first | with_reducible refine K.NoPanic.then ?_ | with_reducible refine K.NoPanic.inBlock ?_ | with_reducible exact K.post_noPanic _ _ | exact K.post_noPanic _ _)) (fun _ _ ⟨_, e, _⟩ => by cases e) (by kernel_rfl) (by first | exact K.suf_refl _ | exact K.suf_nil | exact K.suf_left _ _ | (repeat (first | exact K.suf_refl _ | exact K.suf_nil | refine K.suf_ins 0 rfl ?_ | refine K.suf_ins 1 rfl ?_ | refine K.suf_ins 2 rfl ?_ | refine K.suf_ins 3 rfl ?_ | refine K.suf_ins 4 rfl ?_ | refine K.suf_ins 5 rfl ?_ | refine K.suf_ins 6 rfl ?_ | refine K.suf_ins 7 rfl ?_ | refine K.suf_both ?_ | refine K.suf_cons ?_))) ?_
        refine K.d_pu rfl (fun _ _ => X.mv) rfl ?_
        refine K.d_pu rfl (fun _ _ => X.fa) rfl ?_
        refine K.d_pu rfl (fun _ _ => X.fa) rfl ?_
        refine K.d_pu rfl (fun _ _ => X.fa) rfl ?_
        refine K.d_pu rfl (fun _ _ => X.fa) rfl ?_
        refine K.d_st rfl X.ld rfl ?_
        refine K.d_pu rfl (fun _ _ => X.cv) rfl ?_
        refine K.d_st rfl X.mv rfl ?_
        refine K.d_st rfl X.ld rfl ?_
        refine K.d_st rfl X.ld rfl ?_
        refine K.d_st rfl X.ld rfl ?_
        refine K.d_on rfl (fun KK hKK => ?_)
        refine K.l_callV (Fx.cal rfl) rfl (Num hb 2) (K.pp [] rfl) rfl rfl ?_
        simp only [List.nil_append]
        refine K.l_nil ?_
        refine X.onE hKK ?_
        refine K.d_on rfl (fun KK hKK => ?_)
        refine K.l_callV (Fx.cal rfl) rfl (Num hb t.id) (K.pp [] rfl) rfl rfl ?_
        simp only [List.nil_append]
        refine K.l_nil ?_
        refine X.onE hKK ?_
        refine K.d_on rfl (fun KK hKK => ?_)
        refine K.l_callV (Fx.cal rfl) rfl (Num hb k) (K.pp [] rfl) rfl rfl ?_
        simp only [List.nil_append]
        refine K.l_nil ?_
        refine X.onE hKK ?_
        refine K.d_on rfl (fun KK hKK => ?_)
        refine K.l_callV (Fx.cal rfl) rfl (Text hb c.name) (K.pp [] rfl) rfl rfl ?_
        simp only [List.nil_append]
        refine K.l_nil ?_
        refine X.onE hKK ?_
        refine K.d_on rfl (fun KK hKK => ?_)
        refine K.l_callV (Fx.cal rfl) rfl (Num hb c.kind) (K.pp [] rfl) rfl rfl ?_
        simp only [List.nil_append]
        refine K.l_nil ?_
        refine X.onE hKK ?_
        refine K.d_on rfl (fun KK hKK => ?_)
        refine K.l_callV (Fx.cal rfl) rfl (Flag hb c.need) (K.pp [] rfl) rfl rfl ?_
        simp only [List.nil_append]
        refine K.l_nil ?_
        refine X.onE hKK ?_
        refine K.d_on rfl (fun KK hKK => ?_)
        refine X.bs (fun B => ?_)
        refine K.WL.bufOf (m := 6) (s := 3) rfl (by unfold maxLen; omega) ?_
        refine K.WL.freezeRow (es := (colRow t k c).map cV) (threeV _) (fun h1 hle2 hs1 _ => ?_)
        refine K.l_nil ?_
        refine X.onE hKK ?_
        refine K.d_nil ?_
        simp only [List.drop_succ_cons, List.drop_zero]
        refine K.y_call hY rfl rfl hpk ⟨_, rfl, hs1⟩ (hJ _ _ _ _ hle2 hjA) (K.pp1 1 rfl) rfl rfl (fun _ _ ⟨_, e, _⟩ => by cases e) (fun b h3 A4 hle3 hb1 hb2 => ?_)
        have hle4 := hle1.trans (hle2.trans hle3)
        simp only [List.set_cons_zero, List.set_cons_succ, List.eraseIdx_cons_zero, List.eraseIdx_cons_succ, List.cons_append, List.nil_append]
        cases b with
        | false =>
          (repeat' (first | refine X.rq ?_ | (refine X.rc ?_ ?_ <;> intro hc <;> first | (exfalso; omega) | skip)))
          refine K.AT.sel [1] rfl (K.AT.sel [1] rfl (K.AT.sel [1] rfl (K.AT.perm (K.pp [1] rfl) ?_)))
          exact K.ret_post (.inl rfl) (vs := []) rfl fun w ok => ⟨h3, A4, hle4, ok, .inr ⟨_, hpk, hb2 rfl⟩⟩
        | true =>
          have hb1 := hb1 rfl
          rw [List.append_assoc, ← htk] at hb1
          (repeat' (first | refine X.rq ?_ | (refine X.rc ?_ ?_ <;> intro hc <;> first | (exfalso; omega) | skip)))
          refine K.AT.sel [1] rfl ?_
          refine K.a_round hKM ⟨k + 1, h3, A4⟩ ⟨by simp only; omega, hle4, hb1⟩ (by repeat (first | exact K.Sub.nil _ | refine K.Sub.cons rfl ?_)) rfl rfl (by simp only; omega)
      · obtain rfl : k = t.cols.length := by omega
        rw [tab_all, ← hfl] at hjA
        (repeat' (first | refine X.rq ?_ | (refine X.rc ?_ ?_ <;> intro hc <;> first | (exfalso; omega) | skip)))
        refine K.AT.sel [1] rfl ?_
        refine K.AT.perm (K.pp [1, 1] rfl) ?_
        refine K.a_round hKL ⟨j + 1, hb, A3⟩ ⟨by simp only; omega, hle1, hjA⟩ (by repeat (first | exact K.Sub.nil _ | refine K.Sub.cons rfl ?_)) rfl rfl (by simp only; omega)
  · obtain rfl : j = s.tabs.length := by omega
    (repeat' (first | refine X.rq ?_ | (refine X.rc ?_ ?_ <;> intro hc <;> first | (exfalso; omega) | skip)))
    clear hKL KL hj hjl
    refine K.c_loop (σ := PgS) (fun s1 => [(0, .func (.yield l) #[] #[]), (1, .pointer (some ⟨B1, 0, none⟩)), (3, .pointer (some ⟨BN, 0, none⟩)), (68, .slice ai s.idxs.length ci), (69, .int .i64 s.idxs.length), (70, .int .i64 s1.j)]) (fun s1 => s1.hb) (fun s1 => blk BN 86 (cV vZ) :: blk B1 25 [.slice ao s.tabs.length ca, .slice ai s.idxs.length ci] :: s1.A :: F)
      (fun s1 => s1.j ≤ s.idxs.length ∧ h.le s1.hb ∧ J (s.tabs.flatMap tabRows ++ (s.idxs.take s1.j).flatMap idxRows) s1.hb s1.A) (fun s1 => s.idxs.length - s1.j) ⟨0, hb, A1⟩ ⟨Nat.zero_le _, hle1, by rw [List.take_length] at hjA; simpa using hjA⟩ (by repeat (first | exact K.Sub.nil _ | refine K.Sub.cons rfl ?_)) rfl rfl ?_
    clear hjA hle1
    rintro ⟨j, hb, A1⟩ ⟨hj, hle1, hjA⟩ KL hKL
    simp only at hj hle1 hjA ⊢
    by_cases hjl : j < s.idxs.length
    · have hx1 : s.idxs[j]? = some s.idxs[j] := List.getElem?_eq_getElem hjl
      have hwt : wfIx s.idxs[j] := hw.idxs _ (List.getElem_mem hjl)
      generalize s.idxs[j] = t at hx1 hwt
      have hpre := pre_idx hx1
      have hfl := flat_take hx1 idxRows
      obtain ⟨c, hc0, htc⟩ := hi.get hx1
      obtain ⟨v1, rfl, hcv⟩ := htc
      obtain ⟨av, cv, rfl⟩ := hcv.len
      obtain ⟨bb, oo, rfl, hcx⟩ := (hvi.le hle1).at hc0
      have hid := hwt.id
      have hhd := hwt.root
      have htb := hwt.table
      (repeat' (first | refine X.rq ?_ | (refine X.rc ?_ ?_ <;> intro hc <;> first | (exfalso; omega) | skip)))
      refine K.s_pure (K.p_loadM (Fx.agg rfl) rfl (Cels.up hcx) (Fx.sz rfl) rfl) rfl ?_
      refine K.l_alloc (Fx.zr rfl) rfl rfl (fun B5 => ?_)
      refine X.stw ?_
      simp only [List.set_cons_zero, List.set_cons_succ, List.eraseIdx_cons_zero, List.eraseIdx_cons_succ, List.cons_append, List.nil_append]
      (repeat' (first | refine X.rq ?_ | (refine X.rc ?_ ?_ <;> intro hc <;> first | (exfalso; omega) | skip)))
      refine K.c_drawY 21 ([blk B5 43 (cIdx t (.slice av (rowN t.cols).length cv)), blk BN 86 (cV vZ)]) [] (.pu 0 (.pu 2 (.pu 6 (.pu 10 (.pu 13 (.pu 17 (.st 3 (.pu 4 (.st 7 (.pu 8 (.st 11 (.st 14 (.pu 15 (.st 18 (.on 1 (.on 5 (.on 9 (.on 12 (.on 16 (.on 19 (.on 20 .nil))))))))))))))))))))) Fx.mixed (by kernel_rfl) (by repeat (first | with_reducible refine K.NoPanic.then ?_ | with_reducible refine K.NoPanic.inBlock ?_ | with_reducible exact K.post_noPanic _ _ | exact K.post_noPanic _ _)) (fun _ _ ⟨_, e, _⟩ => by cases e) (by kernel_rfl) (by first | exact K.suf_refl _ | exact K.suf_nil | exact K.suf_left _ _ | (repeat (first | exact K.suf_refl _ | exact K.suf_nil | refine K.suf_ins 0 rfl ?_ | refine K.suf_ins 1 rfl ?_ | refine K.suf_ins 2 rfl ?_ | refine K.suf_ins 3 rfl ?_ | refine K.suf_ins 4 rfl ?_ | refine K.suf_ins 5 rfl ?_ | refine K.suf_ins 6 rfl ?_ | refine K.suf_ins 7 rfl ?_ | refine K.suf_both ?_ | refine K.suf_cons ?_))) ?_
      refine K.d_pu rfl (fun _ _ => X.mv) rfl ?_
      refine K.d_pu rfl (fun _ _ => X.fa) rfl ?_
      refine K.d_pu rfl (fun _ _ => X.fa) rfl ?_
      refine K.d_pu rfl (fun _ _ => X.fa) rfl ?_
      refine K.d_pu rfl (fun _ _ => X.fa) rfl ?_
      refine K.d_pu rfl (fun _ _ => X.fa) rfl ?_
      refine K.d_st rfl X.ld rfl ?_
      refine K.d_pu rfl (fun _ _ => X.cv) rfl ?_
      refine K.d_st rfl X.ld rfl ?_
      refine K.d_pu rfl (fun _ _ => X.cv) rfl ?_
      refine K.d_st rfl X.ld rfl ?_
      refine K.d_st rfl X.ld rfl ?_
      refine K.d_pu rfl (fun _ _ => X.cv) rfl ?_
      refine K.d_st rfl X.ld rfl ?_
      refine K.d_on rfl (fun KK hKK => ?_)
      refine K.l_callV (Fx.cal rfl) rfl (Num hb 3) (K.pp [] rfl) rfl rfl ?_
      simp only [List.nil_append]
      refine K.l_nil ?_
      refine X.onE hKK ?_
      refine K.d_on rfl (fun KK hKK => ?_)
      refine K.l_callV (Fx.cal rfl) rfl (Num hb t.id) (K.pp [] rfl) rfl rfl ?_
      simp only [List.nil_append]
      refine K.l_nil ?_
      refine X.onE hKK ?_
      refine K.d_on rfl (fun KK hKK => ?_)
      refine K.l_callV (Fx.cal rfl) rfl (Num hb t.table) (K.pp [] rfl) rfl rfl ?_
      simp only [List.nil_append]
      refine K.l_nil ?_
      refine X.onE hKK ?_
      refine K.d_on rfl (fun KK hKK => ?_)
      refine K.l_callV (Fx.cal rfl) rfl (Text hb t.name) (K.pp [] rfl) rfl rfl ?_
      simp only [List.nil_append]
      refine K.l_nil ?_
      refine X.onE hKK ?_
      refine K.d_on rfl (fun KK hKK => ?_)
      refine K.l_callV (Fx.cal rfl) rfl (Num hb t.root) (K.pp [] rfl) rfl rfl ?_
      simp only [List.nil_append]
      refine K.l_nil ?_
      refine X.onE hKK ?_
      refine K.d_on rfl (fun KK hKK => ?_)
      refine K.l_callV (Fx.cal rfl) rfl (Flag hb t.uniq) (K.pp [] rfl) rfl rfl ?_
      simp only [List.nil_append]
      refine K.l_nil ?_
      refine X.onE hKK ?_
      refine K.d_on rfl (fun KK hKK => ?_)
      refine X.bs (fun B => ?_)
      refine K.WL.bufOf (m := 6) (s := 3) rfl (by unfold maxLen; omega) ?_
      refine K.WL.freezeRow (es := (idxRow t).map cV) (threeV _) (fun h1 hle2 hs1 _ => ?_)
      refine K.l_nil ?_
      refine X.onE hKK ?_
      refine K.d_nil ?_
      simp only [List.drop_succ_cons, List.drop_zero]
      have hp0 : (s.tabs.flatMap tabRows ++ (s.idxs.take j).flatMap idxRows) ++ [idxRow t] <+: rowsQ s := by simpa using pre_at hpre (k := 0) (x := idxRow t) rfl
      refine K.y_call hY rfl rfl hp0 ⟨_, rfl, hs1⟩ (hJ _ _ _ _ hle2 hjA) (K.pp1 3 rfl) rfl rfl (fun _ _ ⟨_, e, _⟩ => by cases e) (fun b h2 A2 hle3 hb1 hb2 => ?_)
      have hle4 := hle1.trans (hle2.trans hle3)
      simp only [List.set_cons_zero, List.set_cons_succ, List.eraseIdx_cons_zero, List.eraseIdx_cons_succ, List.cons_append, List.nil_append]
      cases b with
      | false =>
        (repeat' (first | refine X.rq ?_ | (refine X.rc ?_ ?_ <;> intro hc <;> first | (exfalso; omega) | skip)))
        refine K.AT.sel [1] rfl (K.AT.sel [1] rfl (K.AT.perm (K.pp [1] rfl) ?_))
        exact K.ret_post (.inl rfl) (vs := []) rfl fun w ok => ⟨h2, A2, hle4, ok, .inr ⟨_, hp0, hb2 rfl⟩⟩
      | true =>
        have hb1 := hb1 rfl
        (repeat' (first | refine X.rq ?_ | (refine X.rc ?_ ?_ <;> intro hc <;> first | (exfalso; omega) | skip)))
        refine K.c_loop (σ := PgS) (fun s1 => [(0, .func (.yield l) #[] #[]), (1, .pointer (some ⟨B1, 0, none⟩)), (3, .pointer (some ⟨BN, 0, none⟩)), (9, .pointer (some ⟨B5, 0, none⟩)), (68, .slice (some ⟨bb, oo, none⟩) s.idxs.length ci), (69, .int .i64 s.idxs.length), (70, .int .i64 j), (98, .slice av (rowN t.cols).length cv), (99, .int .i64 (rowN t.cols).length), (100, .int .i64 s1.j)]) (fun s1 => s1.hb)
          (fun s1 => s1.A :: blk B5 43 (cIdx t (.slice av (rowN t.cols).length cv)) :: blk BN 86 (cV vZ) :: blk B1 25 [.slice ao s.tabs.length ca, .slice (some ⟨bb, oo, none⟩) s.idxs.length ci] :: F)
          (fun s1 => s1.j ≤ t.cols.length ∧ h.le s1.hb ∧ J ((s.tabs.flatMap tabRows ++ (s.idxs.take j).flatMap idxRows) ++ (idxRows t).take (s1.j + 1)) s1.hb s1.A) (fun s1 => t.cols.length - s1.j) ⟨0, h2, A2⟩ ⟨Nat.zero_le _, hle4, hb1⟩ (by repeat (first | exact K.Sub.nil _ | refine K.Sub.cons rfl ?_)) rfl rfl ?_
        clear hb1 hb2 hle4 hle3 hle2 hs1 hjA hle1
        rintro ⟨k, hb, A3⟩ ⟨hk, hle1, hjA⟩ KM hKM
        simp only at hk hle1 hjA ⊢
        have hlc : (rowN t.cols).length = t.cols.length := List.length_map ..
        by_cases hkl : k < t.cols.length
        · have hy1 : t.cols[k]? = some t.cols[k] := List.getElem?_eq_getElem hkl
          have hwc := hwt.cols _ (List.getElem_mem hkl)
          generalize t.cols[k] = c at hy1 hwc
          have hpk := pre_at hpre (idx_at hy1)
          have htk := (take_at (idx_at hy1)).1
          have hcl := hwt.len
          have hd1 : (rowN t.cols)[k]? = some [iV c] := by rw [rowN, List.getElem?_map, hy1]; rfl
          obtain ⟨b2, o2, rfl, hcy⟩ := (hcv.le hle1).at hd1
          (repeat' (first | refine X.rq ?_ | (refine X.rc ?_ ?_ <;> intro hc <;> first | (exfalso; omega) | skip)))
          refine K.s_pure (K.p_load (v := .int .i64 c) (Fx.agg rfl) rfl (Cels.up hcy).1) rfl ?_
          (repeat' (first | refine X.rq ?_ | (refine X.rc ?_ ?_ <;> intro hc <;> first | (exfalso; omega) | skip)))
          refine K.c_drawY 13 ([A3, blk B5 43 (cIdx t (.slice (some ⟨b2, o2, none⟩) (rowN t.cols).length cv)), blk BN 86 (cV vZ)]) [] (.pu 0 (.pu 2 (.pu 6 (.pu 9 (.st 3 (.pu 4 (.st 8 (.st 11 (.on 1 (.on 5 (.on 7 (.on 10 (.on 12 .nil))))))))))))) Fx.mixed (by kernel_rfl) (by repeat (first | with_reducible refine K.NoPanic.then ?_ | with_reducible refine K.NoPanic.inBlock ?_ | with_reducible exact K.post_noPanic _ _ | exact K.post_noPanic _ _)) (fun _ _ ⟨_, e, _⟩ => by cases e) (by kernel_rfl) (by first | exact K.suf_refl _ | exact K.suf_nil | exact K.suf_left _ _ | (repeat (first | exact K.suf_refl _ | exact K.suf_nil | refine K.suf_ins 0 rfl ?_ | refine K.suf_ins 1 rfl ?_ | refine K.suf_ins 2 rfl ?_ | refine K.suf_ins 3 rfl ?_ | refine K.suf_ins 4 rfl ?_ | refine K.suf_ins 5 rfl ?_ | refine K.suf_ins 6 rfl ?_ | refine K.suf_ins 7 rfl ?_ | refine K.suf_both ?_ | refine K.suf_cons ?_))) ?_
          refine K.d_pu rfl (fun _ _ => X.mv) rfl ?_
          refine K.d_pu rfl (fun _ _ => X.fa) rfl ?_
          refine K.d_pu rfl (fun _ _ => X.mv) rfl ?_
          refine K.d_pu rfl (fun _ _ => X.mv) rfl ?_
          refine K.d_st rfl X.ld rfl ?_
          refine K.d_pu rfl (fun _ _ => X.cv) rfl ?_
          refine K.d_st rfl X.ld rfl ?_
          refine K.d_st rfl X.ld rfl ?_
          refine K.d_on rfl (fun KK hKK => ?_)
          refine K.l_callV (Fx.cal rfl) rfl (Num hb 4) (K.pp [] rfl) rfl rfl ?_
          simp only [List.nil_append]
          refine K.l_nil ?_
          refine X.onE hKK ?_
          refine K.d_on rfl (fun KK hKK => ?_)
          refine K.l_callV (Fx.cal rfl) rfl (Num hb t.id) (K.pp [] rfl) rfl rfl ?_
          simp only [List.nil_append]
          refine K.l_nil ?_
          refine X.onE hKK ?_
          refine K.d_on rfl (fun KK hKK => ?_)
          refine K.l_callV (Fx.cal rfl) rfl (Num hb k) (K.pp [] rfl) rfl rfl ?_
          simp only [List.nil_append]
          refine K.l_nil ?_
          refine X.onE hKK ?_
          refine K.d_on rfl (fun KK hKK => ?_)
          refine K.l_callV (Fx.cal rfl) rfl (Num hb c) (K.pp [] rfl) rfl rfl ?_
          simp only [List.nil_append]
          refine K.l_nil ?_
          refine X.onE hKK ?_
          refine K.d_on rfl (fun KK hKK => ?_)
          refine X.bs (fun B => ?_)
          refine K.WL.bufOf (m := 6) (s := 3) rfl (by unfold maxLen; omega) ?_
          refine K.WL.freezeRow (es := (keyRow t k c).map cV) (threeV _) (fun h1 hle2 hs1 _ => ?_)
          refine K.l_nil ?_
          refine X.onE hKK ?_
          refine K.d_nil ?_
          simp only [List.drop_succ_cons, List.drop_zero]
          refine K.y_call hY rfl rfl hpk ⟨_, rfl, hs1⟩ (hJ _ _ _ _ hle2 hjA) (K.pp1 0 rfl) rfl rfl (fun _ _ ⟨_, e, _⟩ => by cases e) (fun b h3 A4 hle3 hb1 hb2 => ?_)
          have hle4 := hle1.trans (hle2.trans hle3)
          simp only [List.set_cons_zero, List.set_cons_succ, List.eraseIdx_cons_zero, List.eraseIdx_cons_succ, List.cons_append, List.nil_append]
          cases b with
          | false =>
            (repeat' (first | refine X.rq ?_ | (refine X.rc ?_ ?_ <;> intro hc <;> first | (exfalso; omega) | skip)))
            refine K.AT.sel [1] rfl (K.AT.sel [1] rfl (K.AT.perm (K.pp [1] rfl) ?_))
            exact K.ret_post (.inl rfl) (vs := []) rfl fun w ok => ⟨h3, A4, hle4, ok, .inr ⟨_, hpk, hb2 rfl⟩⟩
          | true =>
            have hb1 := hb1 rfl
            rw [List.append_assoc, ← htk] at hb1
            (repeat' (first | refine X.rq ?_ | (refine X.rc ?_ ?_ <;> intro hc <;> first | (exfalso; omega) | skip)))
            refine K.a_round hKM ⟨k + 1, h3, A4⟩ ⟨by simp only; omega, hle4, hb1⟩ (by repeat (first | exact K.Sub.nil _ | refine K.Sub.cons rfl ?_)) rfl rfl (by simp only; omega)
        · obtain rfl : k = t.cols.length := by omega
          rw [idx_all, List.append_assoc, ← hfl] at hjA
          (repeat' (first | refine X.rq ?_ | (refine X.rc ?_ ?_ <;> intro hc <;> first | (exfalso; omega) | skip)))
          refine K.AT.sel [1] rfl ?_
          refine K.AT.perm (K.pp [1, 1] rfl) ?_
          refine K.a_round hKL ⟨j + 1, hb, A3⟩ ⟨by simp only; omega, hle1, hjA⟩ (by repeat (first | exact K.Sub.nil _ | refine K.Sub.cons rfl ?_)) rfl rfl (by simp only; omega)
    · obtain rfl : j = s.idxs.length := by omega
      rw [List.take_length] at hjA
      (repeat' (first | refine X.rq ?_ | (refine X.rc ?_ ?_ <;> intro hc <;> first | (exfalso; omega) | skip)))
      refine K.AT.sel [0] rfl ?_
      exact K.ret_post (.inr rfl) (vs := []) rfl fun w ok => ⟨hb, A1, hle1, ok, .inl hjA⟩
theorem All (h : Base) (cs : List Value) : Tr Tryz.prog 46 [.agg cs.toArray] h [] (fun u h' H' => h' = h ∧ ∃ B1, u = .func (.func 72) #[] #[.pointer (some ⟨B1, 0, none⟩)] ∧ H' = [blk B1 25 cs]) := by
  refine K.enter Tryz.func46 rfl (Nat.le_of_ble_eq_true rfl) (fun F => ?_)
  simp only [List.nil_append, List.cons_append]
  (repeat' (first | refine X.rq ?_ | (refine X.rc ?_ ?_ <;> intro hc <;> first | (exfalso; omega) | skip)))
  refine K.l_box rfl rfl rfl (fun B1 => ?_)
  (repeat' (first | refine X.rq ?_ | (refine X.rc ?_ ?_ <;> intro hc <;> first | (exfalso; omega) | skip)))
  refine K.s_pure (K.p_makeFunc rfl) rfl ?_
  (repeat' (first | refine X.rq ?_ | (refine X.rc ?_ ?_ <;> intro hc <;> first | (exfalso; omega) | skip)))
  refine K.done (by first | exact Or.inl rfl | exact Or.inr rfl) rfl (by first | exact K.Base.le.refl _ | assumption) (H' := [_]) rfl ⟨rfl, _, rfl, rfl⟩
end Go.Proofs.YtdjacjhojbkgjaaGreat.Ct
