/-
  Trees of pages: the law's own functions: is a tree long; a tree in new memory. Conditions: each theorem's own.
-/
import Derived.Test.YtahdbncfegedjaaXz

namespace Go.Proofs.Ytahdbncfegedjaa.Nd
open Go Go.K Go.Proofs Go.Proofs.Ytahdbncfegedjaa Go.Proofs.Ytahdbncfegedjaa.Pg
set_option linter.unusedVariables false
set_option linter.unusedSimpArgs false
set_option maxRecDepth 10000

def ShortI (x : PImg) : Prop := x.to.cells.length ≤ 300 ∧ ∀ c ∈ x.to.cells, c.data.length ≤ 1000
def ShortT (t : PTree) : Prop := t.pages.length ≤ 300 ∧ ∀ x ∈ t.pages, ShortI x
set_option maxHeartbeats 2000000 in
theorem LongT (h : Base) (cs : List Value) (t : PTree) (hx : TreeC h cs t) : Tr Try.prog 6 [.agg cs.toArray] h [] (fun v h' H' => h' = h ∧ H' = [] ∧ ∃ b, v = .bool b ∧ (b = false → ShortT t)) := by
  obtain ⟨hb, he, hpl, pv, rfl, es, hv, hel, hr⟩ := hx
  obtain ⟨ao, ca, rfl⟩ := hv.len
  rw [hel] at hv ⊢
  refine K.enter Try.func6 rfl (Nat.le_of_ble_eq_true rfl) (fun F => ?_)
  (repeat' (first | refine X.rq ?_ | (refine X.rc ?_ ?_ <;> intro hc <;> first | (exfalso; omega) | skip)))
  refine K.l_box rfl rfl rfl (fun B => ?_)
  (repeat' (first | refine X.rq ?_ | (refine X.rc ?_ ?_ <;> intro hc <;> first | (exfalso; omega) | skip)))
  refine K.c_loop (σ := Nat) (fun j => [(1, .pointer (some ⟨B, 0, none⟩)), (3, .int .i64 j)]) (fun _ => h) (fun _ => blk B 26 [.slice ao t.pages.length ca, .int .u32 t.bad, .int .i64 t.err] :: F) (fun j => j ≤ t.pages.length ∧ j ≤ 301 ∧ ∀ (i : Nat) x, i < j → t.pages[i]? = some x → ShortI x) (fun j => t.pages.length - j) 0 ⟨Nat.zero_le _, Nat.zero_le _, fun i x hi => absurd hi (Nat.not_lt_zero _)⟩ (by repeat (first | exact K.Sub.nil _ | refine K.Sub.cons rfl ?_)) rfl rfl ?_
  rintro j ⟨hj, hj3, hyes⟩ KL hKL
  by_cases hjl : j < t.pages.length ∧ j ≤ 300
  · obtain ⟨hjl, hj300⟩ := hjl
    obtain ⟨x, hxj⟩ : ∃ x, t.pages[j]? = some x := ⟨_, List.getElem?_eq_getElem hjl⟩
    obtain ⟨c, hcj⟩ : ∃ x, es[((j : Nat) : Int).toNat]? = some x := ⟨_, List.getElem?_eq_getElem (by omega)⟩
    obtain ⟨hpg, ds, rfl, hw, cv, rfl, fs, hsl, hfl, hfr⟩ := hr j c x hcj hxj
    have hwl := hw.len
    obtain ⟨aq, cq, rfl⟩ := hsl.len
    rw [hfl] at hsl hcj
    (repeat' (first | refine X.rq ?_ | (refine X.rc ?_ ?_ <;> intro hc <;> first | (exfalso; omega) | skip)))
    refine K.s_pureE (K.p_indexL hv (Fx.und rfl) (Fx.sz rfl) rfl rfl (by omega) hcj) rfl ?_
    rintro v2 ⟨b, o, rfl, hcel⟩
    have g4 := Cels.get (Cels.up (K := blk B 26 [.slice ao t.pages.length ca, .int .u32 t.bad, .int .i64 t.err] :: F) hcel) 4 (.slice aq x.to.cells.length cq) rfl
    have g4 : Cel h (blk B 26 [.slice ao t.pages.length ca, .int .u32 t.bad, .int .i64 t.err] :: F) b (o + 1 + 3) (.slice aq x.to.cells.length cq) := g4
    (repeat' (first | refine X.rq ?_ | (refine X.rc ?_ ?_ <;> intro hc <;> first | (exfalso; omega) | skip)))
    · refine K.AT.drop ?_
      refine K.done (by first | exact Or.inl rfl | exact Or.inr rfl) rfl (by first | exact K.Base.le.refl _ | assumption) (H' := []) rfl ⟨rfl, rfl, true, rfl, fun e => by cases e⟩
    have h300 : x.to.cells.length ≤ 300 := by omega
    refine K.c_loop (σ := Nat) (fun k => [(1, .pointer (some ⟨B, 0, none⟩)), (3, .int .i64 j), (4, .slice aq x.to.cells.length cq), (5, .int .i64 k)]) (fun _ => h) (fun _ => blk B 26 [.slice ao t.pages.length ca, .int .u32 t.bad, .int .i64 t.err] :: F) (fun k => k ≤ x.to.cells.length ∧ ∀ (i : Nat) c, i < k → x.to.cells[i]? = some c → c.data.length ≤ 1000) (fun k => x.to.cells.length - k) 0 ⟨Nat.zero_le _, fun i x hi => absurd hi (Nat.not_lt_zero _)⟩ (by repeat (first | exact K.Sub.nil _ | refine K.Sub.cons rfl ?_)) rfl rfl ?_
    rintro k ⟨hk, hyk⟩ KM hKM
    by_cases hkl : k < x.to.cells.length
    · obtain ⟨d, hdk⟩ : ∃ d, x.to.cells[k]? = some d := ⟨_, List.getElem?_eq_getElem hkl⟩
      obtain ⟨e, hek⟩ : ∃ x, fs[((k : Nat) : Int).toNat]? = some x := ⟨_, List.getElem?_eq_getElem (by omega)⟩
      obtain ⟨hkl3, hdl3, ao3, ca3, rfl, hbv3⟩ := hfr k e d hek hdk
      (repeat' (first | refine X.rq ?_ | (refine X.rc ?_ ?_ <;> intro hc <;> first | (exfalso; omega) | skip)))
      refine K.s_pureE (K.p_indexL hsl (Fx.und rfl) (Fx.sz rfl) rfl rfl (by omega) hek) rfl ?_
      rintro v3 ⟨b3, o3, rfl, hcel3⟩
      have g3 := Cels.get (Cels.up (K := blk B 26 [.slice ao t.pages.length ca, .int .u32 t.bad, .int .i64 t.err] :: F) hcel3) 2 (.slice ao3 d.data.length ca3) rfl
      (repeat' (first | refine X.rq ?_ | (refine X.rc ?_ ?_ <;> intro hc <;> first | (exfalso; omega) | skip)))
      · refine K.AT.drop ?_
        refine K.done (by first | exact Or.inl rfl | exact Or.inr rfl) rfl (by first | exact K.Base.le.refl _ | assumption) (H' := []) rfl ⟨rfl, rfl, true, rfl, fun e => by cases e⟩
      · refine K.a_round hKM (k + 1) ⟨by omega, fun i y hi h2 => ?_⟩ (by repeat (first | exact K.Sub.nil _ | refine K.Sub.cons rfl ?_)) rfl rfl (by omega)
        by_cases hij : i < k
        · exact hyk i y hij h2
        · obtain rfl : i = k := by omega
          rw [hdk] at h2; cases h2; omega
    · obtain rfl : k = x.to.cells.length := by omega
      (repeat' (first | refine X.rq ?_ | (refine X.rc ?_ ?_ <;> intro hc <;> first | (exfalso; omega) | skip)))
      refine K.a_round hKL (j + 1) ⟨by omega, by omega, fun i y hi h2 => ?_⟩ (by repeat (first | exact K.Sub.nil _ | refine K.Sub.cons rfl ?_)) rfl rfl (by omega)
      by_cases hij : i < j
      · exact hyes i y hij h2
      · obtain rfl : i = j := by omega
        rw [hxj] at h2; cases h2
        refine ⟨h300, fun c hc => ?_⟩
        obtain ⟨i, hi⟩ := List.mem_iff_getElem?.1 hc
        exact hyk i c (List.getElem?_eq_some_iff.1 hi).1 hi
  · (repeat' (first | refine X.rq ?_ | (refine X.rc ?_ ?_ <;> intro hc <;> first | (exfalso; omega) | skip)))
    all_goals
      refine K.AT.drop ?_
      refine K.done (by first | exact Or.inl rfl | exact Or.inr rfl) rfl (by first | exact K.Base.le.refl _ | assumption) (H' := []) rfl ⟨rfl, rfl, _, rfl, fun e => by
        have e := of_decide_eq_false e
        refine ⟨by omega, fun x hx => ?_⟩
        obtain ⟨i, hi⟩ := List.mem_iff_getElem?.1 hx
        have := (List.getElem?_eq_some_iff.1 hi).1
        exact hyes i x (by omega) hi⟩
structure WtS where
  j : Nat
  a : Option Nat
  cap : Nat
  rows : List (List Value)
  hb : Base
theorem RowsI.of {h : Base} {v : Value} {l : List PImg} (hv : ImgsV h v l) : ∃ es, SL h 5 v es ∧ RowsI h es l := by
  obtain ⟨es, h1, h2, h3⟩ := hv
  refine ⟨es, h1, h2, fun e he => ?_, h3⟩
  obtain ⟨i, hi⟩ := List.mem_iff_getElem?.1 he
  have hl := (List.getElem?_eq_some_iff.1 hi).1
  obtain ⟨_, ds, rfl, _, cv, rfl, _⟩ := h3 i e _ hi (List.getElem?_eq_getElem (by omega))
  rfl
theorem RowsI.ones {h : Base} {es : List (List Value)} {l : List PImg} (hr : RowsI h es l) : ∀ e ∈ es, K.ones e = true := fun e he => by
  obtain ⟨i, hi⟩ := List.mem_iff_getElem?.1 he
  have hl := (List.getElem?_eq_some_iff.1 hi).1
  obtain ⟨_, ds, rfl, _, cv, rfl, fs, hsl, _⟩ := hr.2.2 i e _ hi (List.getElem?_eq_getElem (by have := hr.1; omega))
  obtain ⟨ao, ca, rfl⟩ := hsl.len
  rfl
theorem RowsI.app {h : Base} {es fs : List (List Value)} {l m : List PImg} (hr : RowsI h es l) (hs : RowsI h fs m) : RowsI h (es ++ fs) (l ++ m) := by
  refine ⟨by rw [List.length_append, List.length_append, hr.1, hs.1], fun e he => ?_, fun j c x hj hx => ?_⟩
  · rcases List.mem_append.1 he with he | he
    · exact hr.2.1 e he
    · exact hs.2.1 e he
  · by_cases hjl : j < l.length
    · rw [List.getElem?_append_left (by rw [hr.1]; exact hjl)] at hj
      rw [List.getElem?_append_left hjl] at hx
      exact hr.2.2 j c x hj hx
    · rw [List.getElem?_append_right (by rw [hr.1]; omega)] at hj
      rw [List.getElem?_append_right (by omega)] at hx
      rw [hr.1] at hj
      exact hs.2.2 _ c x hj hx
set_option maxHeartbeats 2000000 in
theorem With (h : Base) (cs : List Value) (t : PTree) (v : Value) (l : List PImg) (hx : TreeC h cs t) (hv : ImgsV h v l) (hs : ∀ x ∈ l, small x.to.cells) (hl : l.length ≤ 100000) (htl : t.pages.length ≤ 100000) :
    Tr Try.prog 22 [.agg cs.toArray, v] h [] (fun u h' H' => H' = [] ∧ ∃ ds, u = .agg ds.toArray ∧ TreeC h' ds ⟨l ++ t.pages, t.bad, t.err⟩) := by
  obtain ⟨hbad, he, hpl, pv, rfl, htp⟩ := hx
  obtain ⟨fs, hf, hfr⟩ := RowsI.of htp
  obtain ⟨es, hv, hr⟩ := RowsI.of hv
  obtain ⟨ao, ca, rfl⟩ := hv.len
  obtain ⟨ap, cp, rfl⟩ := hf.len
  have hel := hr.1
  have hfl := hfr.1
  have hsrc : ∀ hb KK, h.le hb → Src Try.prog hb KK 5 (.slice ap fs.length cp) fs.length fs.flatten := fun hb KK hle => K.SL.src (P := Try.prog) (K := KK) (hf.le hle) (RowsI.ones hfr)
  rw [hel] at hv ⊢
  rw [hfl] at hsrc ⊢
  refine K.enter Try.func22 rfl (Nat.le_of_ble_eq_true rfl) (fun F => ?_)
  (repeat' (first | refine X.rq ?_ | (refine X.rc ?_ ?_ <;> intro hc <;> first | (exfalso; omega) | skip)))
  refine K.l_box rfl rfl rfl (fun B2 => ?_)
  refine K.l_alloc (Fx.zr rfl) rfl rfl (fun B4 => ?_)
  (repeat' (first | refine X.rq ?_ | (refine X.rc ?_ ?_ <;> intro hc <;> first | (exfalso; omega) | skip)))
  refine K.l_alloc (Fx.zr rfl) rfl rfl (fun B5 => ?_)
  refine X.stw ?_
  simp only [List.set_cons_zero, List.set_cons_succ, List.eraseIdx_cons_zero, List.eraseIdx_cons_succ, List.cons_append, List.nil_append]
  (repeat' (first | refine X.rq ?_ | (refine X.rc ?_ ?_ <;> intro hc <;> first | (exfalso; omega) | skip)))
  refine K.WC.nilBuf 58 5 ?_
  refine K.c_loop (σ := WtS) (fun q => [(1, .slice ao l.length ca), (2, .pointer (some ⟨B2, 0, none⟩)), (4, .pointer (some ⟨B4, 0, none⟩)), (5, .pointer (some ⟨B5, 0, none⟩)), (6, .int .i64 q.j)]) (fun q => q.hb)
    (fun q => bufA 58 5 q.a q.j q.cap q.rows.flatten :: blk B5 26 [bufV q.a q.j q.cap, .int .u32 t.bad, .int .i64 t.err] :: blk B4 26 [.slice none 0 0, .int .u32 0, .int .i64 0] :: blk B2 26 [.slice ap t.pages.length cp, .int .u32 t.bad, .int .i64 t.err] :: F)
    (fun q => q.j ≤ l.length ∧ h.le q.hb ∧ RowsI q.hb q.rows (l.take q.j)) (fun q => l.length - q.j) ⟨0, none, 0, [], h⟩ ⟨Nat.zero_le _, K.Base.le.refl _, rfl, (fun e he => by cases he), fun j c x hj => by simp at hj⟩ (by repeat (first | exact K.Sub.nil _ | refine K.Sub.cons rfl ?_)) rfl rfl ?_
  rintro ⟨j, a, cap, rows, hb⟩ ⟨hj, hle, hrows⟩ KL hKL
  dsimp only at hj hle hrows ⊢
  by_cases hjl : j < l.length
  · obtain ⟨x, hxj⟩ : ∃ x, l[j]? = some x := ⟨_, List.getElem?_eq_getElem hjl⟩
    obtain ⟨c, hcj⟩ : ∃ x, es[j]? = some x := ⟨_, List.getElem?_eq_getElem (by omega)⟩
    obtain ⟨hxg, ps, rfl, hpx⟩ := hr.2.2 j c x hcj hxj
    have hpx := hpx.le hle
    have hcp := CopyPage hb ps x.to hpx (hs x (List.mem_of_getElem? hxj))
    have hwx := hpx.1
    obtain ⟨_, cv, rfl, ex, hsx5, _⟩ := hpx
    obtain ⟨ao5, ca5, rfl⟩ := hsx5.len
    obtain ⟨bb, oo, rfl, hcx⟩ := (hv.le hle).at hcj
    (repeat' (first | refine X.rq ?_ | (refine X.rc ?_ ?_ <;> intro hc <;> first | (exfalso; omega) | skip)))
    refine X.draw ([blk B5 26 [bufV a j cap, .int .u32 t.bad, .int .i64 t.err]]) [17] (.pu 0 (.pu 2 (.pu 3 (.pu 4 (.pu 5 (.pu 7 (.pu 8 (.pu 9 (.pu 10 (.st 1 (.st 6 (.st 11 (.on 12 (.pu 13 (.on 14 (.on 15 (.pu 16 (.cl 17 .nil)))))))))))))))))) ?_
    refine K.d_pu rfl (fun _ _ => X.fa) rfl ?_
    refine K.d_pu rfl (fun _ _ => X.mv) rfl ?_
    refine K.d_pu rfl (fun _ _ => X.mv) rfl ?_
    refine K.d_pu rfl (fun _ _ => X.ia) rfl ?_
    refine K.d_pu rfl (fun _ _ => X.fa) rfl ?_
    refine K.d_pu rfl (fun _ _ => X.mv) rfl ?_
    refine K.d_pu rfl (fun _ _ => X.mv) rfl ?_
    refine K.d_pu rfl (fun _ _ => X.ia) rfl ?_
    refine K.d_pu rfl (fun _ _ => X.fa) rfl ?_
    refine K.d_st rfl X.ld rfl ?_
    refine K.d_st rfl (K.p_load (Fx.agg rfl) rfl (Cels.get (Cels.up hcx) 0 (.int .u32 x.page) rfl)) rfl ?_
    refine K.d_st rfl (K.p_loadM (Fx.agg rfl) rfl (Cels.up hcx).2 (Fx.sz rfl) rfl) rfl ?_
    refine K.d_on rfl (fun KK hKK => ?_)
    refine K.l_call (Fx.cal rfl) rfl hcp (K.pp [] rfl) rfl ?_
    rintro u h2 H' le2 ⟨a2, c2, gs, rfl, hrow, rfl⟩
    simp only [List.nil_append, List.cons_append]
    refine K.l_nil ?_
    refine X.onE hKK ?_
    refine K.d_pu rfl (fun _ _ => X.bd) rfl ?_
    refine K.d_on rfl (fun KK hKK => ?_)
    refine K.l_buildSlice (Fx.und rfl) (Fx.sz rfl) rfl (Fx.zr rfl) rfl rfl rfl (cs := .int .u32 x.page :: cP x.to (bufV a2 x.to.cells.length c2)) rfl rfl (fun B19 => ?_)
    refine K.l_nil ?_
    refine X.onE hKK ?_
    refine K.d_on rfl (fun KK hKK => ?_)
    refine K.l_append_at 2 rfl (Fx.und rfl) (Fx.und rfl) rfl (Fx.sz rfl) (Fx.zr rfl) rfl (Fx.byt rfl) rfl rfl (K.src_cells (K.cels_own (pre := []) (cs := .int .u32 x.page :: cP x.to (bufV a2 x.to.cells.length c2)) (post := []) 0 rfl rfl) rfl (by simp [oneCell, cP, bufV])) (by omega) (by omega) rfl (fun a6 cap6 => ?_)
    simp only [List.set_cons_zero, List.set_cons_succ, List.eraseIdx_cons_zero, List.eraseIdx_cons_succ, List.cons_append, List.nil_append]
    refine K.l_nil ?_
    refine X.onE hKK ?_
    refine K.d_pu rfl (fun _ _ => X.fa) rfl ?_
    refine K.d_cl rfl (fun KK hKK => ?_)
    refine X.sto ?_
    refine K.l_nil ?_
    refine K.d_clE hKK ?_
    refine K.d_nil ?_
    (repeat' (first | refine X.rq ?_ | (refine X.rc ?_ ?_ <;> intro hc <;> first | (exfalso; omega) | skip)))
    refine K.AT.sel [0] rfl ?_
    refine AT.freezeRowE gs (by rw [hrow.1]) rfl hrow.2.1 (fun h3 le3 hsl => ?_)
    refine K.a_round hKL ⟨j + 1, a6, cap6, rows ++ [.int .u32 x.page :: cP x.to (bufV a2 x.to.cells.length c2)], h3⟩ ⟨by dsimp only; omega, hle.trans (le2.trans le3), ?_⟩ (by repeat (first | exact K.Sub.nil _ | refine K.Sub.cons rfl ?_)) rfl ?_ (by dsimp only; omega)
    · dsimp only
      rw [List.take_add_one, hxj]
      exact RowsI.snoc (hrows.le (le2.trans le3)) hxg ⟨hwx, _, rfl, gs, hsl, hrow.1, fun j c y a b => (hrow.2.2 j c y a b).le le3⟩
    · dsimp only
      rw [List.flatten_append]
      simp
  · obtain rfl : j = l.length := by omega
    rw [List.take_length] at hrows
    (repeat' (first | refine X.rq ?_ | (refine X.rc ?_ ?_ <;> intro hc <;> first | (exfalso; omega) | skip)))
    refine K.l_append_at 0 rfl (Fx.und rfl) (Fx.und rfl) rfl (Fx.sz rfl) (Fx.zr rfl) rfl (Fx.byt rfl) rfl rfl (hsrc hb _ hle) (by omega) (by omega) rfl (fun a7 cap7 => ?_)
    simp only [List.set_cons_zero, List.set_cons_succ, List.eraseIdx_cons_zero, List.eraseIdx_cons_succ, List.cons_append, List.nil_append]
    (repeat' (first | refine X.rq ?_ | (refine X.rc ?_ ?_ <;> intro hc <;> first | (exfalso; omega) | skip)))
    refine X.sto ?_
    simp only [List.set_cons_zero, List.set_cons_succ, List.eraseIdx_cons_zero, List.eraseIdx_cons_succ, List.cons_append, List.nil_append]
    (repeat' (first | refine X.rq ?_ | (refine X.rc ?_ ?_ <;> intro hc <;> first | (exfalso; omega) | skip)))
    refine X.stw ?_
    simp only [List.set_cons_zero, List.set_cons_succ, List.eraseIdx_cons_zero, List.eraseIdx_cons_succ, List.cons_append, List.nil_append]
    (repeat' (first | refine X.rq ?_ | (refine X.rc ?_ ?_ <;> intro hc <;> first | (exfalso; omega) | skip)))
    rw [← hfl]
    refine AT.freezeRowE (rows ++ fs) (by rw [List.length_append, hrows.1]) (by rw [List.flatten_append]) (RowsI.app hrows (hfr.le hle)).2.1 (fun h3 le3 hsl => ?_)
    have hrr := RowsI.app hrows (hfr.le hle)
    exact K.doneC (vs := [.agg [bufV a7 (l.length + fs.length) cap7, .int .u32 t.bad, .int .i64 t.err].toArray]) (by first | exact Or.inl rfl | exact Or.inr rfl) (.cell rfl (Fx.agg rfl) (Fx.sz rfl) (K.cels_own (pre := []) (post := []) 1 rfl rfl) .nil) (hle.trans le3) (D := [_, _, _]) (H' := []) rfl ⟨rfl, _, rfl, hbad, he, by rw [List.length_append]; omega, _, rfl, rows ++ fs, hsl, hrr.1, fun j c x a b => (hrr.2.2 j c x a b).le le3⟩
theorem ImgsV.nil (h : Base) : ImgsV h (.slice none 0 0) [] := ⟨[], SL.nil, rfl, fun j c x hj => by simp at hj⟩
set_option maxHeartbeats 1000000 in
theorem Copied (h : Base) (cs : List Value) (t : PTree) (hx : TreeC h cs t) (hs : ∀ x ∈ t.pages, small x.to.cells) (hl : t.pages.length ≤ 100000) :
    Tr Try.prog 8 [.agg cs.toArray] h [] (fun u h' H' => H' = [] ∧ ∃ ds, u = .agg ds.toArray ∧ TreeC h' ds t) := by
  obtain ⟨hbad, he, hpl, pv, rfl, hiv⟩ := hx
  obtain ⟨es, hv, he1, hr1⟩ := id hiv
  obtain ⟨ao, ca, rfl⟩ := hv.len
  have hw := With h (cT ⟨[], t.bad, t.err⟩ (.slice none 0 0)) ⟨[], t.bad, t.err⟩ _ t.pages ⟨hbad, he, Nat.zero_le _, _, rfl, ImgsV.nil h⟩ hiv hs hl (Nat.zero_le _)
  refine K.enter Try.func8 rfl (Nat.le_of_ble_eq_true rfl) (fun F => ?_)
  (repeat' (first | refine X.rq ?_ | (refine X.rc ?_ ?_ <;> intro hc <;> first | (exfalso; omega) | skip)))
  refine K.l_box rfl rfl rfl (fun B1 => ?_)
  refine K.l_alloc (Fx.zr rfl) rfl rfl (fun B2 => ?_)
  (repeat' (first | refine X.rq ?_ | (refine X.rc ?_ ?_ <;> intro hc <;> first | (exfalso; omega) | skip)))
  refine K.l_call (Fx.cal rfl) rfl hw (K.pp [] rfl) rfl ?_
  rintro u h' H' hle ⟨rfl, ds, rfl, hd⟩
  obtain ⟨hb2, he2, hl2, pv2, rfl, hiv2⟩ := hd
  obtain ⟨es2, hv2, he3, hr2⟩ := id hiv2
  obtain ⟨ao2, ca2, rfl⟩ := hv2.len
  simp only [List.set_cons_zero, List.set_cons_succ, List.eraseIdx_cons_zero, List.eraseIdx_cons_succ, List.cons_append, List.nil_append]
  (repeat' (first | refine X.rq ?_ | (refine X.rc ?_ ?_ <;> intro hc <;> first | (exfalso; omega) | skip)))
  refine X.stw ?_
  simp only [List.set_cons_zero, List.set_cons_succ, List.eraseIdx_cons_zero, List.eraseIdx_cons_succ, List.cons_append, List.nil_append]
  (repeat' (first | refine X.rq ?_ | (refine X.rc ?_ ?_ <;> intro hc <;> first | (exfalso; omega) | skip)))
  exact K.doneC (vs := [.agg [.slice ao2 es2.length ca2, .int .u32 t.bad, .int .i64 t.err].toArray]) (by first | exact Or.inl rfl | exact Or.inr rfl) (.cell rfl (Fx.agg rfl) (Fx.sz rfl) (K.cels_own (pre := []) (post := []) 0 rfl rfl) .nil) hle (D := [_, _]) (H' := []) rfl ⟨rfl, _, rfl, hbad, he, hpl, _, rfl, by rw [List.append_nil] at hiv2; exact hiv2⟩
end Go.Proofs.Ytahdbncfegedjaa.Nd
