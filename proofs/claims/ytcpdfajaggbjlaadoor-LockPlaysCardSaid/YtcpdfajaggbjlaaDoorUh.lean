/-
  Does one wait, over pairs, for another one? The document's. Conditions: each theorem's own.
-/
import Derived.Test.YtcpdfajaggbjlaaDoorUg

namespace Go.Proofs.YtcpdfajaggbjlaaDoor.Lk
open Go Go.K Go.Proofs Go.Proofs.YtcpdfajaggbjlaaDoor
set_option linter.unusedVariables false
set_option linter.unusedSimpArgs false
set_option maxRecDepth 10000

abbrev bufN (a : Option Nat) (k : Nat) (l : List Nat) : Asrt := bufA 34 1 a l.length k (l.map nV)
theorem In (h : Base) (v : Value) (l : List Nat) (x : Nat) (hv : SL h 1 v (l.map fun n => [nV n])) (hl : l.length ≤ 17592186044415) :
    TrV Tryd.prog 49 [v, .int .u32 x] h [] (.bool (decide (x ∈ l))) [] := by
  have hlen : (l.map fun n => [nV n]).length = l.length := List.length_map ..
  obtain ⟨ao, ca, rfl⟩ := hv.len
  rw [hlen] at hv ⊢
  refine K.enter Tryd.func49 rfl (Nat.le_of_ble_eq_true rfl) (fun F => ?_)
  simp only [List.nil_append, List.cons_append]
  (repeat' (first | refine X.rq ?_ | (refine X.rc ?_ ?_ <;> intro hc <;> first | (exfalso; omega) | skip)))
  refine K.c_loop (σ := Nat) (fun j => [(0, .slice ao l.length ca), (1, .int .u32 x), (5, .int .i64 j)]) (fun _ => h) (fun _ => F) (fun j => j ≤ l.length ∧ x ∉ l.take j) (fun j => l.length - j) 0 ⟨Nat.zero_le _, by rw [List.take_zero]; exact List.not_mem_nil⟩ (by repeat (first | exact K.Sub.nil _ | refine K.Sub.cons rfl ?_)) rfl rfl ?_
  rintro j ⟨hj, hno⟩ KL hKL
  by_cases hjl : j < l.length
  · have hx1 : l[j]? = some l[j] := List.getElem?_eq_getElem hjl
    have htk : l.take (j + 1) = l.take j ++ [l[j]] := List.take_succ_eq_append_getElem hjl
    have hmem : l[j] ∈ l := List.getElem_mem hjl
    generalize l[j] = y at hx1 htk hmem
    have hc0 : (l.map fun n => [nV n])[j]? = some [nV y] := by rw [List.getElem?_map, hx1]; rfl
    obtain ⟨bb, oo, rfl, hcx⟩ := hv.at hc0
    (repeat' (first | refine X.rq ?_ | (refine X.rc ?_ ?_ <;> intro hc <;> first | (exfalso; omega) | skip)))
    refine K.s_pure (K.p_load (v := .int .u32 y) (Fx.agg rfl) rfl (Cels.up hcx).1) rfl ?_
    by_cases hy : y = x
    · subst hy
      rw [decide_eq_true hmem]
      (repeat' (first | refine X.rq ?_ | (refine X.rc ?_ ?_ <;> intro hc <;> first | (exfalso; omega) | skip)))
      all_goals first | (exfalso; simp_all; done) | skip
      refine K.done (by first | exact Or.inl rfl | exact Or.inr rfl) rfl (by first | exact K.Base.le.refl _ | assumption) (H' := []) rfl ⟨rfl, rfl, rfl⟩
    · (repeat' (first | refine X.rq ?_ | (refine X.rc ?_ ?_ <;> intro hc <;> first | (exfalso; omega) | skip)))
      all_goals first | (exfalso; omega) | skip
      refine K.a_round hKL (j+1) ⟨by omega, by
        rw [htk]
        intro e
        rcases List.mem_append.1 e with e | e
        · exact hno e
        · exact hy (List.mem_singleton.1 e).symm⟩ (by repeat (first | exact K.Sub.nil _ | refine K.Sub.cons rfl ?_)) rfl rfl (by omega)
  · obtain rfl : j = l.length := by omega
    rw [List.take_length] at hno
    rw [decide_eq_false hno]
    (repeat' (first | refine X.rq ?_ | (refine X.rc ?_ ?_ <;> intro hc <;> first | (exfalso; omega) | skip)))
    refine K.done (by first | exact Or.inl rfl | exact Or.inr rfl) rfl (by first | exact K.Base.le.refl _ | assumption) (H' := []) rfl ⟨rfl, rfl, rfl⟩
theorem says_n {h : Base} {a : Option Nat} {k : Nat} {l : List Nat} (hs : Says h [bufN a k l]) : SL h 1 (bufV a l.length k) (l.map fun n => [nV n]) := by
  have hz : (l.map fun n => [nV n]).length = l.length := List.length_map ..
  have := K.says_sl (T := 34) (a := a) (cap := k) (es := l.map fun n => [nV n]) (sz := 1) (fun e he => by
    obtain ⟨n, _, rfl⟩ := List.mem_map.1 he
    rfl) (by rw [hz, flat1]; exact hs)
  rwa [hz] at this
theorem InA (h : Base) (a : Option Nat) (k : Nat) (l : List Nat) (x : Nat) (hl : l.length ≤ 17592186044415) :
    TrV Tryd.prog 49 [bufV a l.length k, .int .u32 x] h [bufN a k l] (.bool (decide (x ∈ l))) [bufN a k l] :=
  K.TrV.borrow (A := [bufN a k l]) (R := []) fun h' hle hs => In h' _ l x (says_n hs) hl
/-- What is so while one's pairs are followed. -/
structure RchI (w : List PW) (fr to : Nat) (S q : List Nat) : Prop where
  nd : S.Nodup
  sub : ∀ x ∈ S, x ∈ w.map (·.2)
  reach : ∀ x ∈ S, ReachW w fr x
  no : to ∉ S
  que : ∀ x ∈ q, x = fr ∨ x ∈ S
  shut : ∀ x, (x = fr ∨ x ∈ S) → x ∉ q → ∀ y, (x, y) ∈ w → y ∈ S
theorem RchI.start (w : List PW) (fr to : Nat) : RchI w fr to [] [fr] :=
  ⟨List.Pairwise.nil, (fun x h => by cases h), (fun x h => by cases h), List.not_mem_nil, (fun x h => .inl (List.mem_singleton.1 h)), fun x h hn => h.elim (fun e => absurd (List.mem_singleton.2 e) hn) fun e => by cases e⟩
theorem RchI.done {w : List PW} {fr to : Nat} {S : List Nat} (h : RchI w fr to S []) : ¬ReachW w fr to := by
  have key : ∀ {a b : Nat}, ReachW w a b → (a = fr ∨ a ∈ S) → b ∈ S := by
    intro a b hr
    induction hr with
    | one h1 => exact fun e => h.shut _ e List.not_mem_nil _ h1
    | more h1 _ ih => exact fun e => ih (.inr (h.shut _ e List.not_mem_nil _ h1))
  exact fun e => h.no (key e (.inl rfl))
/-- The same while one of them is looked at. -/
structure RchJ (w : List PW) (fr to u : Nat) (S q : List Nat) (i : Nat) : Prop where
  nd : S.Nodup
  sub : ∀ x ∈ S, x ∈ w.map (·.2)
  reach : ∀ x ∈ S, ReachW w fr x
  no : to ∉ S
  que : ∀ x ∈ q, x = fr ∨ x ∈ S
  who : u = fr ∨ u ∈ S
  shut : ∀ x, (x = fr ∨ x ∈ S) → x ∉ q → x ≠ u → ∀ y, (x, y) ∈ w → y ∈ S
  got : ∀ p ∈ w.take i, p.1 = u → p.2 ∈ S
theorem RchI.open {w : List PW} {fr to u : Nat} {S q : List Nat} (h : RchI w fr to S (u :: q)) : RchJ w fr to u S q 0 :=
  ⟨h.nd, h.sub, h.reach, h.no, fun x hx => h.que x (List.mem_cons_of_mem _ hx), h.que u List.mem_cons_self, fun x hx hn hu y hy => h.shut x hx (fun e => (List.mem_cons.1 e).elim hu hn) y hy, fun p hp => by cases hp⟩
theorem RchJ.close {w : List PW} {fr to u : Nat} {S q : List Nat} (h : RchJ w fr to u S q w.length) : RchI w fr to S q :=
  ⟨h.nd, h.sub, h.reach, h.no, h.que, fun x hx hn y hy => by
    by_cases hu : x = u
    · exact h.got (x, y) (by rw [List.take_length]; exact hy) hu
    · exact h.shut x hx hn hu y hy⟩
theorem RchJ.pass {w : List PW} {fr to u i : Nat} {S q : List Nat} (h : RchJ w fr to u S q i) {p : PW} (hp : w[i]? = some p) (hs : p.1 = u → p.2 ∈ S) : RchJ w fr to u S q (i + 1) :=
  ⟨h.nd, h.sub, h.reach, h.no, h.que, h.who, h.shut, fun r hr hru => by
    rw [take_atW hp] at hr
    rcases List.mem_append.1 hr with hr | hr
    · exact h.got r hr hru
    · rw [List.mem_singleton.1 hr] at hru ⊢; exact hs hru⟩
theorem RchJ.from {w : List PW} {fr to u i : Nat} {S q : List Nat} (h : RchJ w fr to u S q i) {p : PW} (hp : w[i]? = some p) (hu : p.1 = u) : ReachW w fr p.2 := by
  have hm : (u, p.2) ∈ w := by rw [← hu]; exact List.mem_of_getElem? hp
  rcases h.who with e | e
  · rw [← e]; exact .one hm
  · exact (h.reach u e).trans (.one hm)
theorem RchJ.add {w : List PW} {fr to u i : Nat} {S q : List Nat} (h : RchJ w fr to u S q i) {p : PW} (hp : w[i]? = some p) (hu : p.1 = u) (hn : p.2 ∉ S) (ht : p.2 ≠ to) : RchJ w fr to u (S ++ [p.2]) (q ++ [p.2]) (i + 1) :=
  ⟨List.nodup_append.2 ⟨h.nd, List.pairwise_singleton _ _, fun x hx y hy e => hn (by rw [← List.mem_singleton.1 hy, ← e]; exact hx)⟩, fun x hx => by
    rcases List.mem_append.1 hx with hx | hx
    · exact h.sub x hx
    · rw [List.mem_singleton.1 hx]; exact List.mem_map.2 ⟨p, List.mem_of_getElem? hp, rfl⟩, fun x hx => by
    rcases List.mem_append.1 hx with hx | hx
    · exact h.reach x hx
    · rw [List.mem_singleton.1 hx]; exact h.from hp hu, fun e => by
    rcases List.mem_append.1 e with e | e
    · exact h.no e
    · exact ht (List.mem_singleton.1 e).symm, fun x hx => by
    rcases List.mem_append.1 hx with hx | hx
    · exact (h.que x hx).imp id fun e => List.mem_append_left _ e
    · exact .inr (List.mem_append_right _ hx), h.who.imp id fun e => List.mem_append_left _ e, fun x hx hnq hxu y hy => by
    have hx2 : x = fr ∨ x ∈ S := by
      rcases hx with e | e
      · exact .inl e
      · rcases List.mem_append.1 e with e | e
        · exact .inr e
        · exact absurd (List.mem_append_right _ e) hnq
    exact List.mem_append_left _ (h.shut x hx2 (fun e => hnq (List.mem_append_left _ e)) hxu y hy), fun r hr hru => by
    rw [take_atW hp] at hr
    rcases List.mem_append.1 hr with hr | hr
    · exact List.mem_append_left _ (h.got r hr hru)
    · rw [List.mem_singleton.1 hr]; exact List.mem_append_right _ (List.mem_singleton.2 rfl)⟩
theorem rch_len {w : List PW} {S : List Nat} (h1 : S.Nodup) (h2 : ∀ x ∈ S, x ∈ w.map (·.2)) : S.length ≤ w.length := by
  have := nodup_le h1 h2
  rwa [List.length_map] at this
structure RcS where
  a : Option Nat
  k : Nat
  S : List Nat
  b : Option Nat
  o : Nat
  c : Nat
  q : List Nat
structure RdS where
  i : Nat
  a : Option Nat
  k : Nat
  S : List Nat
  b : Option Nat
  o : Nat
  c : Nat
  q : List Nat
set_option maxHeartbeats 8000000 in
theorem Reaches (h : Base) (v : Value) (w : List PW) (fr to : Nat) (hv : SL h 2 v (w.map cW)) (hwl : w.length ≤ 999998000001) :
    Tr Tryd.prog 25 [v, .int .u32 fr, .int .u32 to] h [] (fun u h' H' => h' = h ∧ ∃ b : Bool, u = .bool b ∧ (b = true ↔ ReachW w fr to) ∧ H' = []) := by
  have hlen : (w.map cW).length = w.length := List.length_map ..
  obtain ⟨ao, ca, rfl⟩ := hv.len
  rw [hlen] at hv ⊢
  refine K.enter Tryd.func25 rfl (Nat.le_of_ble_eq_true rfl) (fun F => ?_)
  simp only [List.nil_append, List.cons_append]
  (repeat' (first | refine X.rq ?_ | (refine X.rc ?_ ?_ <;> intro hc <;> first | (exfalso; omega) | skip)))
  refine K.l_buildSlice (Fx.und rfl) (Fx.sz rfl) rfl (Fx.zr rfl) rfl rfl rfl rfl rfl (fun B => ?_)
  refine K.WL.bufOf (m := 0) (s := 1) rfl (by unfold maxLen; omega) ?_
  (repeat' (first | refine X.rq ?_ | (refine X.rc ?_ ?_ <;> intro hc <;> first | (exfalso; omega) | skip)))
  refine K.l_buildSlice (Fx.und rfl) (Fx.sz rfl) rfl (Fx.zr rfl) rfl rfl rfl (cs := [.int .u32 fr]) rfl rfl (fun Bq => ?_)
  refine K.WL.toQu (by unfold maxLen; simp) ?_
  (repeat' (first | refine X.rq ?_ | (refine X.rc ?_ ?_ <;> intro hc <;> first | (exfalso; omega) | skip)))
  refine K.c_loop (σ := RcS) (fun s => [(0, .slice ao w.length ca), (1, .int .u32 fr), (2, .int .u32 to), (6, .bool false), (7, bufV s.a s.S.length s.k), (8, quV s.b s.o s.q.length s.c)]) (fun _ => h)
    (fun s => quA 34 s.b s.o s.q.length s.c (s.q.map nV) :: bufN s.a s.k s.S :: F) (fun s => RchI w fr to s.S s.q ∧ s.q.length ≤ s.S.length + 1) (fun s => 2 * (w.length - s.S.length) + s.q.length) ⟨some B, 0, [], some Bq, 0, 1, [fr]⟩ ⟨RchI.start w fr to, by simp⟩ (by repeat (first | exact K.Sub.nil _ | refine K.Sub.cons rfl ?_)) rfl rfl ?_
  rintro ⟨a, k, S, b, o, c, q⟩ ⟨hI, hql⟩ KL hKL
  dsimp only at hI hql ⊢
  have hSl := rch_len hI.nd hI.sub
  cases q with
  | nil =>
    have hno := hI.done
    (repeat' (first | refine X.rq ?_ | (refine X.rc ?_ ?_ <;> intro hc <;> first | (exfalso; omega) | skip)))
    refine K.AT.sel [0, 0] rfl ?_
    refine K.done (by first | exact Or.inl rfl | exact Or.inr rfl) rfl (by first | exact K.Base.le.refl _ | assumption) (H' := []) rfl ⟨rfl, false, rfl, ⟨(fun e => by cases e), fun e => absurd e hno⟩, rfl⟩
  | cons u q =>
    have hJ := hI.open
    rw [List.length_cons] at hql
    refine K.WC.someQu (by simp) (fun bq hb' hroom hcm => ?_)
    subst hb'
    rw [List.length_cons] at hroom ⊢
    rw [List.map_cons]
    (repeat' (first | refine X.rq ?_ | (refine X.rc ?_ ?_ <;> intro hc <;> first | (exfalso; omega) | skip)))
    refine K.s_pure (K.p_load (v := nV u) (Fx.agg rfl) rfl (K.cel_qu 0 rfl)) rfl ?_
    (repeat' (first | refine X.rq ?_ | (refine X.rc ?_ ?_ <;> intro hc <;> first | (exfalso; omega) | skip)))
    refine K.s_pure (K.p_slice (k1 := .i64) (k2 := .i64) (l := 1) (u := q.length + 1) (ao := some ⟨bq, if c = 1 then o else o + 1, none⟩) (Fx.und rfl) (Fx.sz rfl) rfl ⟨1, rfl, rfl⟩ rfl (by omega) (by omega) (by split <;> rfl)) rfl ?_
    refine K.WL.tailQu ?_
    rw [Nat.add_sub_cancel]
    generalize (if c = 1 then o else o + 1) = o2
    have hc1 : c - 1 ≤ maxLen := by omega
    generalize c - 1 = c2 at hc1
    (repeat' (first | refine X.rq ?_ | (refine X.rc ?_ ?_ <;> intro hc <;> first | (exfalso; omega) | skip)))
    refine K.c_loop (σ := RdS) (fun s => [(0, .slice ao w.length ca), (1, .int .u32 fr), (2, .int .u32 to), (6, .bool false), (7, bufV s.a s.S.length s.k), (8, quV s.b s.o s.q.length s.c), (9, .int .u32 u), (10, .int .i64 s.i)]) (fun _ => h)
      (fun s => quA 34 s.b s.o s.q.length s.c (s.q.map nV) :: bufN s.a s.k s.S :: F) (fun s => s.i ≤ w.length ∧ RchJ w fr to u s.S s.q s.i ∧ s.q.length + S.length = q.length + s.S.length ∧ S.length ≤ s.S.length) (fun s => w.length - s.i) ⟨0, a, k, S, some bq, o2, c2, q⟩ ⟨Nat.zero_le _, hJ, rfl, Nat.le_refl _⟩ (by repeat (first | exact K.Sub.nil _ | refine K.Sub.cons rfl ?_)) rfl rfl ?_
    rintro ⟨i, a1, k1, S1, b1, o1, c1, q1⟩ ⟨hi, hJ1, hq1, hq2⟩ KM hKM
    dsimp only at hi hJ1 hq1 hq2 ⊢
    have hS1 := rch_len hJ1.nd hJ1.sub
    by_cases hil : i < w.length
    · have hx1 : w[i]? = some w[i] := List.getElem?_eq_getElem hil
      generalize w[i] = p at hx1
      have hc0 : (w.map cW)[i]? = some (cW p) := by rw [List.getElem?_map, hx1]; rfl
      obtain ⟨bb, oo, rfl, hcp⟩ := hv.at hc0
      have hin := InA h a1 k1 S1 p.2 (by omega)
      (repeat' (first | refine X.rq ?_ | (refine X.rc ?_ ?_ <;> intro hc <;> first | (exfalso; omega) | skip)))
      refine K.s_pure (K.p_load (v := .int .u32 p.1) (Fx.agg rfl) rfl (Cels.up hcp).1) rfl ?_
      by_cases hu : p.1 = u
      · (repeat' (first | refine X.rq ?_ | (refine X.rc ?_ ?_ <;> intro hc <;> first | (exfalso; omega) | skip)))
        all_goals first | (exfalso; simp_all; done) | skip
        refine K.s_pure (K.p_load (v := .int .u32 p.2) (Fx.agg rfl) rfl (Cels.up hcp).2.1) rfl ?_
        (repeat' (first | refine X.rq ?_ | (refine X.rc ?_ ?_ <;> intro hc <;> first | (exfalso; omega) | skip)))
        refine K.l_callV (Fx.cal rfl) rfl hin (K.pp [1] rfl) rfl rfl ?_
        simp only [List.nil_append, List.cons_append]
        simp only [List.set_cons_zero, List.set_cons_succ, List.eraseIdx_cons_zero, List.eraseIdx_cons_succ, List.cons_append, List.nil_append]
        refine K.WL.perm (K.pp [1] rfl) ?_
        simp only [List.set_cons_zero, List.set_cons_succ, List.eraseIdx_cons_zero, List.eraseIdx_cons_succ, List.cons_append, List.nil_append]
        by_cases hm : p.2 ∈ S1
        · rw [decide_eq_true hm]
          (repeat' (first | refine X.rq ?_ | (refine X.rc ?_ ?_ <;> intro hc <;> first | (exfalso; omega) | skip)))
          refine K.a_round hKM ⟨i + 1, a1, k1, S1, b1, o1, c1, q1⟩ ⟨by dsimp only; omega, hJ1.pass hx1 (fun _ => hm), hq1, hq2⟩ (by repeat (first | exact K.Sub.nil _ | refine K.Sub.cons rfl ?_)) rfl rfl (by dsimp only; omega)
        · rw [decide_eq_false hm]
          have hto := hJ1.from hx1 hu
          (repeat' (first | refine X.rq ?_ | (refine X.rc ?_ ?_ <;> intro hc <;> first | (exfalso; omega) | skip)))
          refine K.s_pure (K.p_load (v := .int .u32 p.2) (Fx.agg rfl) rfl (Cels.up hcp).2.1) rfl ?_
          by_cases ht : p.2 = to
          · subst ht
            (repeat' (first | refine X.rq ?_ | (refine X.rc ?_ ?_ <;> intro hc <;> first | (exfalso; omega) | skip)))
            all_goals first | (exfalso; simp_all; done) | skip
            refine K.AT.sel [0, 0] rfl ?_
            refine K.done (by first | exact Or.inl rfl | exact Or.inr rfl) rfl (by first | exact K.Base.le.refl _ | assumption) (H' := []) rfl ⟨rfl, true, rfl, ⟨fun _ => hto, fun _ => rfl⟩, rfl⟩
          · have hJ2 := hJ1.add hx1 hu hm ht
            have hS2 := rch_len hJ2.nd hJ2.sub
            rw [List.length_append, List.length_singleton] at hS2
            (repeat' (first | refine X.rq ?_ | (refine X.rc ?_ ?_ <;> intro hc <;> first | (exfalso; omega) | skip)))
            all_goals first | (exfalso; omega) | skip
            refine K.s_pure (K.p_load (v := .int .u32 p.2) (Fx.agg rfl) rfl (Cels.up hcp).2.1) rfl ?_
            (repeat' (first | refine X.rq ?_ | (refine X.rc ?_ ?_ <;> intro hc <;> first | (exfalso; omega) | skip)))
            refine K.l_buildSlice (Fx.und rfl) (Fx.sz rfl) rfl (Fx.zr rfl) rfl rfl rfl (cs := [.int .u32 p.2]) rfl rfl (fun Bs => ?_)
            refine K.l_append_at 2 rfl (Fx.und rfl) (Fx.und rfl) rfl (Fx.sz rfl) (Fx.zr rfl) rfl (Fx.byt rfl) rfl rfl (K.src_cells (K.cels_own (pre := []) (cs := [.int .u32 p.2]) (post := []) 0 rfl rfl) rfl (by simp [oneCell])) (by omega) (by omega) rfl (fun a3 k3 => ?_)
            simp only [List.set_cons_zero, List.set_cons_succ, List.eraseIdx_cons_zero, List.eraseIdx_cons_succ, List.cons_append, List.nil_append]
            refine K.WL.drop ?_
            (repeat' (first | refine X.rq ?_ | (refine X.rc ?_ ?_ <;> intro hc <;> first | (exfalso; omega) | skip)))
            refine K.s_pure (K.p_load (v := .int .u32 p.2) (Fx.agg rfl) rfl (Cels.up hcp).2.1) rfl ?_
            (repeat' (first | refine X.rq ?_ | (refine X.rc ?_ ?_ <;> intro hc <;> first | (exfalso; omega) | skip)))
            refine K.l_buildSlice (Fx.und rfl) (Fx.sz rfl) rfl (Fx.zr rfl) rfl rfl rfl (cs := [.int .u32 p.2]) rfl rfl (fun Bt => ?_)
            refine K.WL.perm (K.pp [1] rfl) ?_
            simp only [List.set_cons_zero, List.set_cons_succ, List.eraseIdx_cons_zero, List.eraseIdx_cons_succ, List.cons_append, List.nil_append]
            refine K.l_appendQ (Fx.und rfl) (Fx.sz rfl) (Fx.zr rfl) rfl (Fx.byt rfl) rfl rfl (K.src_cells (K.cels_own (pre := []) (cs := [.int .u32 p.2]) (post := []) 0 rfl rfl) rfl (by simp [oneCell])) (by omega) (by omega) rfl (fun b4 o4 c4 => ?_)
            (repeat' (first | refine X.rq ?_ | (refine X.rc ?_ ?_ <;> intro hc <;> first | (exfalso; omega) | skip)))
            refine K.AT.sel [1] rfl ?_
            refine K.a_round hKM ⟨i + 1, a3, k3, S1 ++ [p.2], b4, o4, c4, q1 ++ [p.2]⟩ ⟨by dsimp only; omega, hJ2, by dsimp only; rw [List.length_append, List.length_append, List.length_singleton]; omega, by dsimp only; rw [List.length_append, List.length_singleton]; omega⟩ ?_ rfl ?_ (by dsimp only; omega)
            · dsimp only
              rw [List.length_append, List.length_append, List.length_singleton]
              exact (by repeat (first | exact K.Sub.nil _ | refine K.Sub.cons rfl ?_))
            · dsimp only
              rw [bufN, List.length_append, List.length_append, List.length_singleton, List.map_append, List.map_append]
              rfl
      · (repeat' (first | refine X.rq ?_ | (refine X.rc ?_ ?_ <;> intro hc <;> first | (exfalso; omega) | skip)))
        all_goals first | (exfalso; simp_all; done) | skip
        refine K.a_round hKM ⟨i + 1, a1, k1, S1, b1, o1, c1, q1⟩ ⟨by dsimp only; omega, hJ1.pass hx1 (fun e => absurd e hu), hq1, hq2⟩ (by repeat (first | exact K.Sub.nil _ | refine K.Sub.cons rfl ?_)) rfl rfl (by dsimp only; omega)
    · obtain rfl : i = w.length := by omega
      have hI1 := hJ1.close
      (repeat' (first | refine X.rq ?_ | (refine X.rc ?_ ?_ <;> intro hc <;> first | (exfalso; omega) | skip)))
      refine K.a_round hKL ⟨a1, k1, S1, b1, o1, c1, q1⟩ ⟨hI1, by dsimp only; omega⟩ (by repeat (first | exact K.Sub.nil _ | refine K.Sub.cons rfl ?_)) rfl rfl (by dsimp only; rw [List.length_cons]; omega)
end Go.Proofs.YtcpdfajaggbjlaaDoor.Lk
