/-
 Who is alive: the code. Conditions: each theorem's own.
-/
import Derived.Test.YtkdngpiiecmpgaaGreatQ24
import Derived.Test.YtkdngpiiecmpgaaGreatQ41
import Derived.Test.YtkdngpiiecmpgaaGreatQ42
namespace Go.Proofs.YtkdngpiiecmpgaaGreat.Ch
open Go Go.K Go.Proofs Go.Proofs.YtkdngpiiecmpgaaGreat Go.Proofs.YtkdngpiiecmpgaaGreat.Pg Go.Proofs.YtkdngpiiecmpgaaGreat.Rc
set_option linter.unusedVariables false
set_option linter.unusedSimpArgs false
set_option maxRecDepth 10000

def Analysed (h : Base) (l : List Recd) (c : Nat) (u : Value) (h' : Base) (H' : List Asrt) : Prop :=
 h = h' ∧ ((analyseQ l c = none ∧ u = .tuple #[.slice none 0 0, .slice none 0 0, .int .u32 0, .int .i64 5] ∧ H' = []) ∨
  ∃ s m1 c1 m2 c2 a1 k1 a2 k2, analyseQ l c = some s ∧ Rel m1 c1 m2 c2 s ∧ u = .tuple #[bufV a1 s.lives.length k1, bufV a2 s.dirty.length k2, .int .u32 s.next, .int .i64 0] ∧
   H' = [bufA 40 2 a2 s.dirty.length k2 (s.dirty.flatMap cD), bufA 38 4 a1 s.lives.length k1 (s.lives.flatMap cL)])
structure AnS where
 v : Value
 es : List (List Value)
 l : List Recd
 m1 : List ME
 c1 : Nat
 m2 : List ME
 c2 : Nat
 s : St
structure HeS where
 j : Nat
 m1 : List ME
 c1 : Nat
 m2 : List ME
 c2 : Nat
 s : St
structure CoS (α : Type) where
 seen : List Nat
 xs : List α
 a : Option Nat
 k : Nat
 n : Nat
 cs : List Value
theorem Coll.few {α : Type} {k : α → Nat} {m : List ME} {c : Nat} {l xs : List α} {seen : List Nat} (hc : Coll k m l seen xs) (hm : MapOk m c) {N : Nat} (hb : ∀ x ∈ l, k x < N) : xs.length ≤ N := by
 have := nodup_le (m := List.range N) (hc.nodup hm) fun y hy => by
  obtain ⟨x, hx, rfl⟩ := List.mem_map.1 hy
  exact List.mem_range.2 (hb x (hc.sub x hx))
 simpa using this
theorem hears_step {l : List Recd} {j : Nat} {x : Recd} {s : St} (h : l[j]? = some x) : hearsQ s (l.drop j) = match hearQ s x with | none => none | some s' => hearsQ s' (l.drop (j + 1)) := by
 obtain ⟨hj, rfl⟩ := List.getElem?_eq_some_iff.1 h
 rw [List.drop_eq_getElem_cons hj]
 rfl
theorem Coll.len {α : Type} {k : α → Nat} {m : List ME} {l xs : List α} {seen : List Nat} (hc : Coll k m l seen xs) : seen.length = xs.length ∧ seen.length ≤ m.length := by
 obtain ⟨es, e1, e2, e3, e4⟩ := hc.es
 refine ⟨?_, ?_⟩
 ·have := congrArg List.length e4
  rw [e1]; simpa using this
 ·have := nodup_le (m := m.map (·.2.2)) e3 fun x hx => by
   rw [e1] at hx
   obtain ⟨e, he, rfl⟩ := List.mem_map.1 hx
   exact List.mem_map_of_mem (e2 e he)
  simpa using this
set_option maxHeartbeats 16000000 in
theorem CAnalyse (h : Base) (v : Value) (es : List (List Value)) (l : List Recd) (c : Nat) (hv : SL h 15 v es) (hr : RowsG (RecC h) es l) (hl : l.length ≤ 9223372036854775807) (hs : ∀ x ∈ l, smallR x) (hc : c < 18446744073709551616) :
  Tr Tryz.prog 11 [v, .int .u64 c] h [] (Analysed h l c) := by
 have hri := CRight h v es l hv hr hl hs
 have hel := hr.1
 refine K.enter Tryz.func11 rfl (Nat.le_of_ble_eq_true rfl) (fun F => ?_)
 simp only [List.nil_append, List.cons_append]
 (repeat' (first | refine X.rq ?_ | (refine X.rc ?_ ?_ <;> intro hc <;> first | (exfalso; omega) | skip)))
 refine K.l_box rfl rfl rfl (fun B3 => ?_)
 (repeat' (first | refine X.rq ?_ | (refine X.rc ?_ ?_ <;> intro hc <;> first | (exfalso; omega) | skip)))
 refine K.l_makeMap (kk := .u32) rfl (fun b1 => ?_)
 refine K.l_makeMap (kk := .u32) rfl (fun b2 => ?_)
 (repeat' (first | refine X.rq ?_ | (refine X.rc ?_ ?_ <;> intro hc <;> first | (exfalso; omega) | skip)))
 refine K.l_box rfl rfl rfl (fun B8 => ?_)
 (repeat' (first | refine X.rq ?_ | (refine X.rc ?_ ?_ <;> intro hc <;> first | (exfalso; omega) | skip)))
 refine K.l_callV (Fx.cal rfl) rfl hri (K.pp [] rfl) rfl rfl ?_
 simp only [List.nil_append]
 cases hq : rightQ 0 l with
 | false =>
  (repeat' (first | refine X.rq ?_ | (refine X.rc ?_ ?_ <;> intro hc <;> first | (exfalso; omega) | skip)))
  refine K.AT.sel [0, 0, 0, 0] rfl ?_
  refine K.done (by first | exact Or.inl rfl | exact Or.inr rfl) rfl (by first | exact K.Base.le.refl _ | assumption) (H' := []) rfl ⟨rfl, .inl ⟨by unfold analyseQ; rw [if_pos hq], rfl, rfl⟩⟩
 | true =>
  (repeat' (first | refine X.rs ?_ | (refine X.rd ?_ ?_ <;> intro hc <;> first | (exfalso; omega) | skip)))
  apply K.c_seq
  refine K.c_join (β := AnS) (fun q => [(0, q.v), (8, stP B8)]) (fun _ => h) (fun q => stB B8 b1 b2 q.s.next :: mapA b1 .u32 q.m1 q.c1 :: mapA b2 .u32 q.m2 q.c2 :: F)
   (fun q => SL h 15 q.v q.es ∧ RowsG (RecC h) q.es q.l ∧ q.l.length ≤ 9223372036854775807 ∧ (∀ x ∈ q.l, smallR x) ∧ Rel q.m1 q.c1 q.m2 q.c2 q.s ∧ analyseQ l c = hearsQ q.s q.l) (fun KJ hJ => ?_) ?_
  ·by_cases hc0 : c = 0
   ·have hqa : analyseQ l c = hearsQ St0 l := by unfold analyseQ; rw [if_neg (by rw [hq]; decide), if_pos hc0]
    (repeat' (first | refine X.rq ?_ | (refine X.rc ?_ ?_ <;> intro hc <;> first | (exfalso; omega) | skip)))
    refine K.AT.sel [3] rfl ?_
    refine K.AT.perm (K.pp [0, 1, 0] rfl) ?_
    simp only [List.cons_append, List.nil_append]
    exact K.a_join hJ ⟨v, es, l, [], 0, [], 0, St0⟩ ⟨hv, hr, hl, hs, Rel.zero, hqa⟩ (by repeat (first | exact K.Sub.nil _ | refine K.Sub.cons rfl ?_)) rfl rfl
   ·have hqa : analyseQ l c = match checkAt l c with | none => none | some i => match l[i]? with | none => none | some r => hearsQ ⟨r.lives, r.dirty, max r.next 1⟩ (l.drop (i + 1)) := by
     unfold analyseQ; rw [if_neg (by rw [hq]; decide), if_neg hc0]; rfl
    have hix := IdxRec h [blk B3 23 [.int .u64 c]] 29 [.pointer (some ⟨B3, 0, none⟩)] (Fx.cal rfl) v es (fun j => ((l[j]?).map (isCheck c)).getD false) hv (by omega)
     (fun e he => by
      obtain ⟨j, hj⟩ := List.mem_iff_getElem?.1 he
      obtain ⟨hje, _⟩ := List.getElem?_eq_some_iff.1 hj
      exact fifteen (hr.2 j e (l[j]'(by omega)) hj (List.getElem?_eq_getElem (by omega))))
     (fun j e hj => by
      obtain ⟨hje, _⟩ := List.getElem?_eq_some_iff.1 hj
      have hlj : l[j]? = some (l[j]'(by omega)) := List.getElem?_eq_getElem (by omega)
      rw [hlj]
      exact CloIdx h B3 c e _ (hr.2 j e _ hj hlj) hc)
    (repeat' (first | refine X.rq ?_ | (refine X.rc ?_ ?_ <;> intro hc <;> first | (exfalso; omega) | skip)))
    refine K.s_pure (K.p_makeFunc rfl) rfl ?_
    refine K.l_call (Fx.cal rfl) rfl hix (K.pp [3] rfl) rfl ?_
    rintro u h' H' - ⟨e, rfl, hor⟩
    obtain rfl := e.symm
    simp only [List.cons_append, List.nil_append]
    rcases hor with ⟨i, rfl, hil, hpi, hno⟩ | ⟨rfl, hno⟩
    ·have hli : l[i]? = some (l[i]'(by omega)) := List.getElem?_eq_getElem (by omega)
     have hei : es[i]? = some (es[i]'hil) := List.getElem?_eq_getElem hil
     have hei0 : es[((i : Nat) : Int).toNat]? = some (es[i]'hil) := by rw [Int.toNat_natCast]; exact hei
     have hmem : l[i] ∈ l := List.getElem_mem (by omega)
     generalize es[i]'hil = ce at hei hei0
     generalize l[i]'(by omega) = r at hli hmem
     rw [hli] at hpi
     have hck : checkAt l c = some i := check_some hli hpi fun j hj x hx => by
      have := hno j hj
      rw [hx] at this
      exact this
     rw [hck] at hqa
     dsimp only at hqa
     rw [hli] at hqa
     dsimp only at hqa
     obtain ⟨hri1, hri2⟩ := may_rise (right_all hq r hmem).1
     obtain ⟨hw, ad, ai, al, ay, cd, ci, cl, cy, rfl, hb, _, hl4, hd2⟩ := (hr.2 i ce r hei hli).cells
     have hlv := hw.lives
     have hdv := hw.dirty
     have hwl := fun (_ : Unit) => hw.live
     have hwd := fun (_ : Unit) => hw.dirt
     have hnx := hw.next
     clear hno hix hw hpi hri
     (repeat' (first | refine X.rq ?_ | (refine X.rc ?_ ?_ <;> intro hc <;> first | (exfalso; omega) | skip)))
     refine K.s_pureE (K.p_indexL hv (Fx.und rfl) (Fx.sz rfl) rfl rfl (by omega) hei0) rfl ?_
     rintro v2 ⟨bi, oi, rfl, hcel⟩
     (repeat' (first | refine X.rq ?_ | (refine X.rc ?_ ?_ <;> intro hc <;> first | (exfalso; omega) | skip)))
     refine K.s_pure (K.p_load (Fx.agg rfl) rfl (Cels.get (Cels.up hcel) 12 (.slice al r.lives.length cl) rfl)) rfl ?_
     (repeat' (first | refine X.rq ?_ | (refine X.rc ?_ ?_ <;> intro hc <;> first | (exfalso; omega) | skip)))
     refine K.WC.sel [0] rfl ?_
     refine K.WC.perm (K.pp [0, 1, 0] rfl) ?_
     simp only [List.cons_append, List.nil_append]
     refine K.c_loop (σ := TouS) (fun q => [(0, v), (8, stP B8), (9, .int .i64 i), (40, .slice al r.lives.length cl), (41, .int .i64 r.lives.length), (42, .int .i64 q.j)]) (fun _ => h)
      (fun q => stB B8 b1 b2 1 :: mapA b1 .u32 q.m q.c :: mapA b2 .u32 [] 0 :: F)
      (fun q => q.j ≤ r.lives.length ∧ Rel q.m q.c [] 0 ⟨r.lives.take q.j, [], 1⟩) (fun q => r.lives.length - q.j) ⟨0, [], 0⟩ ⟨Nat.zero_le _, Rel.zero⟩ (by repeat (first | exact K.Sub.nil _ | refine K.Sub.cons rfl ?_)) rfl rfl ?_
     rintro ⟨j, mq, cq⟩ ⟨hj, hrel⟩ KL hKL
     dsimp only at hj hrel ⊢
     by_cases hjl : j < r.lives.length
     ·have hx1 : r.lives[j]? = some (r.lives[j]'hjl) := List.getElem?_eq_getElem hjl
      have hc0 : (r.lives.map cL)[((j : Nat) : Int).toNat]? = some (cL (r.lives[j]'hjl)) := by rw [Int.toNat_natCast, List.getElem?_map, hx1]; rfl
      have hxw := hwl () _ (List.getElem_mem hjl)
      have hit := ins_take hri1 hx1
      generalize r.lives[j]'hjl = x at hx1 hc0 hxw hit
      have hput := hrel.put x hxw
      (repeat' (first | refine X.rq ?_ | (refine X.rc ?_ ?_ <;> intro hc <;> first | (exfalso; omega) | skip)))
      refine K.s_pureE (K.p_indexL hl4 (Fx.und rfl) (Fx.sz rfl) rfl rfl (by omega) hc0) rfl ?_
      rintro v2 ⟨b2', o2, rfl, hcel2⟩
      refine K.s_pure (K.p_loadM (Fx.agg rfl) rfl (Cels.up hcel2) (Fx.sz rfl) rfl) rfl ?_
      refine K.l_alloc (Fx.zr rfl) rfl rfl (fun B11 => ?_)
      refine X.stw ?_
      simp only [List.set_cons_zero, List.set_cons_succ, List.eraseIdx_cons_zero, List.eraseIdx_cons_succ, List.cons_append, List.nil_append]
      (repeat' (first | refine X.rq ?_ | (refine X.rc ?_ ?_ <;> intro hc <;> first | (exfalso; omega) | skip)))
      refine X.draw ([stB B8 b1 b2 1, blk B11 38 (cL x)]) [7] (.pu 0 (.pu 1 (.pu 2 (.pu 4 (.st 3 (.st 5 (.st 6 (.cl 7 .nil)))))))) ?_
      refine K.d_pu rfl (fun _ _ => X.mv) rfl ?_
      refine K.d_pu rfl (fun _ _ => X.nc) rfl ?_
      refine K.d_pu rfl (fun _ _ => X.fa) rfl ?_
      refine K.d_pu rfl (fun _ _ => X.fa) rfl ?_
      refine K.d_st rfl X.ld rfl ?_
      refine K.d_st rfl X.ld rfl ?_
      refine K.d_st rfl X.ld rfl ?_
      refine K.d_cl rfl (fun KK hKK => ?_)
      refine K.l_update_at 2 rfl rfl rfl hrel.ok1 rfl rfl rfl ?_
      simp only [List.set_cons_zero, List.set_cons_succ]
      refine K.l_nil ?_
      refine K.d_clE hKK ?_
      refine K.d_nil ?_
      (repeat' (first | refine X.rq ?_ | (refine X.rc ?_ ?_ <;> intro hc <;> first | (exfalso; omega) | skip)))
      refine K.AT.drop ?_
      refine K.a_round hKL ⟨j + 1, _, _⟩ ⟨by dsimp only; omega, by dsimp only; rw [← hit]; exact hput⟩ (by repeat (first | exact K.Sub.nil _ | refine K.Sub.cons rfl ?_)) rfl rfl (by dsimp only; omega)
     ·obtain rfl : j = r.lives.length := by omega
      rw [List.take_length] at hrel
      clear hwl
      (repeat' (first | refine X.rq ?_ | (refine X.rc ?_ ?_ <;> intro hc <;> first | (exfalso; omega) | skip)))
      refine K.s_pureE (K.p_indexL hv (Fx.und rfl) (Fx.sz rfl) rfl rfl (by omega) hei0) rfl ?_
      rintro v2 ⟨bi, oi, rfl, hcel⟩
      (repeat' (first | refine X.rq ?_ | (refine X.rc ?_ ?_ <;> intro hc <;> first | (exfalso; omega) | skip)))
      refine K.s_pure (K.p_load (Fx.agg rfl) rfl (Cels.get (Cels.up hcel) 13 (.slice ay r.dirty.length cy) rfl)) rfl ?_
      (repeat' (first | refine X.rq ?_ | (refine X.rc ?_ ?_ <;> intro hc <;> first | (exfalso; omega) | skip)))
      refine K.c_loop (σ := TouS) (fun q => [(0, v), (8, stP B8), (9, .int .i64 i), (58, .slice ay r.dirty.length cy), (59, .int .i64 r.dirty.length), (60, .int .i64 q.j)]) (fun _ => h)
       (fun q => stB B8 b1 b2 1 :: mapA b1 .u32 mq cq :: mapA b2 .u32 q.m q.c :: F)
       (fun q => q.j ≤ r.dirty.length ∧ Rel mq cq q.m q.c ⟨r.lives, r.dirty.take q.j, 1⟩) (fun q => r.dirty.length - q.j) ⟨0, [], 0⟩ ⟨Nat.zero_le _, hrel⟩ (by repeat (first | exact K.Sub.nil _ | refine K.Sub.cons rfl ?_)) rfl rfl ?_
      rintro ⟨j, m2q, c2q⟩ ⟨hj, hrel2⟩ KL2 hKL2
      dsimp only at hj hrel2 ⊢
      by_cases hjl : j < r.dirty.length
      ·have hx1 : r.dirty[j]? = some (r.dirty[j]'hjl) := List.getElem?_eq_getElem hjl
       have hc0 : (r.dirty.map cD)[((j : Nat) : Int).toNat]? = some (cD (r.dirty[j]'hjl)) := by rw [Int.toNat_natCast, List.getElem?_map, hx1]; rfl
       have hxw := hwd () _ (List.getElem_mem hjl)
       have hit := ins_take hri2 hx1
       generalize r.dirty[j]'hjl = x at hx1 hc0 hxw hit
       have hput := hrel2.putD x hxw
       (repeat' (first | refine X.rq ?_ | (refine X.rc ?_ ?_ <;> intro hc <;> first | (exfalso; omega) | skip)))
       refine K.s_pureE (K.p_indexL hd2 (Fx.und rfl) (Fx.sz rfl) rfl rfl (by omega) hc0) rfl ?_
       rintro v2 ⟨b2', o2, rfl, hcel2⟩
       refine K.s_pure (K.p_loadM (Fx.agg rfl) rfl (Cels.up hcel2) (Fx.sz rfl) rfl) rfl ?_
       refine K.l_alloc (Fx.zr rfl) rfl rfl (fun B13 => ?_)
       refine X.stw ?_
       simp only [List.set_cons_zero, List.set_cons_succ, List.eraseIdx_cons_zero, List.eraseIdx_cons_succ, List.cons_append, List.nil_append]
       (repeat' (first | refine X.rq ?_ | (refine X.rc ?_ ?_ <;> intro hc <;> first | (exfalso; omega) | skip)))
       refine X.draw ([stB B8 b1 b2 1, blk B13 40 (cD x)]) [8] (.pu 0 (.pu 1 (.pu 2 (.pu 4 (.pu 6 (.st 3 (.st 5 (.st 7 (.cl 8 .nil))))))))) ?_
       refine K.d_pu rfl (fun _ _ => X.mv) rfl ?_
       refine K.d_pu rfl (fun _ _ => X.nc) rfl ?_
       refine K.d_pu rfl (fun _ _ => X.fa) rfl ?_
       refine K.d_pu rfl (fun _ _ => X.fa) rfl ?_
       refine K.d_pu rfl (fun _ _ => X.fa) rfl ?_
       refine K.d_st rfl X.ld rfl ?_
       refine K.d_st rfl X.ld rfl ?_
       refine K.d_st rfl X.ld rfl ?_
       refine K.d_cl rfl (fun KK hKK => ?_)
       refine K.l_update_at 3 rfl rfl rfl hrel2.ok2 rfl rfl rfl ?_
       simp only [List.set_cons_zero, List.set_cons_succ]
       refine K.l_nil ?_
       refine K.d_clE hKK ?_
       refine K.d_nil ?_
       (repeat' (first | refine X.rq ?_ | (refine X.rc ?_ ?_ <;> intro hc <;> first | (exfalso; omega) | skip)))
       refine K.AT.drop ?_
       refine K.a_round hKL2 ⟨j + 1, _, _⟩ ⟨by dsimp only; omega, by dsimp only; rw [← hit]; exact hput⟩ (by repeat (first | exact K.Sub.nil _ | refine K.Sub.cons rfl ?_)) rfl rfl (by dsimp only; omega)
      ·obtain rfl : j = r.dirty.length := by omega
       rw [List.take_length] at hrel2
       clear hwd
       (repeat' (first | refine X.rq ?_ | (refine X.rc ?_ ?_ <;> intro hc <;> first | (exfalso; omega) | skip)))
       refine K.s_pureE (K.p_indexL hv (Fx.und rfl) (Fx.sz rfl) rfl rfl (by omega) hei0) rfl ?_
       rintro v2 ⟨bi, oi, rfl, hcel⟩
       (repeat' (first | refine X.rq ?_ | (refine X.rc ?_ ?_ <;> intro hc <;> first | (exfalso; omega) | skip)))
       refine K.s_pure (K.p_load (Fx.agg rfl) rfl (Cels.get (Cels.up hcel) 14 (.int .u32 r.next) rfl)) rfl ?_
       (repeat' (first | refine X.rq ?_ | (refine X.rc ?_ ?_ <;> intro hc <;> first | (exfalso; omega) | skip)))
       refine X.sto ?_
       simp only [List.set_cons_zero, List.set_cons_succ, List.eraseIdx_cons_zero, List.eraseIdx_cons_succ, List.cons_append, List.nil_append]
       (repeat' (first | refine X.rq ?_ | (refine X.rc ?_ ?_ <;> intro hc <;> first | (exfalso; omega) | skip)))
       refine K.s_pureE (K.p_sliceL (k2 := .i64) (p := i + 1) (q := es.length) hv (Fx.und rfl) (Fx.sz rfl) rfl ⟨_, rfl, by omega⟩ rfl (by omega) (Nat.le_refl _)) rfl ?_
       intro v3 hv3
       rw [List.take_length] at hv3
       (repeat' (first | refine X.rq ?_ | (refine X.rc ?_ ?_ <;> intro hc <;> first | (exfalso; omega) | skip)))
       rw [show max (1 : Int) (r.next : Int) = ((max r.next 1 : Nat) : Int) from by omega]
       exact K.a_join hJ ⟨v3, es.drop (i + 1), l.drop (i + 1), mq, cq, m2q, c2q, ⟨r.lives, r.dirty, max r.next 1⟩⟩ ⟨hv3, RowsG.drop hr _, by rw [List.length_drop]; omega, fun x hx => hs x (List.mem_of_mem_drop hx), hrel2.next _ (by omega), hqa⟩ (by repeat (first | exact K.Sub.nil _ | refine K.Sub.cons rfl ?_)) rfl rfl
    ·have hck : checkAt l c = none := check_none fun x hx => by
      obtain ⟨j, hj, rfl⟩ := List.mem_iff_getElem.1 hx
      have := hno j (by omega)
      rw [List.getElem?_eq_getElem hj] at this
      exact this
     rw [hck] at hqa
     (repeat' (first | refine X.rq ?_ | (refine X.rc ?_ ?_ <;> intro hc <;> first | (exfalso; omega) | skip)))
     refine K.AT.sel [0, 0, 0, 0] rfl ?_
     refine K.done (by first | exact Or.inl rfl | exact Or.inr rfl) rfl (by first | exact K.Base.le.refl _ | assumption) (H' := []) rfl ⟨rfl, .inl ⟨hqa, rfl, rfl⟩⟩
  ·rintro ⟨v', es', l', m1, c1, m2, c2, s0⟩ ⟨hv', hr', hl', hs', hrel0, hqa⟩
   clear hv hr hl hs hri hel
   dsimp only at hv' hr' hl' hs' hrel0 hqa ⊢
   obtain ⟨ao, ca, rfl⟩ := hv'.len
   have hel' := hr'.1
   rw [hel'] at hv' ⊢
   have hs' := fun (_ : Unit) => hs'
   (repeat' (first | refine X.rq ?_ | (refine X.rc ?_ ?_ <;> intro hc <;> first | (exfalso; omega) | skip)))
   refine K.c_loop (σ := HeS) (fun q => [(8, stP B8), (86, .slice ao l'.length ca), (87, .int .i64 l'.length), (88, .int .i64 q.j)]) (fun _ => h)
    (fun q => stB B8 b1 b2 q.s.next :: mapA b1 .u32 q.m1 q.c1 :: mapA b2 .u32 q.m2 q.c2 :: F)
    (fun q => q.j ≤ l'.length ∧ Rel q.m1 q.c1 q.m2 q.c2 q.s ∧ analyseQ l c = hearsQ q.s (l'.drop q.j)) (fun q => l'.length - q.j) ⟨0, m1, c1, m2, c2, s0⟩ ⟨Nat.zero_le _, hrel0, hqa⟩ (by repeat (first | exact K.Sub.nil _ | refine K.Sub.cons rfl ?_)) rfl rfl ?_
   clear hrel0 hqa
   rintro ⟨j, m1, c1, m2, c2, s⟩ ⟨hj, hrel, hqa⟩ KL hKL
   dsimp only at hj hrel hqa ⊢
   by_cases hjl : j < l'.length
   ·have hc1 : es'[j]? = some (es'[j]'(by omega)) := List.getElem?_eq_getElem (by omega)
    have hc0 : es'[((j : Nat) : Int).toNat]? = some (es'[j]'(by omega)) := by rw [Int.toNat_natCast]; exact hc1
    have hx1 : l'[j]? = some (l'[j]'(by omega)) := List.getElem?_eq_getElem (by omega)
    have hsx := hs' () _ (List.getElem_mem (h := hjl))
    generalize es'[j]'(by omega) = ce at hc0 hc1
    generalize l'[j]'(by omega) = r at hx1 hsx
    have hxc := hr'.2 j ce r hc1 hx1
    rw [hears_step hx1] at hqa
    have hhe := CHear h B8 b1 b2 m1 m2 c1 c2 s hrel ce r hxc hsx
    obtain ⟨_, ad, ai, al, ay, cd, ci, cl, cy, rfl, _⟩ := hxc.cells
    clear hxc hsx
    (repeat' (first | refine X.rq ?_ | (refine X.rc ?_ ?_ <;> intro hc <;> first | (exfalso; omega) | skip)))
    refine K.s_pureE (K.p_indexL hv' (Fx.und rfl) (Fx.sz rfl) rfl rfl (by omega) hc0) rfl ?_
    rintro v2 ⟨b2', o2, rfl, hcel⟩
    refine K.s_pure (K.p_loadM (Fx.agg rfl) rfl (Cels.up hcel) (Fx.sz rfl) rfl) rfl ?_
    refine K.l_alloc (Fx.zr rfl) rfl rfl (fun B15 => ?_)
    refine X.stw ?_
    simp only [List.set_cons_zero, List.set_cons_succ, List.eraseIdx_cons_zero, List.eraseIdx_cons_succ, List.cons_append, List.nil_append]
    (repeat' (first | refine X.rq ?_ | (refine X.rc ?_ ?_ <;> intro hc <;> first | (exfalso; omega) | skip)))
    refine K.l_call (Fx.cal rfl) rfl hhe (K.pp [2, 2, 1] rfl) rfl ?_
    rintro u h' H' - ⟨e, ok, m1', c1', m2', c2', nx, rfl, rfl, hok, hno⟩
    obtain rfl := e.symm
    simp only [List.cons_append, List.nil_append]
    cases ok with
    | false =>
     rw [hno rfl] at hqa
     (repeat' (first | refine X.rq ?_ | (refine X.rc ?_ ?_ <;> intro hc <;> first | (exfalso; omega) | skip)))
     refine K.AT.sel [0, 0, 0, 0] rfl ?_
     refine K.done (by first | exact Or.inl rfl | exact Or.inr rfl) rfl (by first | exact K.Base.le.refl _ | assumption) (H' := []) rfl ⟨rfl, .inl ⟨hqa, rfl, rfl⟩⟩
    | true =>
     obtain ⟨s', h1, h2, rfl⟩ := hok rfl
     rw [h1] at hqa
     (repeat' (first | refine X.rq ?_ | (refine X.rc ?_ ?_ <;> intro hc <;> first | (exfalso; omega) | skip)))
     refine K.AT.sel [3] rfl ?_
     refine K.AT.perm (K.pp [2, 0, 0] rfl) ?_
     simp only [List.cons_append, List.nil_append]
     refine K.a_round hKL ⟨j + 1, m1', c1', m2', c2', s'⟩ ⟨by dsimp only; omega, h2, hqa⟩ (by repeat (first | exact K.Sub.nil _ | refine K.Sub.cons rfl ?_)) rfl rfl (by dsimp only; omega)
   ·obtain rfl : j = l'.length := by omega
    rw [List.drop_length] at hqa
    have hqa : analyseQ l c = some s := hqa
    clear hs' hr' hv'
    have hm1 := hrel.ok1
    have hm2 := hrel.ok2
    (repeat' (first | refine X.rq ?_ | (refine X.rc ?_ ?_ <;> intro hc <;> first | (exfalso; omega) | skip)))
    refine K.l_range 1 rfl rfl rfl rfl (fun R1 => ?_)
    (repeat' (first | refine X.rq ?_ | (refine X.rc ?_ ?_ <;> intro hc <;> first | (exfalso; omega) | skip)))
    refine K.WC.nilBuf 38 4 ?_
    refine K.WC.perm (K.pp [1, 2, 0, 0] rfl) ?_
    simp only [List.cons_append, List.nil_append]
    refine K.c_loop (σ := CoS PLive) (fun q => [(8, stP B8), (16, bufV q.a q.n q.k), (101, .pointer (some ⟨R1, 0, none⟩))]) (fun _ => h)
     (fun q => iterA R1 b1 c1 q.seen c1 :: mapA b1 .u32 m1 c1 :: bufA 38 4 q.a q.n q.k q.cs :: stB B8 b1 b2 s.next :: mapA b2 .u32 m2 c2 :: F)
     (fun q => Coll PLive.txn m1 s.lives q.seen q.xs ∧ q.n = q.xs.length ∧ q.cs = q.xs.flatMap cL) (fun q => m1.length - q.seen.length) ⟨[], [], none, 0, 0, []⟩ ⟨Coll.nil, rfl, rfl⟩ (by repeat (first | exact K.Sub.nil _ | refine K.Sub.cons rfl ?_)) rfl rfl ?_
    rintro ⟨seen, xs, a1, k1, n1, cs1⟩ ⟨hco, hn1, hcs1⟩ KM hKM
    dsimp only at hco hn1 hcs1 ⊢
    have hfew := hco.few hm1 (N := 4294967296) (fun x hx => (hrel.wl x hx).txn)
    (repeat' (first | refine X.rq ?_ | (refine X.rc ?_ ?_ <;> intro hc <;> first | (exfalso; omega) | skip)))
    refine K.l_next hm1 rfl rfl (fun hall => ?_) (fun e he hns => ?_)
    ·have hln := hco.len
     (repeat' (first | refine X.rq ?_ | (refine X.rc ?_ ?_ <;> intro hc <;> first | (exfalso; omega) | skip)))
     subst hcs1
     refine K.l_call (Fx.cal rfl) rfl (SortL h a1 n1 k1 xs hn1.symm (by omega)) (K.pp [2] rfl) rfl ?_
     rintro u h' H' - ⟨e, rfl, l2, hpe, hso, rfl⟩
     obtain rfl := e.symm
     have hl2 := hco.sorted hm1 hrel.l hrel.rl hall hpe (ltK PLive.txn) hso
     subst hl2
     obtain rfl : n1 = s.lives.length := by rw [hn1, hpe.length_eq]
     simp only [List.cons_append, List.nil_append]
     clear hco hall hpe hso hn1 hfew hln
     simp only [List.set_cons_zero, List.set_cons_succ, List.eraseIdx_cons_zero, List.eraseIdx_cons_succ, List.cons_append, List.nil_append]
     (repeat' (first | refine X.rq ?_ | (refine X.rc ?_ ?_ <;> intro hc <;> first | (exfalso; omega) | skip)))
     refine K.l_range 4 rfl rfl rfl rfl (fun R2 => ?_)
     (repeat' (first | refine X.rq ?_ | (refine X.rc ?_ ?_ <;> intro hc <;> first | (exfalso; omega) | skip)))
     refine K.WC.sel [2, 2] rfl ?_
     refine K.WC.nilBuf 40 2 ?_
     refine K.WC.perm (K.pp [1, 3, 0, 0, 0] rfl) ?_
     simp only [List.cons_append, List.nil_append]
     refine K.c_loop (σ := CoS PDirty) (fun q => [(8, stP B8), (16, bufV a1 s.lives.length k1), (19, bufV q.a q.n q.k), (116, .pointer (some ⟨R2, 0, none⟩))]) (fun _ => h')
      (fun q => iterA R2 b2 c2 q.seen c2 :: mapA b2 .u32 m2 c2 :: bufA 40 2 q.a q.n q.k q.cs :: bufA 38 4 a1 s.lives.length k1 (s.lives.flatMap cL) :: stB B8 b1 b2 s.next :: F)
      (fun q => Coll PDirty.page m2 s.dirty q.seen q.xs ∧ q.n = q.xs.length ∧ q.cs = q.xs.flatMap cD) (fun q => m2.length - q.seen.length) ⟨[], [], none, 0, 0, []⟩ ⟨Coll.nil, rfl, rfl⟩ (by repeat (first | exact K.Sub.nil _ | refine K.Sub.cons rfl ?_)) rfl rfl ?_
     rintro ⟨seen, xs, a2, k2, n2, cs2⟩ ⟨hco, hn2, hcs2⟩ KN hKN
     dsimp only at hco hn2 hcs2 ⊢
     have hfew := hco.few hm2 (N := 4294967296) (fun x hx => (hrel.wd x hx).page)
     (repeat' (first | refine X.rq ?_ | (refine X.rc ?_ ?_ <;> intro hc <;> first | (exfalso; omega) | skip)))
     refine K.l_next hm2 rfl rfl (fun hall => ?_) (fun e he hns => ?_)
     ·have hln := hco.len
      (repeat' (first | refine X.rq ?_ | (refine X.rc ?_ ?_ <;> intro hc <;> first | (exfalso; omega) | skip)))
      subst hcs2
      refine K.l_call (Fx.cal rfl) rfl (SortD h' a2 n2 k2 xs hn2.symm (by omega)) (K.pp [2] rfl) rfl ?_
      rintro u h' H' - ⟨e, rfl, l3, hpe, hso, rfl⟩
      obtain rfl := e.symm
      have hl3 := hco.sorted hm2 hrel.d hrel.rd hall hpe (ltK PDirty.page) hso
      subst hl3
      obtain rfl : n2 = s.dirty.length := by rw [hn2, hpe.length_eq]
      simp only [List.cons_append, List.nil_append]
      simp only [List.set_cons_zero, List.set_cons_succ, List.eraseIdx_cons_zero, List.eraseIdx_cons_succ, List.cons_append, List.nil_append]
      (repeat' (first | refine X.rq ?_ | (refine X.rc ?_ ?_ <;> intro hc <;> first | (exfalso; omega) | skip)))
      refine X.draw ([stB B8 b1 b2 s.next]) [] (.pu 0 (.pu 1 (.pu 2 (.pu 3 (.pu 4 (.pu 6 (.pu 7 (.st 5 (.pu 8 (.pu 9 .nil)))))))))) ?_
      refine K.d_pu rfl (fun _ _ => X.mv) rfl ?_
      refine K.d_pu rfl (fun _ _ => X.mv) rfl ?_
      refine K.d_pu rfl (fun _ _ => X.mv) rfl ?_
      refine K.d_pu rfl (fun _ _ => X.nc) rfl ?_
      refine K.d_pu rfl (fun _ _ => X.fa) rfl ?_
      refine K.d_pu rfl (fun _ _ => X.sg) rfl ?_
      refine K.d_pu rfl (fun _ _ => X.sg) rfl ?_
      refine K.d_st rfl X.ld rfl ?_
      refine K.d_pu rfl (fun _ _ => X.sg) rfl ?_
      refine K.d_pu rfl (fun _ _ => X.sg) rfl ?_
      refine K.d_nil ?_
      (repeat' (first | refine X.rq ?_ | (refine X.rc ?_ ?_ <;> intro hc <;> first | (exfalso; omega) | skip)))
      refine K.AT.sel [1, 1, 2] rfl ?_
      refine K.done (by first | exact Or.inl rfl | exact Or.inr rfl) rfl (by first | exact K.Base.le.refl _ | assumption) (H' := [bufA 40 2 a2 s.dirty.length k2 (s.dirty.flatMap cD), bufA 38 4 a1 s.lives.length k1 (s.lives.flatMap cL)]) rfl ⟨rfl, .inr ⟨s, m1, c1, m2, c2, a1, k1, a2, k2, hqa, hrel, rfl, rfl⟩⟩
     ·obtain ⟨x, hxl, ek, ev, hco'⟩ := hco.step hm2 hrel.d he hns
      have hln := hco'.len.2
      rw [List.length_append] at hln
      obtain ⟨k, w, b⟩ := e
      dsimp only at ek ev hns hco' hln ⊢
      subst ek
      have ev : w = .int .u64 x.frm := ev
      subst ev
      (repeat' (first | refine X.rq ?_ | (refine X.rc ?_ ?_ <;> intro hc <;> first | (exfalso; omega) | skip)))
      refine K.s_pure (K.p_entry 0 1 rfl rfl hm2 he rfl) rfl ?_
      (repeat' (first | refine X.rq ?_ | (refine X.rc ?_ ?_ <;> intro hc <;> first | (exfalso; omega) | skip)))
      refine K.l_buildSlice (Fx.und rfl) (Fx.sz rfl) rfl (Fx.zr rfl) rfl rfl rfl (cs := [.int .u32 x.page, .int .u64 x.frm]) rfl rfl (fun B19 => ?_)
      refine K.l_append_at 3 rfl (Fx.und rfl) (Fx.und rfl) rfl (Fx.sz rfl) (Fx.zr rfl) rfl (Fx.byt rfl) rfl rfl (K.src_cells (K.cels_own (pre := []) (cs := [.int .u32 x.page, .int .u64 x.frm]) (post := []) 0 rfl rfl) rfl (by simp [oneCell])) (by omega) (by omega) rfl (fun a6 cap6 => ?_)
      simp only [List.set_cons_zero, List.set_cons_succ, List.eraseIdx_cons_zero, List.eraseIdx_cons_succ, List.cons_append, List.nil_append]
      (repeat' (first | refine X.rq ?_ | (refine X.rc ?_ ?_ <;> intro hc <;> first | (exfalso; omega) | skip)))
      refine K.AT.sel [0] rfl ?_
      refine K.a_round hKN ⟨seen ++ [b], xs ++ [x], a6, cap6, n2 + 1, cs2 ++ cD x⟩ ⟨hco', by dsimp only; rw [hn2, List.length_append]; rfl, by dsimp only; rw [hcs2, List.flatMap_append]; simp⟩ (by repeat (first | exact K.Sub.nil _ | refine K.Sub.cons rfl ?_)) rfl rfl (by dsimp only; rw [List.length_append]; simp at hln ⊢; omega)
    ·obtain ⟨x, hxl, ek, ev, hco'⟩ := hco.step hm1 hrel.l he hns
     have hln := hco'.len.2
     rw [List.length_append] at hln
     obtain ⟨k, w, b⟩ := e
     dsimp only at ek ev hns hco' hln ⊢
     subst ek
     have ev : w = .agg (cL x).toArray := ev
     subst ev
     (repeat' (first | refine X.rq ?_ | (refine X.rc ?_ ?_ <;> intro hc <;> first | (exfalso; omega) | skip)))
     refine K.s_pure (K.p_entry 0 1 rfl rfl hm1 he rfl) rfl ?_
     (repeat' (first | refine X.rq ?_ | (refine X.rc ?_ ?_ <;> intro hc <;> first | (exfalso; omega) | skip)))
     refine K.l_alloc (Fx.zr rfl) rfl rfl (fun B18 => ?_)
     refine X.stw ?_
     simp only [List.set_cons_zero, List.set_cons_succ, List.eraseIdx_cons_zero, List.eraseIdx_cons_succ, List.cons_append, List.nil_append]
     (repeat' (first | refine X.rq ?_ | (refine X.rc ?_ ?_ <;> intro hc <;> first | (exfalso; omega) | skip)))
     refine K.l_buildSlice (Fx.und rfl) (Fx.sz rfl) rfl (Fx.zr rfl) rfl rfl rfl (cs := [.int .u32 x.txn, .int .u64 x.last, .int .u64 x.undo, .bool x.lost]) rfl rfl (fun B19 => ?_)
     refine K.l_append_at 4 rfl (Fx.und rfl) (Fx.und rfl) rfl (Fx.sz rfl) (Fx.zr rfl) rfl (Fx.byt rfl) rfl rfl (K.src_cells (K.cels_own (pre := []) (cs := [.int .u32 x.txn, .int .u64 x.last, .int .u64 x.undo, .bool x.lost]) (post := []) 0 rfl rfl) rfl (by simp [oneCell])) (by omega) (by omega) rfl (fun a6 cap6 => ?_)
     simp only [List.set_cons_zero, List.set_cons_succ, List.eraseIdx_cons_zero, List.eraseIdx_cons_succ, List.cons_append, List.nil_append]
     (repeat' (first | refine X.rq ?_ | (refine X.rc ?_ ?_ <;> intro hc <;> first | (exfalso; omega) | skip)))
     refine K.AT.sel [0, 0] rfl ?_
     refine K.a_round hKM ⟨seen ++ [b], xs ++ [x], a6, cap6, n1 + 1, cs1 ++ cL x⟩ ⟨hco', by dsimp only; rw [hn1, List.length_append]; rfl, by dsimp only; rw [hcs1, List.flatMap_append]; simp⟩ (by repeat (first | exact K.Sub.nil _ | refine K.Sub.cons rfl ?_)) rfl rfl (by dsimp only; rw [List.length_append]; simp at hln ⊢; omega)
end Go.Proofs.YtkdngpiiecmpgaaGreat.Ch
