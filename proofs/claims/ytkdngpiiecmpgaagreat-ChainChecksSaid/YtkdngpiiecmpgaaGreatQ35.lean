/-
 N5: the texts Nq Nr Ns in one. Conditions: each theorem's own.
-/
import Derived.Test.YtkdngpiiecmpgaaGreatQ24
/-! What is known so far: the document's state, its parts. Conditions: each theorem's own. -/
namespace Go.Proofs.YtkdngpiiecmpgaaGreat.Ch
open Go Go.K Go.Proofs Go.Proofs.YtkdngpiiecmpgaaGreat Go.Proofs.YtkdngpiiecmpgaaGreat.Pg Go.Proofs.YtkdngpiiecmpgaaGreat.Rc
set_option linter.unusedVariables false
set_option linter.unusedSimpArgs false
set_option maxRecDepth 10000

section
variable {P : Program} {n : Nat} {Q : Exit → Act → World → Prop} {E : Env} {h : Base} {H : List Asrt}
theorem AT.freezeRowE {q : Exit} {T sz m : Nat} {a : Option Nat} {cap : Nat} {cs : List Value} (es : List (List Value)) (hm : m = es.length) (hc : cs = es.flatten) (hz : ∀ e ∈ es, e.length = sz) (hk : ∀ h', h.le h' → SL h' sz (bufV a m cap) es → AT P n Q q E h' H) : AT P n Q q E h (bufA T sz a m cap cs :: H) := by
 subst hm; subst hc
 exact K.AT.freezeRow hz fun h' le hs _ => hk h' le hs
end
theorem two_D (l : List PDirty) : ∀ e ∈ l.map cD, e.length = 2 := fun e he => by
 obtain ⟨x, _, rfl⟩ := List.mem_map.1 he
 rfl
theorem four_L (l : List PLive) : ∀ e ∈ l.map cL, e.length = 4 := fun e he => by
 obtain ⟨x, _, rfl⟩ := List.mem_map.1 he
 rfl
theorem rise_lt {α : Type} {k : α → Nat} {l : List α} (hr : Rising k l) {i j : Nat} {x y : α} (hij : i < j) (hx : l[i]? = some x) (hy : l[j]? = some y) : k x < k y := by
 obtain ⟨hi, rfl⟩ := List.getElem?_eq_some_iff.1 hx
 obtain ⟨hj, rfl⟩ := List.getElem?_eq_some_iff.1 hy
 exact List.pairwise_iff_getElem.1 hr i j hi hj hij
abbrev stR (B : Nat) (lv dv : Value) (n : Nat) : Asrt := blk B 83 [lv, dv, .int .u32 n]
structure InsS where
 j : Nat
 at_ : Nat
def idxK (l : List PLive) (n : Nat) : Int := match l.findIdx? fun x => decide (x.txn = n) with
 | some i => (i : Int)
 | none => -1
theorem idx_some {l : List PLive} {n i : Nat} {x : PLive} (hx : l[i]? = some x) (he : x.txn = n) (hb : ∀ j y, j < i → l[j]? = some y → y.txn ≠ n) : idxK l n = i ∧ findK PLive.txn l n = some x := by
 obtain ⟨hi, hxe⟩ := List.getElem?_eq_some_iff.1 hx
 have h1 : l.findIdx? (fun x => decide (x.txn = n)) = some i := by
  rw [List.findIdx?_eq_some_iff_getElem]
  refine ⟨hi, by rw [hxe]; exact decide_eq_true he, fun j hj => ?_⟩
  have := hb j _ hj (List.getElem?_eq_getElem (by omega))
  simpa using this
 refine ⟨by unfold idxK; rw [h1], ?_⟩
 unfold findK
 rw [List.find?_eq_some_iff_getElem]
 refine ⟨by simpa using he, i, hi, hxe, fun j hj => ?_⟩
 have := hb j _ hj (List.getElem?_eq_getElem (by omega))
 simpa using this
theorem idx_none {l : List PLive} {n : Nat} (hb : ∀ (j : Nat) (y : PLive), l[j]? = some y → y.txn ≠ n) : idxK l n = -1 ∧ findK PLive.txn l n = none := by
 have h1 : l.findIdx? (fun x => decide (x.txn = n)) = none := by
  rw [List.findIdx?_eq_none_iff]
  intro x hx
  obtain ⟨j, hj⟩ := List.mem_iff_getElem?.1 hx
  exact decide_eq_false (hb j x hj)
 refine ⟨by unfold idxK; rw [h1], ?_⟩
 unfold findK
 rw [List.find?_eq_none]
 intro x hx
 obtain ⟨j, hj⟩ := List.mem_iff_getElem?.1 hx
 have := hb j x hj
 simpa using this
set_option maxHeartbeats 8000000 in
theorem RAt (h : Base) (B nx n : Nat) (lv dv : Value) (d : List PLive) (hd : SL h 4 lv (d.map cL)) (hl : d.length ≤ 9223372036854775807) :
  TrV Tryz.prog 62 [stP B, .int .u32 n] h [stR B lv dv nx] (.int .i64 (idxK d n)) [stR B lv dv nx] := by
 obtain ⟨ao, ca, rfl⟩ := hd.len
 rw [List.length_map] at hd ⊢
 refine K.enter Tryz.func62 rfl (Nat.le_of_ble_eq_true rfl) (fun F => ?_)
 simp only [List.nil_append, List.cons_append]
 (repeat' (first | refine X.rq ?_ | (refine X.rc ?_ ?_ <;> intro hc <;> first | (exfalso; omega) | skip)))
 refine K.c_loop (σ := Nat) (fun j => [(0, stP B), (1, .int .u32 n), (5, .int .i64 j)]) (fun _ => h) (fun _ => stR B (.slice ao d.length ca) dv nx :: F)
  (fun j => j ≤ d.length ∧ ∀ i y, i < j → d[i]? = some y → y.txn ≠ n) (fun j => d.length - j) 0 ⟨Nat.zero_le _, (fun i y hi => absurd hi (Nat.not_lt_zero _))⟩ (by repeat (first | exact K.Sub.nil _ | refine K.Sub.cons rfl ?_)) rfl rfl ?_
 rintro j ⟨hj, hno⟩ KL hKL
 have hno := fun (_ : Unit) => hno
 by_cases hjl : j < d.length
 ·have hx1 : d[j]? = some (d[j]'hjl) := List.getElem?_eq_getElem hjl
  have hc0 : (d.map cL)[((j : Nat) : Int).toNat]? = some (cL (d[j]'hjl)) := by rw [Int.toNat_natCast, List.getElem?_map, hx1]; rfl
  generalize d[j]'hjl = x at hx1 hc0
  (repeat' (first | refine X.rq ?_ | (refine X.rc ?_ ?_ <;> intro hc <;> first | (exfalso; omega) | skip)))
  refine K.s_pureE (K.p_indexL hd (Fx.und rfl) (Fx.sz rfl) rfl rfl (by omega) hc0) rfl ?_
  rintro v2 ⟨b2, o2, rfl, hcel⟩
  have hcl := Cels.get (Cels.up (K := stR B (.slice ao d.length ca) dv nx :: F) hcel) 0 (.int .u32 x.txn) rfl
  by_cases he : x.txn = n
  ·obtain ⟨hi1, _⟩ := idx_some hx1 he (hno ())
   rw [hi1]
   (repeat' (first | refine X.rq ?_ | (refine X.rc ?_ ?_ <;> intro hc <;> first | (exfalso; omega) | skip)))
   refine K.done (by first | exact Or.inl rfl | exact Or.inr rfl) rfl (by first | exact K.Base.le.refl _ | assumption) (H' := [stR B (.slice ao d.length ca) dv nx]) rfl ⟨rfl, rfl, rfl⟩
  ·(repeat' (first | refine X.rq ?_ | (refine X.rc ?_ ?_ <;> intro hc <;> first | (exfalso; omega) | skip)))
   refine K.a_round hKL (j + 1) ⟨by omega, fun i y hi hy => ?_⟩ (by repeat (first | exact K.Sub.nil _ | refine K.Sub.cons rfl ?_)) rfl rfl (by omega)
   by_cases hij : i = j
   ·subst hij; rw [hx1] at hy; obtain rfl := Option.some.inj hy; exact he
   ·exact hno () i y (by omega) hy
 ·obtain rfl : j = d.length := by omega
  obtain ⟨hi1, _⟩ := idx_none (l := d) (n := n) fun i y hy => hno () i y (List.getElem?_eq_some_iff.1 hy).1 hy
  rw [hi1]
  clear hno
  (repeat' (first | refine X.rq ?_ | (refine X.rc ?_ ?_ <;> intro hc <;> first | (exfalso; omega) | skip)))
  refine K.done (by first | exact Or.inl rfl | exact Or.inr rfl) rfl (by first | exact K.Base.le.refl _ | assumption) (H' := [stR B (.slice ao d.length ca) dv nx]) rfl ⟨rfl, rfl, rfl⟩
end Go.Proofs.YtkdngpiiecmpgaaGreat.Ch

/-! A record is heard: the document. Conditions: each theorem's own. -/
namespace Go.Proofs.YtkdngpiiecmpgaaGreat.Ch
open Go Go.K Go.Proofs Go.Proofs.YtkdngpiiecmpgaaGreat Go.Proofs.YtkdngpiiecmpgaaGreat.Pg Go.Proofs.YtkdngpiiecmpgaaGreat.Rc
set_option linter.unusedVariables false
set_option linter.unusedSimpArgs false
set_option maxRecDepth 10000

structure WfS (s : St) : Prop where
 rl : Rising PLive.txn s.lives
 rd : Rising PDirty.page s.dirty
 wl : ∀ x ∈ s.lives, wfL x
 wd : ∀ x ∈ s.dirty, wfD x
 wn : s.next < 4294967296
theorem WfS.put {s : St} (h : WfS s) {x : PLive} (hx : wfL x) : WfS { s with lives := insK PLive.txn x s.lives } :=
 ⟨h.rl.ins, h.rd, fun z hz => by
  rcases mem_ins hz with rfl | hz
  ·exact hx
  ·exact h.wl z hz, h.wd, h.wn⟩
theorem WfS.next {s : St} (h : WfS s) {n : Nat} (hn : n < 4294967296) : WfS { s with next := n } := ⟨h.rl, h.rd, h.wl, h.wd, hn⟩
theorem WfS.del {s : St} (h : WfS s) (n : Nat) : WfS { s with lives := delK PLive.txn s.lives n } := ⟨h.rl.del n, h.rd, fun z hz => h.wl z (List.mem_filter.1 hz).1, h.wd, h.wn⟩
theorem WfS.touch {s : St} (h : WfS s) {n lsn : Nat} (hn : n < 4294967296) (hl : lsn < 18446744073709551616) : WfS { s with dirty := touchQ s.dirty n lsn } := by
 refine ⟨h.rl, ?_, h.wl, ?_, h.wn⟩
 ·show Rising PDirty.page (touchQ s.dirty n lsn)
  unfold touchQ
  split
  ·exact h.rd
  ·exact h.rd.ins
 ·show ∀ x ∈ touchQ s.dirty n lsn, wfD x
  unfold touchQ
  split
  ·exact h.wd
  ·intro z hz
   rcases mem_ins hz with rfl | hz
   ·exact ⟨hn, hl⟩
   ·exact h.wd z hz
theorem WfS.touches {lsn : Nat} (hl : lsn < 18446744073709551616) : ∀ {ms : List PImg} {s : St}, WfS s → (∀ x ∈ ms, x.page < 4294967296) → WfS { s with dirty := ms.foldl (fun d x => touchQ d x.page lsn) s.dirty }
 | [], s, h, _ => h
 | m :: ms, s, h, hp => WfS.touches hl (ms := ms) (h.touch (hp m (List.mem_cons_self ..)) hl) fun x hx => hp x (List.mem_cons_of_mem _ hx)
structure StR (h : Base) (lv dv : Value) (s : St) : Prop where
 l : SL h 4 lv (s.lives.map cL)
 d : SL h 2 dv (s.dirty.map cD)
theorem StR.le {h h' : Base} {lv dv : Value} {s : St} (hs : StR h lv dv s) (hle : h.le h') : StR h' lv dv s := ⟨hs.l.le hle, hs.d.le hle⟩
def HeardR (B : Nat) (s : St) (r : Recd) (u : Value) (h' : Base) (H' : List Asrt) : Prop :=
 ∃ ok lv' dv' nx', u = .bool ok ∧ H' = [stR B lv' dv' nx'] ∧ (ok = true → ∃ s', hearQ s r = some s' ∧ StR h' lv' dv' s' ∧ WfS s' ∧ nx' = s'.next) ∧ (ok = false → hearQ s r = none)
structure TcR where
 j : Nat
 dv : Value
 b : Base
end Go.Proofs.YtkdngpiiecmpgaaGreat.Ch

/-! Who is alive: the document. Conditions: each theorem's own. -/
namespace Go.Proofs.YtkdngpiiecmpgaaGreat.Ch
open Go Go.K Go.Proofs Go.Proofs.YtkdngpiiecmpgaaGreat Go.Proofs.YtkdngpiiecmpgaaGreat.Pg Go.Proofs.YtkdngpiiecmpgaaGreat.Rc
set_option linter.unusedVariables false
set_option linter.unusedSimpArgs false
set_option maxRecDepth 10000

def RAnalysed (l : List Recd) (c : Nat) (u : Value) (h' : Base) (H' : List Asrt) : Prop :=
 (analyseQ l c = none ∧ u = .tuple #[.pointer none, .bool false] ∧ H' = []) ∨ ∃ s B lv dv, analyseQ l c = some s ∧ StR h' lv dv s ∧ WfS s ∧ u = .tuple #[stP B, .bool true] ∧ H' = [stR B lv dv s.next]
structure AnR where
 first : Int
 lv : Value
 dv : Value
 s : St
 b : Base
structure FiR where
 j : Nat
 first : Int
 lv : Value
 dv : Value
 s : St
 b : Base
def FirstQ (l : List Recd) (c j : Nat) (first : Int) (s : St) : Prop :=
 (first = -1 ∧ s = St0 ∧ ∀ i x, i < j → l[i]? = some x → isCheck c x = false) ∨ ∃ (i : Nat) (x : Recd), i < j ∧ l[i]? = some x ∧ isCheck c x = true ∧ first = (i + 1 : Nat) ∧ s = ⟨x.lives, x.dirty, max x.next 1⟩
end Go.Proofs.YtkdngpiiecmpgaaGreat.Ch
