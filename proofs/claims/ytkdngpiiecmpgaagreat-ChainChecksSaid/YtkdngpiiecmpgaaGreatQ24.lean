/-
 N1: the texts Na Nb Nc Nd Nf Ng in one. Conditions: each theorem's own.
-/
import Derived.Test.YtkdngpiiecmpgaaGreatQ12
import Derived.Test.YtkdngpiiecmpgaaGreatQ22
import Derived.Test.YtkdngpiiecmpgaaGreatQ20
import Derived.Test.YtkdngpiiecmpgaaGreatQ23
/-! Who is alive, which pages are dirty, by the records of a log: plainly. Conditions: each theorem's own. -/
namespace Go.Proofs.YtkdngpiiecmpgaaGreat.Ch
open Go Go.K Go.Proofs Go.Proofs.YtkdngpiiecmpgaaGreat Go.Proofs.YtkdngpiiecmpgaaGreat.Pg Go.Proofs.YtkdngpiiecmpgaaGreat.Rc
set_option linter.unusedVariables false
set_option linter.unusedSimpArgs false

section
variable {α : Type} (k : α → Nat)
def insK (x : α) : List α → List α
 | [] => [x]
 | y :: l => if k y < k x then y :: insK x l else if k y = k x then x :: l else x :: y :: l
def findK (l : List α) (n : Nat) : Option α := l.find? fun x => k x == n
def delK (l : List α) (n : Nat) : List α := l.filter fun x => !(k x == n)
def Rising (l : List α) : Prop := l.Pairwise fun x y => k x < k y
variable {k}
theorem findK_ins (x : α) (n : Nat) : ∀ {l : List α}, Rising k l → findK k (insK k x l) n = if n = k x then some x else findK k l n
 | [], _ => by
  unfold findK
  simp only [insK, List.find?_cons, List.find?_nil]
  by_cases h : n = k x
  ·subst h; simp
  ·have : (k x == n) = false := by simpa using fun e => h e.symm
   simp [this, h]
 | y :: l, hr => by
  have hl := List.pairwise_cons.1 hr
  rw [insK]
  by_cases h1 : k y < k x
  ·rw [if_pos h1]
   have ih := findK_ins x n hl.2
   unfold findK at ih ⊢
   rw [List.find?_cons, List.find?_cons]
   cases hq : k y == n with
   | true =>
    have : k y = n := by simpa using hq
    rw [if_neg (by omega)]
   | false => exact ih
  ·rw [if_neg h1]
   by_cases h2 : k y = k x
   ·rw [if_pos h2]
    unfold findK
    rw [List.find?_cons, List.find?_cons]
    by_cases h : n = k x
    ·rw [if_pos h]
     have : (k x == n) = true := by simp [h]
     rw [this]
    ·rw [if_neg h]
     have e1 : (k x == n) = false := by simpa using fun e => h e.symm
     have e2 : (k y == n) = false := by rw [h2]; exact e1
     rw [e1, e2]
   ·rw [if_neg h2]
    unfold findK
    rw [List.find?_cons]
    by_cases h : n = k x
    ·rw [if_pos h]
     have : (k x == n) = true := by simp [h]
     rw [this]
    ·rw [if_neg h]
     have e1 : (k x == n) = false := by simpa using fun e => h e.symm
     rw [e1]
theorem mem_ins {x z : α} : ∀ {l : List α}, z ∈ insK k x l → z = x ∨ z ∈ l
 | [], h => by simp [insK] at h; exact .inl h
 | y :: l, h => by
  rw [insK] at h
  split at h
  ·rcases List.mem_cons.1 h with rfl | h
   ·exact .inr (List.mem_cons_self ..)
   ·rcases mem_ins h with h | h
    ·exact .inl h
    ·exact .inr (List.mem_cons_of_mem _ h)
  ·split at h
   ·rcases List.mem_cons.1 h with h | h
    ·exact .inl h
    ·exact .inr (List.mem_cons_of_mem _ h)
   ·rcases List.mem_cons.1 h with h | h
    ·exact .inl h
    ·exact .inr h
theorem Rising.ins {x : α} : ∀ {l : List α}, Rising k l → Rising k (insK k x l)
 | [], _ => by simp [insK, Rising]
 | y :: l, hr => by
  have hl := List.pairwise_cons.1 hr
  rw [insK]
  by_cases h1 : k y < k x
  ·rw [if_pos h1]
   refine List.pairwise_cons.2 ⟨fun z hz => ?_, Rising.ins hl.2⟩
   rcases mem_ins hz with rfl | hz
   ·exact h1
   ·exact hl.1 z hz
  ·rw [if_neg h1]
   by_cases h2 : k y = k x
   ·rw [if_pos h2]
    refine List.pairwise_cons.2 ⟨fun z hz => ?_, hl.2⟩
    have := hl.1 z hz
    omega
   ·rw [if_neg h2]
    refine List.pairwise_cons.2 ⟨fun z hz => ?_, hr⟩
    rcases List.mem_cons.1 hz with rfl | hz
    ·omega
    ·have := hl.1 z hz
     omega
theorem Rising.del {l : List α} (hr : Rising k l) (n : Nat) : Rising k (delK k l n) := hr.sublist List.filter_sublist
theorem findK_del (l : List α) (n m : Nat) : findK k (delK k l n) m = if m = n then none else findK k l m := by
 unfold findK delK
 induction l with
 | nil => simp
 | cons y l ih =>
  rw [List.filter_cons]
  by_cases h : k y = n
  ·have h1 : (k y == n) = true := by simpa using h
   simp only [h1, Bool.not_true, Bool.false_eq_true, if_false]
   rw [ih, List.find?_cons]
   by_cases hm : m = n
   ·rw [if_pos hm, if_pos hm]
   ·rw [if_neg hm, if_neg hm]
    have : (k y == m) = false := by simpa using fun e => hm (by omega)
    rw [this]
  ·have h1 : (k y == n) = false := by simpa using h
   simp only [h1, Bool.not_false, if_true]
   rw [List.find?_cons, List.find?_cons]
   cases hq : k y == m with
   | true =>
    have : k y = m := by simpa using hq
    rw [if_neg (by omega)]
   | false => simp only; exact ih
theorem findK_mem {l : List α} {n : Nat} {x : α} (h : findK k l n = some x) : x ∈ l ∧ k x = n := by
 unfold findK at h
 exact ⟨List.mem_of_find?_eq_some h, by simpa using List.find?_some h⟩
theorem mem_findK {l : List α} (hr : Rising k l) {x : α} (hx : x ∈ l) : findK k l (k x) = some x := by
 unfold findK
 induction l with
 | nil => cases hx
 | cons y l ih =>
  have hl := List.pairwise_cons.1 hr
  rw [List.find?_cons]
  rcases List.mem_cons.1 hx with rfl | hx
  ·simp
  ·have h1 := hl.1 x hx
   have : (k y == k x) = false := by simp; omega
   rw [this]
   exact ih hl.2 hx
theorem rising_ext : ∀ {l m : List α}, Rising k l → Rising k m → (∀ x, x ∈ l ↔ x ∈ m) → l = m
 | [], [], _, _, _ => rfl
 | [], y :: m, _, _, h => by have := (h y).2 (List.mem_cons_self ..); cases this
 | x :: l, [], _, _, h => by have := (h x).1 (List.mem_cons_self ..); cases this
 | x :: l, y :: m, hl, hm, h => by
  have hl' := List.pairwise_cons.1 hl
  have hm' := List.pairwise_cons.1 hm
  have hxy : x = y := by
   rcases List.mem_cons.1 ((h x).1 (List.mem_cons_self ..)) with e | hx
   ·exact e
   ·rcases List.mem_cons.1 ((h y).2 (List.mem_cons_self ..)) with e | hy
    ·exact e.symm
    ·have h1 := hm'.1 x hx
     have h2 := hl'.1 y hy
     omega
  subst hxy
  congr 1
  refine rising_ext hl'.2 hm'.2 fun z => ?_
  constructor
  ·intro hz
   rcases List.mem_cons.1 ((h z).1 (List.mem_cons_of_mem _ hz)) with rfl | hz'
   ·exact absurd (hl'.1 z hz) (Nat.lt_irrefl _)
   ·exact hz'
  ·intro hz
   rcases List.mem_cons.1 ((h z).2 (List.mem_cons_of_mem _ hz)) with rfl | hz'
   ·exact absurd (hm'.1 z hz) (Nat.lt_irrefl _)
   ·exact hz'
end
structure St where
 lives : List PLive
 dirty : List PDirty
 next : Nat
 deriving DecidableEq
def touchQ (d : List PDirty) (n lsn : Nat) : List PDirty := if (findK PDirty.page d n).isSome then d else insK PDirty.page ⟨n, lsn⟩ d
def hearQ (s : St) (r : Recd) : Option St :=
 if r.kind = 8 then some s
 else if r.kind = 4 then some { s with dirty := r.images.foldl (fun d x => touchQ d x.page r.lsn) s.dirty }
 else if r.kind = 1 then
  if (findK PLive.txn s.lives r.txn).isSome then none
  else some { s with lives := insK PLive.txn ⟨r.txn, r.lsn, 0, true⟩ s.lives, next := max s.next (if r.txn < 4294967295 then r.txn + 1 else r.txn) }
 else match findK PLive.txn s.lives r.txn with
  | none => none
  | some x =>
   if x.last ≠ r.prev then none
   else if r.kind = 7 then if x.undo = 0 then some { s with lives := delK PLive.txn s.lives r.txn } else none
   else if x.lost = false then none
   else if r.kind = 2 then some { s with lives := insK PLive.txn { x with last := r.lsn, undo := r.lsn } s.lives, dirty := touchQ s.dirty r.page r.lsn }
   else if r.kind = 3 then if x.undo ≤ r.undo then none else some { s with lives := insK PLive.txn { x with last := r.lsn, undo := r.undo } s.lives, dirty := touchQ s.dirty r.page r.lsn }
   else if r.kind = 5 then some { s with lives := insK PLive.txn { x with last := r.lsn, undo := 0, lost := false } s.lives }
   else some { s with lives := insK PLive.txn { x with last := r.lsn } s.lives }
def hearsQ : St → List Recd → Option St
 | s, [] => some s
 | s, r :: l => match hearQ s r with
  | none => none
  | some s' => hearsQ s' l
def rightQ : Nat → List Recd → Bool
 | _, [] => true
 | last, r :: l => decide (last < r.lsn) && mayR r && rightQ r.lsn l
def St0 : St := ⟨[], [], 1⟩
def checkAt (l : List Recd) (c : Nat) : Option Nat := l.findIdx? fun r => decide (r.lsn = c) && decide (r.kind = 8)
def analyseQ (l : List Recd) (c : Nat) : Option St :=
 if rightQ 0 l = false then none
 else if c = 0 then hearsQ St0 l
 else match checkAt l c with
  | none => none
  | some i => match l[i]? with
   | none => none
   | some r => hearsQ ⟨r.lives, r.dirty, max r.next 1⟩ (l.drop (i + 1))
end Go.Proofs.YtkdngpiiecmpgaaGreat.Ch

/-! Whether records may stand in a log so: the code and the document. Conditions: each theorem's own. -/
namespace Go.Proofs.YtkdngpiiecmpgaaGreat.Ch
open Go Go.K Go.Proofs Go.Proofs.YtkdngpiiecmpgaaGreat Go.Proofs.YtkdngpiiecmpgaaGreat.Pg Go.Proofs.YtkdngpiiecmpgaaGreat.Rc
set_option linter.unusedVariables false
set_option linter.unusedSimpArgs false
set_option maxRecDepth 10000

theorem right_step {l : List Recd} {j last : Nat} {x : Recd} (h : l[j]? = some x) : rightQ last (l.drop j) = (decide (last < x.lsn) && mayR x && rightQ x.lsn (l.drop (j + 1))) := by
 obtain ⟨hj, rfl⟩ := List.getElem?_eq_some_iff.1 h
 rw [List.drop_eq_getElem_cons hj]
 rfl
theorem fifteen {h : Base} {c : List Value} {r : Recd} (hx : RecC h c r) : c.length = 15 := by
 obtain ⟨_, _, _, _, _, _, _, _, _, e, _⟩ := hx.cells
 rw [e]; rfl
set_option maxHeartbeats 4000000 in
theorem CRight (h : Base) (v : Value) (es : List (List Value)) (l : List Recd) (hv : SL h 15 v es) (hr : RowsG (RecC h) es l) (hl : l.length ≤ 9223372036854775807) (hs : ∀ x ∈ l, smallR x) :
  TrV Tryz.prog 27 [v] h [] (.bool (rightQ 0 l)) [] := by
 obtain ⟨hel, hr⟩ := hr
 have hs := fun (_ : Unit) => hs
 have hr := fun (_ : Unit) => hr
 obtain ⟨ao, ca, rfl⟩ := hv.len
 rw [hel] at hv ⊢
 refine K.enter Tryz.func27 rfl (Nat.le_of_ble_eq_true rfl) (fun F => ?_)
 simp only [List.nil_append]
 (repeat' (first | refine X.rq ?_ | (refine X.rc ?_ ?_ <;> intro hc <;> first | (exfalso; omega) | skip)))
 refine K.c_loop (σ := Nat × Nat) (fun q => [(3, .int .u64 q.2), (6, .slice ao l.length ca), (7, .int .i64 l.length), (8, .int .i64 q.1)]) (fun _ => h) (fun _ => F)
  (fun q => q.1 ≤ l.length ∧ rightQ 0 l = rightQ q.2 (l.drop q.1)) (fun q => l.length - q.1) (0, 0) ⟨Nat.zero_le _, rfl⟩ (by repeat (first | exact K.Sub.nil _ | refine K.Sub.cons rfl ?_)) rfl rfl ?_
 rintro ⟨j, last⟩ ⟨hj, hq⟩ KL hKL
 dsimp only at hj hq ⊢
 by_cases hjl : j < l.length
 ·have hc1 : es[j]? = some (es[j]'(by omega)) := List.getElem?_eq_getElem (by omega)
  have hc0 : es[((j : Nat) : Int).toNat]? = some (es[j]'(by omega)) := by rw [Int.toNat_natCast]; exact hc1
  have hx1 : l[j]? = some (l[j]'(by omega)) := List.getElem?_eq_getElem (by omega)
  have hmem : l[j] ∈ l := List.getElem_mem hjl
  generalize es[j]'(by omega) = c at hc0 hc1
  generalize l[j]'(by omega) = x at hx1 hmem
  have hxc := hr () j c x hc1 hx1
  have hsx := hs () x hmem
  have hmay := RecMay h c x hxc hsx
  rw [right_step hx1] at hq
  obtain ⟨hw, ad, ai, al, ay, cd, ci, cl, cy, rfl, hb, _, hl4, hd2⟩ := hxc.cells
  have hlsn := hw.lsn
  clear hxc hsx hw
  (repeat' (first | refine X.rq ?_ | (refine X.rc ?_ ?_ <;> intro hc <;> first | (exfalso; omega) | skip)))
  refine K.s_pureE (K.p_indexL hv (Fx.und rfl) (Fx.sz rfl) rfl rfl (by omega) hc0) rfl ?_
  rintro v2 ⟨b2, o2, rfl, hcel⟩
  refine K.s_pure (K.p_loadM (Fx.agg rfl) rfl (Cels.up hcel) (Fx.sz rfl) rfl) rfl ?_
  refine K.l_alloc (Fx.zr rfl) rfl rfl (fun B5 => ?_)
  refine X.stw ?_
  simp only [List.set_cons_zero, List.set_cons_succ, List.eraseIdx_cons_zero, List.eraseIdx_cons_succ, List.cons_append, List.nil_append]
  by_cases hxl : x.lsn ≤ last
  ·(repeat' (first | refine X.rq ?_ | (refine X.rc ?_ ?_ <;> intro hc <;> first | (exfalso; omega) | skip)))
   refine K.AT.drop ?_
   refine K.done (by first | exact Or.inl rfl | exact Or.inr rfl) rfl (by first | exact K.Base.le.refl _ | assumption) (H' := []) rfl ⟨?_, rfl, rfl⟩
   rw [hq, decide_eq_false (by omega), Bool.false_and, Bool.false_and]; rfl
  ·rw [decide_eq_true (by omega : last < x.lsn), Bool.true_and] at hq
   (repeat' (first | refine X.rq ?_ | (refine X.rc ?_ ?_ <;> intro hc <;> first | (exfalso; omega) | skip)))
   refine K.l_callV (Fx.cal rfl) rfl hmay (K.pp [] rfl) rfl rfl ?_
   simp only [List.nil_append]
   cases hm : mayR x with
   | false =>
    rw [hm, Bool.false_and] at hq
    (repeat' (first | refine X.rq ?_ | (refine X.rc ?_ ?_ <;> intro hc <;> first | (exfalso; omega) | skip)))
    refine K.AT.drop ?_
    refine K.done (by first | exact Or.inl rfl | exact Or.inr rfl) rfl (by first | exact K.Base.le.refl _ | assumption) (H' := []) rfl ⟨by rw [hq]; rfl, rfl, rfl⟩
   | true =>
    rw [hm, Bool.true_and] at hq
    (repeat' (first | refine X.rq ?_ | (refine X.rc ?_ ?_ <;> intro hc <;> first | (exfalso; omega) | skip)))
    refine K.AT.drop ?_
    refine K.a_round hKL (j + 1, x.lsn) ⟨by dsimp only; omega, hq⟩ (by repeat (first | exact K.Sub.nil _ | refine K.Sub.cons rfl ?_)) rfl rfl (by dsimp only; omega)
 ·rw [show l.drop j = [] from List.drop_of_length_le (by omega)] at hq
  (repeat' (first | refine X.rq ?_ | (refine X.rc ?_ ?_ <;> intro hc <;> first | (exfalso; omega) | skip)))
  refine K.done (by first | exact Or.inl rfl | exact Or.inr rfl) rfl (by first | exact K.Base.le.refl _ | assumption) (H' := []) rfl ⟨?_, rfl, rfl⟩
  rw [hq]; rfl
set_option maxHeartbeats 4000000 in
theorem RefRight (h : Base) (v : Value) (es : List (List Value)) (l : List Recd) (hv : SL h 15 v es) (hr : RowsG (RecC h) es l) (hl : l.length ≤ 9223372036854775807) (hs : ∀ x ∈ l, smallR x) :
  TrV Tryz.prog 36 [v] h [] (.bool (rightQ 0 l)) [] := by
 obtain ⟨hel, hr⟩ := hr
 have hs := fun (_ : Unit) => hs
 have hr := fun (_ : Unit) => hr
 obtain ⟨ao, ca, rfl⟩ := hv.len
 rw [hel] at hv ⊢
 refine K.enter Tryz.func36 rfl (Nat.le_of_ble_eq_true rfl) (fun F => ?_)
 simp only [List.nil_append]
 (repeat' (first | refine X.rq ?_ | (refine X.rc ?_ ?_ <;> intro hc <;> first | (exfalso; omega) | skip)))
 refine K.c_loop (σ := Nat × Nat) (fun q => [(0, .slice ao l.length ca), (3, .int .u64 q.2), (4, .int .i64 q.1)]) (fun _ => h) (fun _ => F)
  (fun q => q.1 ≤ l.length ∧ rightQ 0 l = rightQ q.2 (l.drop q.1)) (fun q => l.length - q.1) (0, 0) ⟨Nat.zero_le _, rfl⟩ (by repeat (first | exact K.Sub.nil _ | refine K.Sub.cons rfl ?_)) rfl rfl ?_
 rintro ⟨j, last⟩ ⟨hj, hq⟩ KL hKL
 dsimp only at hj hq ⊢
 by_cases hjl : j < l.length
 ·have hc1 : es[j]? = some (es[j]'(by omega)) := List.getElem?_eq_getElem (by omega)
  have hc0 : es[((j : Nat) : Int).toNat]? = some (es[j]'(by omega)) := by rw [Int.toNat_natCast]; exact hc1
  have hx1 : l[j]? = some (l[j]'(by omega)) := List.getElem?_eq_getElem (by omega)
  have hmem : l[j] ∈ l := List.getElem_mem hjl
  generalize es[j]'(by omega) = c at hc0 hc1
  generalize l[j]'(by omega) = x at hx1 hmem
  have hxc := hr () j c x hc1 hx1
  have hsx := hs () x hmem
  have hmay := RefMay h c x hxc hsx
  rw [right_step hx1] at hq
  obtain ⟨hw, ad, ai, al, ay, cd, ci, cl, cy, rfl, hb, _, hl4, hd2⟩ := hxc.cells
  have hlsn := hw.lsn
  clear hxc hsx hw
  (repeat' (first | refine X.rq ?_ | (refine X.rc ?_ ?_ <;> intro hc <;> first | (exfalso; omega) | skip)))
  refine K.s_pureE (K.p_indexL hv (Fx.und rfl) (Fx.sz rfl) rfl rfl (by omega) hc0) rfl ?_
  rintro v2 ⟨b2, o2, rfl, hcel⟩
  (repeat' (first | refine X.rq ?_ | (refine X.rc ?_ ?_ <;> intro hc <;> first | (exfalso; omega) | skip)))
  refine K.s_pure (K.p_load (Fx.agg rfl) rfl (Cels.get (Cels.up hcel) 1 (.int .u64 x.lsn) rfl)) rfl ?_
  by_cases hxl : x.lsn ≤ last
  ·(repeat' (first | refine X.rq ?_ | (refine X.rc ?_ ?_ <;> intro hc <;> first | (exfalso; omega) | skip)))
   refine K.done (by first | exact Or.inl rfl | exact Or.inr rfl) rfl (by first | exact K.Base.le.refl _ | assumption) (H' := []) rfl ⟨?_, rfl, rfl⟩
   rw [hq, decide_eq_false (by omega), Bool.false_and, Bool.false_and]; rfl
  ·rw [decide_eq_true (by omega : last < x.lsn), Bool.true_and] at hq
   (repeat' (first | refine X.rq ?_ | (refine X.rc ?_ ?_ <;> intro hc <;> first | (exfalso; omega) | skip)))
   refine K.s_pureE (K.p_indexL hv (Fx.und rfl) (Fx.sz rfl) rfl rfl (by omega) hc0) rfl ?_
   rintro v3 ⟨b3, o3, rfl, hcel3⟩
   refine K.s_take rfl rfl ?_
   refine K.s_pure (K.p_loadM (Fx.agg rfl) rfl (Cels.up hcel3) (Fx.sz rfl) rfl) rfl ?_
   refine K.s_take rfl rfl ?_
   refine K.l_callV (Fx.cal rfl) rfl hmay (K.pp [] rfl) rfl rfl ?_
   simp only [List.nil_append]
   cases hm : mayR x with
   | false =>
    rw [hm, Bool.false_and] at hq
    (repeat' (first | refine X.rq ?_ | (refine X.rc ?_ ?_ <;> intro hc <;> first | (exfalso; omega) | skip)))
    refine K.done (by first | exact Or.inl rfl | exact Or.inr rfl) rfl (by first | exact K.Base.le.refl _ | assumption) (H' := []) rfl ⟨by rw [hq]; rfl, rfl, rfl⟩
   | true =>
    rw [hm, Bool.true_and] at hq
    (repeat' (first | refine X.rq ?_ | (refine X.rc ?_ ?_ <;> intro hc <;> first | (exfalso; omega) | skip)))
    refine K.s_pureE (K.p_indexL hv (Fx.und rfl) (Fx.sz rfl) rfl rfl (by omega) hc0) rfl ?_
    rintro v4 ⟨b4, o4, rfl, hcel4⟩
    (repeat' (first | refine X.rq ?_ | (refine X.rc ?_ ?_ <;> intro hc <;> first | (exfalso; omega) | skip)))
    refine K.s_pure (K.p_load (Fx.agg rfl) rfl (Cels.get (Cels.up hcel4) 1 (.int .u64 x.lsn) rfl)) rfl ?_
    (repeat' (first | refine X.rq ?_ | (refine X.rc ?_ ?_ <;> intro hc <;> first | (exfalso; omega) | skip)))
    refine K.a_round hKL (j + 1, x.lsn) ⟨by dsimp only; omega, hq⟩ (by repeat (first | exact K.Sub.nil _ | refine K.Sub.cons rfl ?_)) rfl rfl (by dsimp only; omega)
 ·rw [show l.drop j = [] from List.drop_of_length_le (by omega)] at hq
  (repeat' (first | refine X.rq ?_ | (refine X.rc ?_ ?_ <;> intro hc <;> first | (exfalso; omega) | skip)))
  refine K.done (by first | exact Or.inl rfl | exact Or.inr rfl) rfl (by first | exact K.Base.le.refl _ | assumption) (H' := []) rfl ⟨?_, rfl, rfl⟩
  rw [hq]; rfl
end Go.Proofs.YtkdngpiiecmpgaaGreat.Ch

/-! What is known so far, in memory; a page is made dirty: the code. Conditions: each theorem's own. -/
namespace Go.Proofs.YtkdngpiiecmpgaaGreat.Ch
open Go Go.K Go.Proofs Go.Proofs.YtkdngpiiecmpgaaGreat Go.Proofs.YtkdngpiiecmpgaaGreat.Pg Go.Proofs.YtkdngpiiecmpgaaGreat.Rc
set_option linter.unusedVariables false
set_option linter.unusedSimpArgs false
set_option maxRecDepth 10000

abbrev stP (p : Nat) : Value := .pointer (some ⟨p, 0, none⟩)
abbrev stB (B b1 b2 n : Nat) : Asrt := blk B 74 [.map (some b1), .map (some b2), .int .u32 n]
abbrev u64v (n : Nat) : Value := .int .u64 n
def tchM (m : List ME) (c n lsn : Nat) : List ME := if (K.look m n).isSome then m else putM m c n (.int .u64 lsn)
def tchC (m : List ME) (c n : Nat) : Nat := if (K.look m n).isSome then c else putC m c n
theorem tch_ok {m : List ME} {c : Nat} (hm : MapOk m c) (n lsn : Nat) : MapOk (tchM m c n lsn) (tchC m c n) := by
 unfold tchM tchC
 by_cases h : (K.look m n).isSome
 ·rw [if_pos h, if_pos h]; exact hm
 ·rw [if_neg h, if_neg h]; exact hm.put _ _
set_option maxHeartbeats 4000000 in
theorem Touch (h : Base) (B b1 b2 nx n lsn : Nat) (m : List ME) (c : Nat) (hm : MapOk m c) (hn : n < 4294967296) (hl : lsn < 18446744073709551616) :
  Tr Tryz.prog 56 [stP B, .int .u32 n, .int .u64 lsn] h [mapA b2 .u32 m c, stB B b1 b2 nx]
   (fun u h' H' => h = h' ∧ u = .tuple #[] ∧ H' = [mapA b2 .u32 (tchM m c n lsn) (tchC m c n), stB B b1 b2 nx]) := by
 refine K.enter Tryz.func56 rfl (Nat.le_of_ble_eq_true rfl) (fun F => ?_)
 simp only [List.nil_append, List.cons_append]
 (repeat' (first | refine X.rq ?_ | (refine X.rc ?_ ?_ <;> intro hc <;> first | (exfalso; omega) | skip)))
 skip
 refine K.s_pure (K.p_lookup 0 rfl rfl rfl rfl rfl rfl rfl) rfl ?_
 by_cases hk : (K.look m n).isSome = true
 ·have e1 : tchM m c n lsn = m := if_pos hk
  have e2 : tchC m c n = c := if_pos hk
  rw [hk, e1, e2]
  (repeat' (first | refine X.rq ?_ | (refine X.rc ?_ ?_ <;> intro hc <;> first | (exfalso; omega) | skip)))
  skip
  refine K.done (by first | exact Or.inl rfl | exact Or.inr rfl) rfl (by first | exact K.Base.le.refl _ | assumption) (H' := [mapA b2 .u32 m c, stB B b1 b2 nx]) rfl ⟨rfl, rfl, rfl⟩
 ·rw [Bool.not_eq_true] at hk
  have e1 : tchM m c n lsn = putM m c n (.int .u64 lsn) := if_neg (by rw [hk]; decide)
  have e2 : tchC m c n = putC m c n := if_neg (by rw [hk]; decide)
  rw [hk, e1, e2]
  (repeat' (first | refine X.rq ?_ | (refine X.rc ?_ ?_ <;> intro hc <;> first | (exfalso; omega) | skip)))
  refine K.l_update rfl rfl hm rfl rfl rfl ?_
  (repeat' (first | refine X.rq ?_ | (refine X.rc ?_ ?_ <;> intro hc <;> first | (exfalso; omega) | skip)))
  skip
  refine K.done (by first | exact Or.inl rfl | exact Or.inr rfl) rfl (by first | exact K.Base.le.refl _ | assumption) (H' := [mapA b2 .u32 (putM m c n (.int .u64 lsn)) (putC m c n), stB B b1 b2 nx]) rfl ⟨rfl, rfl, rfl⟩
end Go.Proofs.YtkdngpiiecmpgaaGreat.Ch

/-! What is known so far: the code's maps held against lists that rise. Conditions: each theorem's own. -/
namespace Go.Proofs.YtkdngpiiecmpgaaGreat.Ch
open Go Go.K Go.Proofs Go.Proofs.YtkdngpiiecmpgaaGreat Go.Proofs.YtkdngpiiecmpgaaGreat.Pg Go.Proofs.YtkdngpiiecmpgaaGreat.Rc
set_option linter.unusedVariables false
set_option linter.unusedSimpArgs false
set_option maxRecDepth 10000

structure MapsTo {α : Type} (k : α → Nat) (f : α → Value) (m : List ME) (l : List α) : Prop where
 at_ : ∀ n : Nat, K.look m (n : Int) = (findK k l n).map f
 neg : ∀ a : Int, a < 0 → K.look m a = none
theorem MapsTo.nil {α : Type} {k : α → Nat} {f : α → Value} : MapsTo k f [] [] := ⟨fun _ => rfl, fun _ _ => rfl⟩
theorem MapsTo.put {α : Type} {k : α → Nat} {f : α → Value} {m : List ME} {l : List α} (h : MapsTo k f m l) (hr : Rising k l) (c : Nat) (x : α) {n : Nat} (hn : n = k x) {v : Value} (hv : v = f x) : MapsTo k f (putM m c (n : Int) v) (insK k x l) := by
 subst hn; subst hv
 refine ⟨fun n => ?_, fun a ha => ?_⟩
 ·rw [look_put, findK_ins x n hr, h.at_ n]
  by_cases e : n = k x
  ·rw [if_pos e, if_pos (by omega)]; rfl
  ·rw [if_neg e, if_neg (by omega)]
 ·rw [look_put, if_neg (by omega)]
  exact h.neg a ha
theorem MapsTo.del {α : Type} {k : α → Nat} {f : α → Value} {m : List ME} {l : List α} (h : MapsTo k f m l) (n : Nat) : MapsTo k f (delM m (n : Int)) (delK k l n) := by
 refine ⟨fun q => ?_, fun a ha => ?_⟩
 ·rw [look_del, findK_del, h.at_ q]
  by_cases e : q = n
  ·rw [if_pos e, if_pos (by omega)]; rfl
  ·rw [if_neg e, if_neg (by omega)]
 ·rw [look_del, h.neg a ha]
  split <;> rfl
theorem MapsTo.some_iff {α : Type} {k : α → Nat} {f : α → Value} {m : List ME} {l : List α} (h : MapsTo k f m l) (n : Nat) : (K.look m (n : Int)).isSome = (findK k l n).isSome := by
 rw [h.at_ n]; cases findK k l n <;> rfl
def fL (x : PLive) : Value := .agg (cL x).toArray
def fD (x : PDirty) : Value := .int .u64 x.frm
structure Rel (m1 : List ME) (c1 : Nat) (m2 : List ME) (c2 : Nat) (s : St) : Prop where
 ok1 : MapOk m1 c1
 ok2 : MapOk m2 c2
 l : MapsTo PLive.txn fL m1 s.lives
 d : MapsTo PDirty.page fD m2 s.dirty
 rl : Rising PLive.txn s.lives
 rd : Rising PDirty.page s.dirty
 wl : ∀ x ∈ s.lives, wfL x
 wd : ∀ x ∈ s.dirty, wfD x
 wn : s.next < 4294967296
theorem Rel.zero : Rel [] 0 [] 0 St0 := ⟨.nil, .nil, .nil, .nil, List.Pairwise.nil, List.Pairwise.nil, (fun x h => by cases h), (fun x h => by cases h), by decide⟩
theorem Rel.put {m1 m2 : List ME} {c1 c2 : Nat} {s : St} (h : Rel m1 c1 m2 c2 s) (x : PLive) (hx : wfL x) : Rel (putM m1 c1 (x.txn : Nat) (fL x)) (putC m1 c1 (x.txn : Nat)) m2 c2 { s with lives := insK PLive.txn x s.lives } :=
 ⟨h.ok1.put _ _, h.ok2, h.l.put h.rl c1 x rfl rfl, h.d, h.rl.ins, h.rd, fun z hz => by
  rcases mem_ins hz with rfl | hz
  ·exact hx
  ·exact h.wl z hz, h.wd, h.wn⟩
theorem Rel.next {m1 m2 : List ME} {c1 c2 : Nat} {s : St} (h : Rel m1 c1 m2 c2 s) (n : Nat) (hn : n < 4294967296) : Rel m1 c1 m2 c2 { s with next := n } :=
 ⟨h.ok1, h.ok2, h.l, h.d, h.rl, h.rd, h.wl, h.wd, hn⟩
theorem Rel.del {m1 m2 : List ME} {c1 c2 : Nat} {s : St} (h : Rel m1 c1 m2 c2 s) (n : Nat) : Rel (delM m1 (n : Int)) c1 m2 c2 { s with lives := delK PLive.txn s.lives n } :=
 ⟨h.ok1.del _, h.ok2, h.l.del n, h.d, h.rl.del n, h.rd, fun z hz => h.wl z (List.mem_filter.1 hz).1, h.wd, h.wn⟩
theorem Rel.touch {m1 m2 : List ME} {c1 c2 : Nat} {s : St} (h : Rel m1 c1 m2 c2 s) (n lsn : Nat) (hn : n < 4294967296) (hl : lsn < 18446744073709551616) : Rel m1 c1 (tchM m2 c2 n lsn) (tchC m2 c2 n) { s with dirty := touchQ s.dirty n lsn } := by
 refine ⟨h.ok1, tch_ok h.ok2 n lsn, h.l, ?_, h.rl, ?_, h.wl, ?_, h.wn⟩
 ·have hi := h.d.some_iff n
  unfold tchM
  show MapsTo PDirty.page fD _ (touchQ s.dirty n lsn)
  unfold touchQ
  rw [hi]
  split
  ·exact h.d
  ·exact h.d.put h.rd c2 ⟨n, lsn⟩ rfl rfl
 ·show Rising PDirty.page (touchQ s.dirty n lsn)
  unfold touchQ
  split
  ·exact h.rd
  ·exact h.rd.ins
 ·show ∀ x ∈ touchQ s.dirty n lsn, wfD x
  unfold touchQ
  split
  ·exact h.wd
  ·intro z hz
   rcases mem_ins hz with rfl | hz
   ·exact ⟨hn, hl⟩
   ·exact h.wd z hz
theorem Rel.look {m1 m2 : List ME} {c1 c2 : Nat} {s : St} (h : Rel m1 c1 m2 c2 s) (n : Nat) : K.look m1 (n : Int) = (findK PLive.txn s.lives n).map fL := h.l.at_ n
theorem Rel.got {m1 m2 : List ME} {c1 c2 : Nat} {s : St} (h : Rel m1 c1 m2 c2 s) {n : Nat} {x : PLive} (hx : findK PLive.txn s.lives n = some x) : wfL x ∧ x.txn = n := ⟨h.wl x (findK_mem hx).1, (findK_mem hx).2⟩
end Go.Proofs.YtkdngpiiecmpgaaGreat.Ch

/-! What a walk over the code's maps collects, sorted: plainly. Conditions: each theorem's own. -/
namespace Go.Proofs.YtkdngpiiecmpgaaGreat.Ch
open Go Go.K Go.Proofs Go.Proofs.YtkdngpiiecmpgaaGreat Go.Proofs.YtkdngpiiecmpgaaGreat.Pg Go.Proofs.YtkdngpiiecmpgaaGreat.Rc
set_option linter.unusedVariables false
set_option linter.unusedSimpArgs false

structure Coll {α : Type} (k : α → Nat) (m : List ME) (l : List α) (seen : List Nat) (xs : List α) : Prop where
 es : ∃ es : List ME, seen = es.map (·.2.2) ∧ (∀ e ∈ es, e ∈ m) ∧ seen.Nodup ∧ es.map (·.1) = xs.map (fun x => (k x : Int))
 sub : ∀ x ∈ xs, x ∈ l
section
variable {α : Type} {k : α → Nat} {f : α → Value} {m : List ME} {c : Nat} {l xs : List α} {seen : List Nat}
theorem Coll.nil : Coll k m l [] [] := ⟨⟨[], rfl, (fun e h => by cases h), List.Pairwise.nil, rfl⟩, fun x h => by cases h⟩
theorem Coll.step (hc : Coll k m l seen xs) (hm : MapOk m c) (hf : MapsTo k f m l) {e : ME} (he : e ∈ m) (hn : e.2.2 ∉ seen) : ∃ x ∈ l, e.1 = (k x : Int) ∧ e.2.1 = f x ∧ Coll k m l (seen ++ [e.2.2]) (xs ++ [x]) := by
 have hl := mem_look hm.keys he
 have h0 : 0 ≤ e.1 := by
  rcases Int.lt_or_le e.1 0 with h | h
  ·rw [hf.neg _ h] at hl; cases hl
  ·exact h
 have h1 := hf.at_ e.1.toNat
 rw [Int.toNat_of_nonneg h0, hl] at h1
 cases hx : findK k l e.1.toNat with
 | none => rw [hx] at h1; cases h1
 | some x =>
  rw [hx] at h1
  obtain ⟨hxl, hkx⟩ := findK_mem hx
  have hek : e.1 = (k x : Int) := by omega
  refine ⟨x, hxl, hek, Option.some.inj h1, ?_, fun z hz => ?_⟩
  ·obtain ⟨es, e1, e2, e3, e4⟩ := hc.es
   refine ⟨es ++ [e], by rw [e1, List.map_append]; rfl, fun z hz => ?_, ?_, by rw [List.map_append, List.map_append, e4]; simp only [List.map_cons, List.map_nil, hek]⟩
   ·rcases List.mem_append.1 hz with hz | hz
    ·exact e2 z hz
    ·rw [List.mem_singleton] at hz; subst hz; exact he
   ·rw [List.nodup_append]
    refine ⟨e3, by simp, fun a ha b hb => ?_⟩
    rw [List.mem_singleton] at hb; subst hb
    exact fun e => hn (e ▸ ha)
  ·rcases List.mem_append.1 hz with hz | hz
   ·exact hc.sub z hz
   ·rw [List.mem_singleton] at hz; subst hz; exact hxl
theorem Coll.nodup (hc : Coll k m l seen xs) (hm : MapOk m c) : (xs.map k).Nodup := by
 obtain ⟨es, e1, e2, e3, e4⟩ := hc.es
 have h1 : (es.map (·.1)).Nodup := by
  rw [e1] at e3
  clear e4 e1
  induction es with
  | nil => simp
  | cons e es ih =>
   rw [List.map_cons, List.nodup_cons] at e3 ⊢
   refine ⟨fun h => ?_, ih (fun z hz => e2 z (List.mem_cons_of_mem _ hz)) e3.2⟩
   obtain ⟨z, hz, hze⟩ := List.mem_map.1 h
   obtain ⟨i, hi⟩ := List.mem_iff_getElem?.1 (e2 z (List.mem_cons_of_mem _ hz))
   obtain ⟨j, hj⟩ := List.mem_iff_getElem?.1 (e2 e (List.mem_cons_self ..))
   have hij := key_one hm.keys hi hj hze rfl
   subst hij
   rw [hi] at hj
   obtain rfl := Option.some.inj hj
   exact e3.1 (List.mem_map_of_mem hz)
 rw [e4] at h1
 rw [List.Nodup, List.pairwise_map] at h1 ⊢
 exact h1.imp fun {a b} hab e => hab (by rw [e])
theorem Coll.all (hc : Coll k m l seen xs) (hm : MapOk m c) (hf : MapsTo k f m l) (hr : Rising k l) (hall : ∀ e ∈ m, e.2.2 ∈ seen) : ∀ x, x ∈ xs ↔ x ∈ l := by
 refine fun x => ⟨hc.sub x, fun hx => ?_⟩
 have h1 := hf.at_ (k x)
 rw [mem_findK hr hx] at h1
 obtain ⟨e, he, h2, h3⟩ := look_mem h1
 obtain ⟨es, e1, e2, e3, e4⟩ := hc.es
 have h4 := hall e he
 rw [e1] at h4
 obtain ⟨z, hz, hze⟩ := List.mem_map.1 h4
 have hzm := e2 z hz
 have hez : z = e := by
  obtain ⟨i, hi⟩ := List.mem_iff_getElem?.1 hzm
  obtain ⟨j, hj⟩ := List.mem_iff_getElem?.1 he
  have h5 := hm.born
  have hij : i = j := by
   obtain ⟨hi1, hi2⟩ := List.getElem?_eq_some_iff.1 hi
   obtain ⟨hj1, hj2⟩ := List.getElem?_eq_some_iff.1 hj
   rw [List.Nodup, List.pairwise_map, List.pairwise_iff_getElem] at h5
   rcases Nat.lt_trichotomy i j with hlt | heq | hlt
   ·exact absurd (by rw [hi2, hj2]; exact hze) (h5 i j hi1 hj1 hlt)
   ·exact heq
   ·exact absurd (by rw [hi2, hj2]; exact hze.symm) (h5 j i hj1 hi1 hlt)
  subst hij
  rw [hi] at hj
  exact Option.some.inj hj
 subst hez
 have h6 : z.1 ∈ es.map (·.1) := List.mem_map_of_mem hz
 rw [e4] at h6
 obtain ⟨y, hy, hyk⟩ := List.mem_map.1 h6
 have hky : k y = k x := by omega
 have := mem_findK hr (hc.sub y hy)
 rw [hky, mem_findK hr hx] at this
 obtain rfl := Option.some.inj this
 exact hy
theorem Coll.sorted (hc : Coll k m l seen xs) (hm : MapOk m c) (hf : MapsTo k f m l) (hr : Rising k l) (hall : ∀ e ∈ m, e.2.2 ∈ seen) {ys : List α} (hp : ys.Perm xs) {lt : α → α → Bool} (hlt : ∀ x y, lt x y = decide (k x < k y)) (hs : ys.Pairwise fun x y => lt y x = false) : ys = l := by
 have h1 := hc.nodup hm
 have h2 : (ys.map k).Nodup := (hp.map k).nodup_iff.2 h1
 have h3 : Rising k ys := by
  unfold Rising
  rw [List.Nodup, List.pairwise_map] at h2
  refine (hs.and h2).imp fun {x y} hxy => ?_
  have h4 := hxy.1
  rw [hlt] at h4
  have h5 := of_decide_eq_false h4
  have := hxy.2
  omega
 refine rising_ext h3 hr fun x => ?_
 rw [hp.mem_iff]
 exact hc.all hm hf hr hall x
end
end Go.Proofs.YtkdngpiiecmpgaaGreat.Ch

/-! The checkpoint's place: the code. What a checkpoint says, loaded: plainly. Conditions: each theorem's own. -/
namespace Go.Proofs.YtkdngpiiecmpgaaGreat.Ch
open Go Go.K Go.Proofs Go.Proofs.YtkdngpiiecmpgaaGreat Go.Proofs.YtkdngpiiecmpgaaGreat.Pg Go.Proofs.YtkdngpiiecmpgaaGreat.Rc
set_option linter.unusedVariables false
set_option linter.unusedSimpArgs false
set_option maxRecDepth 10000

theorem ins_last {α : Type} {k : α → Nat} {x : α} : ∀ {l : List α}, (∀ y ∈ l, k y < k x) → insK k x l = l ++ [x]
 | [], _ => rfl
 | y :: l, h => by
  rw [insK, if_pos (h y (List.mem_cons_self ..)), ins_last fun z hz => h z (List.mem_cons_of_mem _ hz)]
  rfl
theorem rising_of {α : Type} {k : α → Nat} : ∀ (l : List α) (n : Nat), riseQ n (l.map k) = true → Rising k l ∧ ∀ x ∈ l, n < k x
 | [], _, _ => ⟨List.Pairwise.nil, fun x h => by cases h⟩
 | x :: l, n, h => by
  rw [List.map_cons, riseQ, Bool.and_eq_true, decide_eq_true_eq] at h
  obtain ⟨h1, h2⟩ := rising_of l (k x) h.2
  refine ⟨List.pairwise_cons.2 ⟨h2, h1⟩, fun z hz => ?_⟩
  rcases List.mem_cons.1 hz with rfl | hz
  ·exact h.1
  ·exact Nat.lt_trans h.1 (h2 z hz)
theorem ins_take {α : Type} {k : α → Nat} {l : List α} (hr : Rising k l) {j : Nat} {x : α} (hx : l[j]? = some x) : insK k x (l.take j) = l.take (j + 1) := by
 obtain ⟨hj, rfl⟩ := List.getElem?_eq_some_iff.1 hx
 rw [List.take_succ_eq_append_getElem hj]
 refine ins_last fun y hy => ?_
 obtain ⟨i, hi, rfl⟩ := List.mem_iff_getElem.1 hy
 rw [List.length_take] at hi
 rw [List.getElem_take]
 exact List.pairwise_iff_getElem.1 hr i j (by omega) hj (by omega)
theorem may_rise {r : Recd} (h : mayR r = true) : Rising PLive.txn r.lives ∧ Rising PDirty.page r.dirty := by
 unfold mayR at h
 rw [Bool.and_eq_true, decide_eq_true_eq] at h
 obtain ⟨⟨_, _, _, _, _, _, _, h1, h2⟩, _⟩ := h
 exact ⟨(rising_of _ 0 h1).1, (rising_of _ 0 h2).1⟩
theorem right_all : ∀ {l : List Recd} {n : Nat}, rightQ n l = true → ∀ r ∈ l, mayR r = true ∧ n < r.lsn
 | x :: l, n, h, r, hr => by
  rw [rightQ, Bool.and_eq_true, Bool.and_eq_true, decide_eq_true_eq] at h
  rcases List.mem_cons.1 hr with rfl | hr
  ·exact ⟨h.1.2, h.1.1⟩
  ·have := right_all h.2 r hr
   exact ⟨this.1, by omega⟩
def isCheck (c : Nat) (r : Recd) : Bool := decide (r.lsn = c) && decide (r.kind = 8)
set_option maxHeartbeats 4000000 in
theorem CloIdx (h : Base) (B c : Nat) (cs : List Value) (r : Recd) (hx : RecC h cs r) (hc : c < 18446744073709551616) :
  TrV Tryz.prog 29 [.agg cs.toArray, .pointer (some ⟨B, 0, none⟩)] h [blk B 23 [.int .u64 c]] (.bool (isCheck c r)) [blk B 23 [.int .u64 c]] := by
 obtain ⟨hw, ad, ai, al, ay, cd, ci, cl, cy, rfl, hb, _, hl4, hd2⟩ := hx.cells
 have hlsn := hw.lsn
 have hki := hw.kind
 clear hx hw
 refine K.enter Tryz.func29 rfl (Nat.le_of_ble_eq_true rfl) (fun F => ?_)
 simp only [List.nil_append, List.cons_append]
 unfold isCheck
 (repeat' (first | refine X.rq ?_ | (refine X.rc ?_ ?_ <;> intro hc <;> first | (exfalso; omega) | skip)))
 refine K.l_box rfl rfl rfl (fun B3 => ?_)
 by_cases h1 : r.lsn = c
 ·(repeat' (first | refine X.rq ?_ | (refine X.rc ?_ ?_ <;> intro hc <;> first | (exfalso; omega) | skip)))
  refine K.AT.drop ?_
  refine K.done (by first | exact Or.inl rfl | exact Or.inr rfl) rfl (by first | exact K.Base.le.refl _ | assumption) (H' := [blk B 23 [.int .u64 c]]) rfl ⟨by rw [decide_eq_true h1, Bool.true_and]; rfl, rfl, rfl⟩
 ·(repeat' (first | refine X.rq ?_ | (refine X.rc ?_ ?_ <;> intro hc <;> first | (exfalso; omega) | skip)))
  refine K.AT.drop ?_
  refine K.done (by first | exact Or.inl rfl | exact Or.inr rfl) rfl (by first | exact K.Base.le.refl _ | assumption) (H' := [blk B 23 [.int .u64 c]]) rfl ⟨by rw [decide_eq_false h1, Bool.false_and]; rfl, rfl, rfl⟩
set_option maxHeartbeats 4000000 in
theorem IdxRec (h : Base) (KK : List Asrt) (f : FuncId) (caps : List Value) (hcal : Callable Tryz.prog f) (v : Value) (es : List (List Value)) (p : Nat → Bool) (hv : SL h 15 v es) (hl : es.length ≤ 9223372036854775807)
  (hz : ∀ c ∈ es, c.length = 15) (hp : ∀ j cs, es[j]? = some cs → TrV Tryz.prog f (.agg cs.toArray :: caps) h KK (.bool (p j)) KK) :
  Tr Tryz.prog 28 [v, .func (.func f) #[] caps.toArray] h KK (fun u h' H' => h' = h ∧ H' = KK ∧
   ((∃ i : Nat, u = .int .i64 i ∧ i < es.length ∧ p i = true ∧ ∀ j, j < i → p j = false) ∨ (u = .int .i64 (-1) ∧ ∀ j, j < es.length → p j = false))) := by
 obtain ⟨ao, ca, rfl⟩ := hv.len
 refine K.enter Tryz.func28 rfl (Nat.le_of_ble_eq_true rfl) (fun F => ?_)
 (repeat' (first | refine X.rq ?_ | (refine X.rc ?_ ?_ <;> intro hc <;> first | (exfalso; omega) | skip)))
 refine K.c_loop (σ := Nat) (fun j => [(0, .slice ao es.length ca), (1, .func (.func f) #[] caps.toArray), (6, .slice ao es.length ca), (7, .int .i64 es.length), (8, .int .i64 j)]) (fun _ => h) (fun _ => KK ++ F)
  (fun j => j ≤ es.length ∧ ∀ i, i < j → p i = false) (fun j => es.length - j) 0 ⟨Nat.zero_le _, fun i hi => by omega⟩ (by repeat (first | exact K.Sub.nil _ | refine K.Sub.cons rfl ?_)) rfl rfl ?_
 rintro j ⟨hj, hno⟩ KL hKL
 by_cases hjl : j < es.length
 ·have hc1 : es[j]? = some es[j] := List.getElem?_eq_getElem hjl
  have hc0 : es[((j : Nat) : Int).toNat]? = some es[j] := by rw [Int.toNat_natCast]; exact hc1
  have hzj : es[j].length = 15 := hz _ (List.getElem_mem hjl)
  generalize es[j] = c at hc0 hc1 hzj
  (repeat' (first | refine X.rq ?_ | (refine X.rc ?_ ?_ <;> intro hc <;> first | (exfalso; omega) | skip)))
  refine K.s_pureE (K.p_indexL hv (Fx.und rfl) (Fx.sz rfl) rfl rfl (by omega) hc0) rfl ?_
  rintro v2 ⟨b, o, rfl, hcel⟩
  refine K.s_pure (K.p_loadM (Fx.agg rfl) rfl (Cels.up hcel) (Fx.sz rfl) hzj) rfl ?_
  refine K.l_callF (vals := [.agg c.toArray]) hcal rfl rfl (hp j c hc1) (List.Perm.refl _) rfl ?_
  rintro u h' H' - ⟨rfl, e, rfl⟩
  obtain rfl := e.symm
  cases hpj : p j with
  | true =>
   (repeat' (first | refine X.rq ?_ | (refine X.rc ?_ ?_ <;> intro hc <;> first | (exfalso; omega) | skip)))
   refine K.done (by first | exact Or.inl rfl | exact Or.inr rfl) rfl (by first | exact K.Base.le.refl _ | assumption) (H' := H') rfl ⟨rfl, rfl, .inl ⟨j, rfl, hjl, hpj, hno⟩⟩
  | false =>
   (repeat' (first | refine X.rq ?_ | (refine X.rc ?_ ?_ <;> intro hc <;> first | (exfalso; omega) | skip)))
   refine K.a_round hKL (j + 1) ⟨by omega, fun i hi => ?_⟩ (by repeat (first | exact K.Sub.nil _ | refine K.Sub.cons rfl ?_)) rfl rfl (by omega)
   by_cases hij : i < j
   ·exact hno i hij
   ·obtain rfl : i = j := by omega
    exact hpj
 ·obtain rfl : j = es.length := by omega
  (repeat' (first | refine X.rq ?_ | (refine X.rc ?_ ?_ <;> intro hc <;> first | (exfalso; omega) | skip)))
  refine K.done (by first | exact Or.inl rfl | exact Or.inr rfl) rfl (by first | exact K.Base.le.refl _ | assumption) (H' := KK) rfl ⟨rfl, rfl, .inr ⟨rfl, hno⟩⟩
theorem check_some {l : List Recd} {c i : Nat} {r : Recd} (hi : l[i]? = some r) (h1 : isCheck c r = true) (h2 : ∀ j, j < i → ∀ x, l[j]? = some x → isCheck c x = false) : checkAt l c = some i := by
 unfold checkAt
 obtain ⟨hil, rfl⟩ := List.getElem?_eq_some_iff.1 hi
 rw [List.findIdx?_eq_some_iff_getElem]
 refine ⟨hil, h1, fun j hj => ?_⟩
 have := h2 j hj _ (List.getElem?_eq_getElem (by omega))
 unfold isCheck at this
 rw [this]; decide
theorem check_none {l : List Recd} {c : Nat} (h : ∀ x ∈ l, isCheck c x = false) : checkAt l c = none := by
 unfold checkAt
 rw [List.findIdx?_eq_none_iff]
 intro x hx
 exact h x hx
theorem Rel.putD {m1 m2 : List ME} {c1 c2 : Nat} {s : St} (h : Rel m1 c1 m2 c2 s) (x : PDirty) (hx : wfD x) : Rel m1 c1 (putM m2 c2 (x.page : Nat) (fD x)) (putC m2 c2 (x.page : Nat)) { s with dirty := insK PDirty.page x s.dirty } :=
 ⟨h.ok1, h.ok2.put _ _, h.l, h.d.put h.rd c2 x rfl rfl, h.rl, h.rd.ins, h.wl, fun z hz => by
  rcases mem_ins hz with rfl | hz
  ·exact hx
  ·exact h.wd z hz, h.wn⟩
theorem RowsG.drop {α : Type} {R : List Value → α → Prop} {es : List (List Value)} {l : List α} (h : RowsG R es l) (k : Nat) : RowsG R (es.drop k) (l.drop k) :=
 ⟨by rw [List.length_drop, List.length_drop, h.1], fun j c x hc hx => h.2 (k + j) c x (by rwa [List.getElem?_drop] at hc) (by rwa [List.getElem?_drop] at hx)⟩
end Go.Proofs.YtkdngpiiecmpgaaGreat.Ch
