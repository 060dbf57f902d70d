/-
 KNa: the texts KM KQ KV in one (maps, parts of rows, thawing). Conditions: each theorem's own.
-/
import Derived.Test.YtijbhgiigddjdaaGreatPC9
import Derived.Maps.RangeRun
set_option linter.unusedVariables false
set_option linter.unusedSimpArgs false
set_option maxRecDepth 10000
set_option maxHeartbeats 16000000
/-! KM: maps with whole numbers for keys, owned by the call: made, looked up, written, deleted from, ranged over. Generic over the program. Conditions: none. -/
namespace Go.K
def objA (b : Nat) (o : Obj) : Asrt where
 ids := [b]
 holds w := w.heap[b]? = some o
 live w h x hx := by
  simp at hx; subst hx
  rcases Nat.lt_or_ge x w.heap.size with h' | h'
  ·exact h'
  ·rw [Array.getElem?_eq_none h'] at h; cases h
 loc w w' hb h := by rw [hb b (by simp)]; exact h
theorem heap_ltO {w : World} {b : Nat} {o : Obj} (h : w.heap[b]? = some o) : b < w.heap.size := by
 rcases Nat.lt_or_ge b w.heap.size with h' | h'
 ·exact h'
 ·rw [Array.getElem?_eq_none h'] at h; cases h
abbrev ME := Int × Value × Nat
def entE (kk : IntKind) (e : ME) : MapEntry := ⟨.int kk e.1, e.2.1, e.2.2⟩
def mapO (kk : IntKind) (l : List ME) (clock : Nat) : Obj := .map (l.map (entE kk)).toArray clock
def iterO (b since : Nat) (seen : List Nat) (last : Nat) : Obj := .mapIter (some b) since seen.toArray last
abbrev mapA (b : Nat) (kk : IntKind) (l : List ME) (clock : Nat) : Asrt := objA b (mapO kk l clock)
abbrev iterA (r b since : Nat) (seen : List Nat) (last : Nat) : Asrt := objA r (iterO b since seen last)
structure MapOk (l : List ME) (clock : Nat) : Prop where
 keys : (l.map (·.1)).Nodup
 born : (l.map (·.2.2)).Nodup
 clock : ∀ e ∈ l, e.2.2 < clock
theorem MapOk.nil : MapOk [] 0 := ⟨by simp, by simp, fun e h => by cases h⟩
def look (l : List ME) (a : Int) : Option Value := (l.find? fun e => e.1 == a).map (·.2.1)
def putM (l : List ME) (clock : Nat) (a : Int) (v : Value) : List ME := if (look l a).isSome then l.map (fun e => if e.1 = a then (a, v, e.2.2) else e) else l ++ [(a, v, clock)]
def putC (l : List ME) (clock : Nat) (a : Int) : Nat := if (look l a).isSome then clock else clock + 1
def delM (l : List ME) (a : Int) : List ME := l.filter fun e => !(e.1 == a)
section
variable {P : Program}
theorem findNow_ent (kk : IntKind) (a : Int) : ∀ (l : List ME) (i : Nat), Instr.findNow (.int kk) (.int kk a) (l.map (entE kk)) i = some ((l.findIdx? fun e => e.1 == a).bind fun j => (l[j]?).map fun e => (i + j, e.2.1))
 | [], i => rfl
 | e :: l, i => by
  rw [List.map_cons, Instr.findNow]
  show (match (if kk = kk then some (a == e.1) else none) with | some true => some (some (i, (entE kk e).val)) | some false => Instr.findNow (.int kk) (.int kk a) (l.map (entE kk)) (i + 1) | none => none) = _
  rw [if_pos rfl, List.findIdx?_cons]
  by_cases h : a = e.1
  ·subst h
   simp [entE]
  ·have h1 : (a == e.1) = false := by simpa using h
   have h2 : (e.1 == a) = false := by simpa using fun e' => h e'.symm
   rw [h1, h2]
   dsimp only
   rw [findNow_ent kk a l (i + 1)]
   cases hf : l.findIdx? fun e => e.1 == a with
   | none => simp
   | some j => simp [Nat.add_assoc, Nat.add_comm 1 j]
theorem run_findKey (kk : IntKind) (kt : TypeId) (a : Int) (l : List ME) (w : World) (hk : P.underlying kt = some (.int kk)) :
  (Instr.findKey kt (.int kk a) (l.map (entE kk))).run P w = .ok ((l.findIdx? fun e => e.1 == a).bind fun j => (l[j]?).map fun e => (j, e.2.1)) w := by
 unfold Instr.findKey
 rw [Sem.run_bind, run_underlying hk]
 simp only [Result.andThen_ok, findNow_ent]
 simp
theorem idx_look {l : List ME} {a : Int} : ((l.findIdx? fun e => e.1 == a).bind fun j => (l[j]?).map fun e => (j, e.2.1)).map (·.2) = look l a := by
 induction l with
 | nil => rfl
 | cons e l ih =>
  unfold look at ih ⊢
  rw [List.findIdx?_cons, List.find?_cons]
  cases h : e.1 == a with
  | true => simp
  | false =>
   simp only [Bool.false_eq_true, if_false]
   rw [← ih]
   cases l.findIdx? fun e => e.1 == a with
   | none => rfl
   | some j =>
    simp only [Option.map_some, Option.bind_some, List.getElem?_cons_succ, Option.map_map]
    cases l[j]? <;> rfl
end
section
variable {P : Program} {n : NN} {Q : Exit → Act → World → Prop} {E : Env} {h h' h0 : Base} {H K R F : List Asrt} {ops : Array Oper} {rest : List Oper}
variable {op : Op} {t t' kt et ty : TypeId} {ps : String} {af : Array Edge} {d i b : Nat} {v z : Value} {x y : Operand} {dst : Option Nat} {g : Option (Nat × Bool)} {kk : IntKind} {m : List ME} {clock : Nat} {a : Int}
theorem Ok.writeO {o o' : Obj} {w w' : World} (hk : Ok h (objA b o :: H) w) (e1 : w'.os = w.os) (e2 : w'.tape = w.tape) (e3 : w'.output = w.output) (hb : w'.heap[b]? = some o') (ho : ∀ x, x ≠ b → w'.heap[x]? = w.heap[x]?) : Ok h (objA b o' :: H) w' := by
 have hnd := hk.nd
 simp only [idsOf, List.flatMap_cons] at hnd
 have hnb : b ∉ idsOf H := by
  have : ([b] ++ idsOf H).Nodup := hnd
  rw [List.singleton_append, List.nodup_cons] at this
  exact this.1
 refine ⟨e1.trans hk.os, e2.trans hk.tape, e3.trans hk.output, ⟨fun x o hx => ?_, fun A hA => ?_⟩, hk.nd, hk.dj⟩
 ·have hw := hk.sat.imm x o hx
  have : x ≠ b := fun e => by
   subst e
   have := hk.dj x (by simp [idsOf, objA])
   rw [this] at hx; cases hx
  rw [ho x this]; exact hw
 ·rcases List.mem_cons.1 hA with e | hA'
  ·rw [e]; exact hb
  ·have hh := hk.sat.own A (List.mem_cons_of_mem _ hA')
   refine A.loc w w' (fun x hx => ho x (fun e => ?_)) hh
   subst e
   exact hnb (List.mem_flatMap.2 ⟨A, hA', hx⟩)
theorem Ok.allocO {w : World} (hk : Ok h H w) (o : Obj) : Ok h (objA w.heap.size o :: H) (w.alloc o) := by
 have old : ∀ b, b < w.heap.size → (w.alloc o).heap[b]? = w.heap[b]? := fun b hb => RowKit.Below.heap_alloc _ _ _ hb
 refine ⟨hk.os, hk.tape, hk.output, ⟨fun b o hb => ?_, fun A hA => ?_⟩, ?_, fun b hb => ?_⟩
 ·have := hk.sat.imm b o hb
  rw [old b (heap_ltO this)]; exact this
 ·rcases List.mem_cons.1 hA with rfl | hA
  ·show (w.heap.push _)[w.heap.size]? = _
   simp
  ·exact A.loc w _ (fun b hb => old b (A.live w (hk.sat.own A hA) b hb)) (hk.sat.own A hA)
 ·simp only [idsOf, List.flatMap_cons]
  show ([w.heap.size] ++ _).Nodup
  rw [List.singleton_append, List.nodup_cons]
  refine ⟨fun hb => ?_, hk.nd⟩
  have := hk.live _ hb
  omega
 ·simp only [idsOf, List.flatMap_cons] at hb
  rcases List.mem_append.1 hb with hb | hb
  ·have : b = w.heap.size := by simpa [objA] using hb
   subst this
   cases hm : h.mem w.heap.size with
   | none => rfl
   | some o => have := heap_ltO (hk.sat.imm _ _ hm); omega
  ·exact hk.dj b hb
theorem s_runE (hr : ∀ a w, Fr n E a → Ok h H w → ∃ u w', (execOp a.eval ⟨dst, op, ty, ps, af, none⟩).run P w = .ok (.value u) w' ∧ wpList P ops Q rest (a.put dst u) w') : WL P n ops Q (⟨dst, op, ty, ps, af, none⟩ :: rest) E h H :=
 ⟨fun a w fa ok => wpList_plain rfl fun K hK => by
  unfold Oper.wp
  obtain ⟨u, w', h1, h2⟩ := hr a w fa ok
  rw [h1, Oper.upon_value]
  exact hK _ _ h2⟩
theorem s_runS (hr : ∀ a w, Fr n E a → Ok h H w → ∃ w', (execOp a.eval ⟨none, op, ty, ps, af, none⟩).run P w = .ok .skip w' ∧ wpList P ops Q rest a w') : WL P n ops Q (⟨none, op, ty, ps, af, none⟩ :: rest) E h H :=
 ⟨fun a w fa ok => wpList_plain rfl fun K hK => by
  unfold Oper.wp
  obtain ⟨w', h1, h2⟩ := hr a w fa ok
  rw [h1, Oper.upon_skip]
  exact hK _ _ h2⟩
theorem l_makeMap (hd : Nat.blt d n = true) (hk : ∀ B, WL P n ops Q rest ((d, .map (some B)) :: E) h (mapA B kk [] 0 :: H)) : WL P n ops Q (⟨some d, .makeMap t none, ty, ps, af, none⟩ :: rest) E h H :=
 s_runE fun a w fa ok => ⟨.map (some w.heap.size), w.alloc (mapO kk [] 0), by simp [execOp, Instr.makeMap, newObj, mapO, Sem.run], (hk w.heap.size).run _ _ (fa.put _ hd) (ok.allocO _)⟩
theorem run_checkKey {e : Bool} {w : World} {q : Nat} (hk : P.underlying kt = some (.int kk)) : (Instr.checkKey e (q + 1) kt (.int kk a)).run P w = .ok () w := by
 simp [Instr.checkKey, run_underlying hk]
theorem run_lookup {w : World} {co : Bool} (hu : P.underlying t = some (.map kt et)) (hk : P.underlying kt = some (.int kk)) (hz : zrOf P et = some z) (hb : w.heap[b]? = some (mapO kk m clock)) :
  (Instr.lookup t (.map (some b)) (.int kk a) co).run P w = .ok (if co then .tuple #[(look m a).getD z, .bool (look m a).isSome] else (look m a).getD z) w := by
 have hl := idx_look (l := m) (a := a)
 have hf := run_findKey (P := P) kk kt a m w hk
 have hg : (getObj b).run P w = .ok (mapO kk m clock) w := by simp [getObj, Sem.run, hb, mapO]
 unfold Instr.lookup
 simp only [Sem.run_bind, run_underlying hu, Result.andThen_ok, hg, mapO, run_checkKey hk, List.toList_toArray, hf]
 rw [← hl]
 generalize ((m.findIdx? fun e => e.1 == a).bind fun j => (m[j]?).map fun e => (j, e.2.1)) = q at hf
 cases q with
 | none => cases co <;> simp [run_zero hz, hf]
 | some r => cases co <;> simp [hf]
theorem p_lookup {co : Bool} (j : Nat) (hj : K[j]? = some (mapA b kk m clock)) (hu : P.underlying t = some (.map kt et)) (hk : P.underlying kt = some (.int kk)) (hz : zrOf P et = some z) (hx : lkO E x = some (.map (some b))) (hy : lkO E y = some (.int kk a)) (hv : (if co then .tuple #[(look m a).getD z, .bool (look m a).isSome] else (look m a).getD z) = v) :
  Pu P n E h K ⟨dst, .lookup t x y co, ty, ps, af, g⟩ v :=
 ⟨fun s w fa hs => by
  have hb : w.heap[b]? = some (mapO kk m clock) := hs.own _ (List.mem_of_getElem? hj)
  subst hv
  simp only [execOp, fa.eval hx, fa.eval hy, Sem.run_bind, run_lookup hu hk hz hb]
  cases co <;> simp⟩
theorem run_setObjO {o o' : Obj} {w : World} (hb : w.heap[b]? = some o) (ho : ∀ c e f, o ≠ .cells c e f) : (setObj b o').run P w = .ok () { w with heap := w.heap.setIfInBounds b o' } := by
 cases o with
 | cells c e f => exact absurd rfl (ho c e f)
 | _ => simp [setObj, Sem.run, hb]
theorem idx_none {l : List ME} {a : Int} (h : ((l.findIdx? fun e => e.1 == a).bind fun j => (l[j]?).map fun e => (j, e.2.1)) = none) : (look l a).isSome = false := by
 rw [← idx_look, h]; rfl
theorem idx_some {l : List ME} {a : Int} {j : Nat} {u : Value} (h : ((l.findIdx? fun e => e.1 == a).bind fun j => (l[j]?).map fun e => (j, e.2.1)) = some (j, u)) : (look l a).isSome = true ∧ ∃ e, l[j]? = some e ∧ e.1 = a ∧ e.2.1 = u := by
 refine ⟨by rw [← idx_look, h]; rfl, ?_⟩
 cases hf : l.findIdx? fun e => e.1 == a with
 | none => rw [hf] at h; cases h
 | some i =>
  rw [hf] at h
  obtain ⟨hlt, hp, _⟩ := List.findIdx?_eq_some_iff_getElem.1 hf
  rw [Option.bind_some, List.getElem?_eq_getElem hlt] at h
  simp only [Option.map_some, Option.some.injEq, Prod.mk.injEq] at h
  obtain ⟨rfl, rfl⟩ := h
  exact ⟨l[i], List.getElem?_eq_getElem hlt, by simpa using hp, rfl⟩
theorem key_one {l : List ME} {a : Int} (hn : (l.map (·.1)).Nodup) {i j : Nat} {e f : ME} (hi : l[i]? = some e) (hj : l[j]? = some f) (he : e.1 = a) (hf : f.1 = a) : i = j := by
 obtain ⟨h1, rfl⟩ := List.getElem?_eq_some_iff.1 hi
 obtain ⟨h2, rfl⟩ := List.getElem?_eq_some_iff.1 hj
 have hp := List.pairwise_iff_getElem.1 hn
 rcases Nat.lt_trichotomy i j with h | h | h
 ·exact (hp i j (by simpa using h1) (by simpa using h2) h (by rw [List.getElem_map, List.getElem_map, he, hf])).elim
 ·exact h
 ·exact (hp j i (by simpa using h2) (by simpa using h1) h (by rw [List.getElem_map, List.getElem_map, he, hf])).elim
theorem modify_put {l : List ME} {a : Int} {v : Value} {j : Nat} {e : ME} (hn : (l.map (·.1)).Nodup) (hj : l[j]? = some e) (he : e.1 = a) :
  (l.map (entE kk)).modify j (fun x => { x with key := .int kk a, val := v }) = (l.map fun e => if e.1 = a then (a, v, e.2.2) else e).map (entE kk) := by
 refine List.ext_getElem? fun i => ?_
 rw [List.getElem?_modify, List.getElem?_map, List.getElem?_map, List.getElem?_map]
 cases hi : l[i]? with
 | none => simp
 | some f =>
  by_cases hf : f.1 = a
  ·obtain rfl := key_one hn hj hi he hf
   simp [hf, entE]
  ·have hij : ¬ j = i := fun e' => by
    subst e'
    rw [hj] at hi
    cases hi
    exact hf he
   simp [hf, hij]
theorem run_update {w : World} (hu : P.underlying t = some (.map kt et)) (hk : P.underlying kt = some (.int kk)) (hm : MapOk m clock) (hb : w.heap[b]? = some (mapO kk m clock)) :
  (Instr.mapUpdate t (.map (some b)) (.int kk a) v).run P w = .ok () { w with heap := w.heap.setIfInBounds b (mapO kk (putM m clock a v) (putC m clock a)) } := by
 have hf := run_findKey (P := P) kk kt a m w hk
 have hg : (getObj b).run P w = .ok (mapO kk m clock) w := by simp [getObj, Sem.run, hb, mapO]
 have hset : ∀ o', (setObj b o').run P w = .ok () { w with heap := w.heap.setIfInBounds b o' } := fun o' => run_setObjO hb (fun c e f h => by cases h)
 unfold Instr.mapUpdate
 simp only [Sem.run_bind, run_underlying hu, Result.andThen_ok, hg, mapO, run_checkKey hk]
 cases hq : ((m.findIdx? fun e => e.1 == a).bind fun j => (m[j]?).map fun e => (j, e.2.1)) with
 | none =>
  have h1 := idx_none hq
  rw [hq] at hf
  simp only [hf, Result.andThen_ok, hset, putM, putC, h1, Bool.false_eq_true, if_false]
  simp [entE]
 | some r =>
  obtain ⟨j, u⟩ := r
  obtain ⟨h1, e, hj, he, _⟩ := idx_some hq
  rw [hq] at hf
  have hsb : Instr.sameBits 10000 (.int kk a) (.int kk a) = true := by simp [Instr.sameBits]
  have hmod := modify_put (kk := kk) (v := v) hm.keys hj he
  simp only [hf, Result.andThen_ok, putM, putC, h1, if_true]
  simp only [List.getElem?_toArray, List.getElem?_map, hj, Option.map_some, Option.getD_some, entE, he, Instr.keyThatStays, hsb, if_true, Sem.run_bind, Sem.run_pure, Result.andThen_ok, hset]
  rw [List.modify_toArray, ← hmod]
theorem l_update (hu : P.underlying t = some (.map kt et)) (hk : P.underlying kt = some (.int kk)) (hm : MapOk m clock) {q : Operand} (hx : lkO E x = some (.map (some b))) (hy : lkO E y = some (.int kk a)) (hv : lkO E q = some v)
  (hn : WL P n ops Q rest E h (mapA b kk (putM m clock a v) (putC m clock a) :: H)) : WL P n ops Q (⟨none, .mapUpdate t x y q, ty, ps, af, none⟩ :: rest) E h (mapA b kk m clock :: H) :=
 s_runS fun s w fa ok => by
  have hb : w.heap[b]? = some (mapO kk m clock) := ok.own_head
  refine ⟨{ w with heap := w.heap.setIfInBounds b (mapO kk (putM m clock a v) (putC m clock a)) }, by simp only [execOp, fa.eval hx, fa.eval hy, fa.eval hv, Sem.run_bind, run_update (v := v) (a := a) hu hk hm hb]; rfl, hn.run _ _ fa (ok.writeO rfl rfl rfl ?_ fun z hz => ?_)⟩
  ·show (w.heap.setIfInBounds b _)[b]? = _
   rw [Array.getElem?_setIfInBounds_self, if_pos (heap_ltO hb)]
  ·show (w.heap.setIfInBounds b _)[z]? = _
   rw [Array.getElem?_setIfInBounds_ne (fun e => hz e.symm)]
theorem erase_del {l : List ME} {a : Int} {j : Nat} {e : ME} (hn : (l.map (·.1)).Nodup) (hj : l[j]? = some e) (he : e.1 = a) : l.eraseIdx j = delM l a := by
 unfold delM
 induction l generalizing j with
 | nil => simp at hj
 | cons f l ih =>
  rw [List.map_cons, List.nodup_cons] at hn
  cases j with
  | zero =>
   simp only [List.getElem?_cons_zero, Option.some.injEq] at hj
   subst hj
   rw [List.eraseIdx_cons_zero, List.filter_cons]
   have h1 : (f.1 == a) = true := by simpa using he
   simp only [h1, Bool.not_true, Bool.false_eq_true, if_false]
   refine (List.filter_eq_self.2 fun x hx => ?_).symm
   have : x.1 ≠ a := fun e' => hn.1 (by rw [he, ← e']; exact List.mem_map.2 ⟨x, hx, rfl⟩)
   simpa using this
  | succ j =>
   rw [List.getElem?_cons_succ] at hj
   have h1 : (f.1 == a) = false := by
    have : f.1 ≠ a := fun e' => hn.1 (by rw [e', ← he]; exact List.mem_map.2 ⟨e, List.mem_of_getElem? hj, rfl⟩)
    simpa using this
   rw [List.eraseIdx_cons_succ, List.filter_cons, ih hn.2 hj]
   simp [h1]
theorem del_none {l : List ME} {a : Int} (h : (look l a).isSome = false) : delM l a = l := by
 unfold delM
 refine List.filter_eq_self.2 fun x hx => ?_
 cases hq : x.1 == a with
 | false => rfl
 | true =>
  unfold look at h
  have : (l.find? fun e => e.1 == a).isSome = true := by
   rw [List.find?_isSome]
   exact ⟨x, hx, hq⟩
  rw [Option.isSome_map] at h
  rw [this] at h
  cases h
theorem run_delete {w : World} {ats : Array TypeId} (h0 : ats[0]? = some t) (hu : P.underlying t = some (.map kt et)) (hk : P.underlying kt = some (.int kk)) (hm : MapOk m clock) (hb : w.heap[b]? = some (mapO kk m clock)) :
  (Builtin.delete_ ats ty #[.map (some b), .int kk a]).run P w = .ok (.tuple #[]) { w with heap := w.heap.setIfInBounds b (mapO kk (delM m a) clock) } := by
 have hf := run_findKey (P := P) kk kt a m w hk
 have hg : (getObj b).run P w = .ok (mapO kk m clock) w := by simp [getObj, Sem.run, hb, mapO]
 have hset : ∀ o', (setObj b o').run P w = .ok () { w with heap := w.heap.setIfInBounds b o' } := fun o' => run_setObjO hb (fun c e f h => by cases h)
 unfold Builtin.delete_
 simp only [h0, List.getElem?_toArray, List.getElem?_cons_zero, List.getElem?_cons_succ, Sem.run_bind, run_underlying hu, Result.andThen_ok, hg, mapO, run_checkKey hk]
 cases hq : ((m.findIdx? fun e => e.1 == a).bind fun j => (m[j]?).map fun e => (j, e.2.1)) with
 | none =>
  have h1 := idx_none hq
  rw [hq] at hf
  simp only [hf, Result.andThen_ok, Sem.run_bind, hset, Sem.run_pure, del_none h1]
 | some r =>
  obtain ⟨j, u⟩ := r
  obtain ⟨h1, e, hj, he, _⟩ := idx_some hq
  rw [hq] at hf
  simp only [hf, Result.andThen_ok, Sem.run_bind, hset, Sem.run_pure]
  rw [← erase_del hm.keys hj he]
  simp [List.eraseIdxIfInBounds_toArray, ChangeMaps.map_eraseIdx]
theorem l_deleteN {ats : Array TypeId} (h0 : ats[0]? = some t) (hu : P.underlying t = some (.map kt et)) (hk : P.underlying kt = some (.int kk)) (hm : MapOk m clock) (hx : lkO E x = some (.map (some b))) (hy : lkO E y = some (.int kk a))
  (hn : WL P n ops Q rest E h (mapA b kk (delM m a) clock :: H)) : WL P n ops Q (⟨none, .call ⟨.builtin .delete, #[x, y], ats⟩, ty, ps, af, none⟩ :: rest) E h (mapA b kk m clock :: H) :=
 s_runE fun s w fa ok => by
  have hb : w.heap[b]? = some (mapO kk m clock) := ok.own_head
  have ha : evArgs E [x, y] = some [.map (some b), .int kk a] := by simp [evArgs, hx, hy]
  refine ⟨.tuple #[], { w with heap := w.heap.setIfInBounds b (mapO kk (delM m a) clock) }, ?_, hn.run _ _ fa (ok.writeO rfl rfl rfl ?_ fun z hz => ?_)⟩
  ·rw [show (#[x, y] : Array Operand) = [x, y].toArray from rfl, run_builtin fa ha]
   simp only [builtin]
   rw [show ([Value.map (some b), Value.int kk a].toArray) = #[.map (some b), .int kk a] from rfl, Sem.run_bind, run_delete (a := a) h0 hu hk hm hb]
   rfl
  ·show (w.heap.setIfInBounds b _)[b]? = _
   rw [Array.getElem?_setIfInBounds_self, if_pos (heap_ltO hb)]
  ·show (w.heap.setIfInBounds b _)[z]? = _
   rw [Array.getElem?_setIfInBounds_ne (fun e => hz e.symm)]
theorem look_none {l : List ME} {a : Int} : look l a = none ↔ ∀ e ∈ l, e.1 ≠ a := by
 unfold look
 rw [Option.map_eq_none_iff, List.find?_eq_none]
 simp
theorem look_put (l : List ME) (c : Nat) (a : Int) (v : Value) (q : Int) : look (putM l c a v) q = if q = a then some v else look l q := by
 unfold putM
 split
 ·rename_i hs
  have hsome : ∀ (l : List ME), look (l.map fun e => if e.1 = a then (a, v, e.2.2) else e) q = if q = a then (look l a).map (fun _ => v) else look l q := by
   intro l
   induction l with
   | nil => simp [look]
   | cons e l ih =>
    unfold look at ih ⊢
    rw [List.map_cons, List.find?_cons, List.find?_cons, List.find?_cons]
    by_cases he : e.1 = a
    ·rw [if_pos he]
     by_cases hq : q = a
     ·subst hq; simp [he]
     ·have h1 : (a == q) = false := by simpa using fun e' => hq e'.symm
      have h2 : (e.1 == q) = false := by rw [he]; exact h1
      simp only [h1, h2, if_neg hq]
      rw [ih, if_neg hq]
    ·rw [if_neg he]
     have h1 : (e.1 == a) = false := by simpa using he
     rw [h1]
     by_cases hq : q = a
     ·subst hq
      rw [h1]
      simp only
      rw [ih]
      simp
     ·rw [if_neg hq]
      cases h2 : e.1 == q with
      | true => rfl
      | false =>
       simp only
       rw [ih, if_neg hq]
  rw [hsome]
  by_cases hq : q = a
  ·rw [if_pos hq, if_pos hq]
   obtain ⟨u, hu⟩ := Option.isSome_iff_exists.1 hs
   rw [hu]; rfl
  ·rw [if_neg hq, if_neg hq]
 ·rename_i hs
  have hn : look l a = none := by
   cases hq : look l a with
   | none => rfl
   | some u => rw [hq] at hs; exact absurd rfl hs
  unfold look at hn ⊢
  rw [List.find?_append]
  by_cases hq : q = a
  ·subst hq
   rw [Option.map_eq_none_iff] at hn
   rw [hn, if_pos rfl]
   simp
  ·rw [if_neg hq]
   have h1 : (a == q) = false := by simpa using fun e' => hq e'.symm
   simp [h1]
theorem look_del (l : List ME) (a q : Int) : look (delM l a) q = if q = a then none else look l q := by
 unfold delM
 induction l with
 | nil => simp [look]
 | cons e l ih =>
  rw [List.filter_cons]
  by_cases he : e.1 = a
  ·have h1 : (e.1 == a) = true := by simpa using he
   simp only [h1, Bool.not_true, Bool.false_eq_true, if_false]
   rw [ih]
   by_cases hq : q = a
   ·rw [if_pos hq, if_pos hq]
   ·rw [if_neg hq, if_neg hq]
    unfold look
    rw [List.find?_cons]
    have : (e.1 == q) = false := by simpa using fun e' => hq (by rw [← e', he])
    rw [this]
  ·have h1 : (e.1 == a) = false := by simpa using he
   simp only [h1, Bool.not_false, if_true]
   unfold look at ih ⊢
   rw [List.find?_cons, List.find?_cons]
   by_cases hq : q = a
   ·subst hq
    rw [h1]
    simp only
    rw [ih]
    simp
   ·cases h2 : e.1 == q with
    | true => rw [if_neg hq]
    | false =>
     simp only
     rw [ih]
theorem MapOk.put {l : List ME} {c : Nat} (hm : MapOk l c) (a : Int) (v : Value) : MapOk (putM l c a v) (putC l c a) := by
 unfold putM putC
 split
 ·rename_i hs
  have h1 : (l.map fun e => if e.1 = a then (a, v, e.2.2) else e).map (·.1) = l.map (·.1) := by
   rw [List.map_map]
   refine List.map_congr_left fun e _ => ?_
   by_cases he : e.1 = a
   ·simp [he]
   ·simp [he]
  have h2 : (l.map fun e => if e.1 = a then (a, v, e.2.2) else e).map (·.2.2) = l.map (·.2.2) := by
   rw [List.map_map]
   refine List.map_congr_left fun e _ => ?_
   by_cases he : e.1 = a
   ·simp [he]
   ·simp [he]
  refine ⟨by rw [h1]; exact hm.keys, by rw [h2]; exact hm.born, fun e he => ?_⟩
  obtain ⟨f, hf, rfl⟩ := List.mem_map.1 he
  by_cases hfa : f.1 = a
  ·rw [if_pos hfa]; exact hm.clock f hf
  ·rw [if_neg hfa]; exact hm.clock f hf
 ·rename_i hs
  have hn : look l a = none := by
   cases hq : look l a with
   | none => rfl
   | some u => rw [hq] at hs; exact absurd rfl hs
  have hk := look_none.1 hn
  refine ⟨?_, ?_, fun e he => ?_⟩
  ·rw [List.map_append, List.nodup_append]
   refine ⟨hm.keys, by simp, fun x hx y hy e => ?_⟩
   obtain ⟨f, hf, rfl⟩ := List.mem_map.1 hx
   simp at hy
   exact hk f hf (e.trans hy)
  ·rw [List.map_append, List.nodup_append]
   refine ⟨hm.born, by simp, fun x hx y hy e => ?_⟩
   obtain ⟨f, hf, rfl⟩ := List.mem_map.1 hx
   simp at hy
   have := hm.clock f hf
   omega
  ·rcases List.mem_append.1 he with he | he
   ·have := hm.clock e he; omega
   ·simp at he; subst he; exact Nat.lt_succ_self _
theorem MapOk.del {l : List ME} {c : Nat} (hm : MapOk l c) (a : Int) : MapOk (delM l a) c :=
 ⟨(List.filter_sublist.map _).nodup hm.keys, (List.filter_sublist.map _).nodup hm.born, fun e he => hm.clock e (List.mem_filter.1 he).1⟩
theorem l_range (j : Nat) (hj : H[j]? = some (mapA b kk m clock)) (hu : P.underlying t = some (.map kt et)) (hx : lkO E x = some (.map (some b))) (hd : Nat.blt d n = true)
  (hk : ∀ R, WL P n ops Q rest ((d, .pointer (some ⟨R, 0, none⟩)) :: E) h (iterA R b clock [] clock :: H)) : WL P n ops Q (⟨some d, .range t x, ty, ps, af, none⟩ :: rest) E h H :=
 s_runE fun s w fa ok => by
  have hb : w.heap[b]? = some (mapO kk m clock) := ok.sat.own _ (List.mem_of_getElem? hj)
  have hg : (getObj b).run P w = .ok (mapO kk m clock) w := by simp [getObj, Sem.run, hb, mapO]
  refine ⟨.pointer (some ⟨w.heap.size, 0, none⟩), w.alloc (iterO b clock [] clock), ?_, (hk w.heap.size).run _ _ (fa.put _ hd) (ok.allocO _)⟩
  simp only [execOp, fa.eval hx, Instr.range, Sem.run_bind, run_underlying hu, Result.andThen_ok, hg, mapO]
  simp [newObj, Sem.run, iterO]
theorem left_iff {l : List ME} {seen : List Nat} {e : MapEntry} : e ∈ (leftOf (l.map (entE kk)).toArray seen.toArray).toList ↔ ∃ f ∈ l, f.2.2 ∉ seen ∧ e = entE kk f := by
 unfold leftOf
 rw [Array.toList_filter, List.mem_filter]
 simp only [List.mem_map, List.contains_toArray, Bool.not_eq_true', List.contains_eq_mem, decide_eq_false_iff_not]
 constructor
 ·rintro ⟨⟨f, hf, rfl⟩, h2⟩
  exact ⟨f, hf, h2, rfl⟩
 ·rintro ⟨f, hf, h2, rfl⟩
  exact ⟨⟨f, hf, rfl⟩, h2⟩
theorem l_next {r : Nat} {seen : List Nat} (hm : MapOk m clock) (hx : lkO E x = some (.pointer (some ⟨r, 0, none⟩))) (hd : Nat.blt d n = true)
  (hend : (∀ e ∈ m, e.2.2 ∈ seen) → WL P n ops Q rest ((d, .tuple #[.bool false]) :: E) h (iterA r b clock seen clock :: mapA b kk m clock :: F))
  (hgo : ∀ e ∈ m, e.2.2 ∉ seen → WL P n ops Q rest ((d, .tuple #[.bool true, .int kk e.1, e.2.1]) :: E) h (iterA r b clock (seen ++ [e.2.2]) clock :: mapA b kk m clock :: F)) :
  WL P n ops Q (⟨some d, .next x false, ty, ps, af, none⟩ :: rest) E h (iterA r b clock seen clock :: mapA b kk m clock :: F) :=
 s_runE fun s w fa ok => by
  have hr : w.heap[r]? = some (iterO b clock seen clock) := ok.own_head
  have hb : w.heap[b]? = some (mapO kk m clock) := ok.sat.own (mapA b kk m clock) (by simp)
  have hold : ∀ e ∈ (m.map (entE kk)).toArray.toList, e.born < clock := fun e he => by
   obtain ⟨f, hf, rfl⟩ := List.mem_map.1 (show e ∈ m.map (entE kk) from he)
   exact hm.clock f hf
  rcases run_next_at (P := P) w ty r b clock clock seen.toArray (m.map (entE kk)).toArray clock hr hb hold (Nat.le_refl _) with ⟨h0, h1⟩ | ⟨e, he, w1, hw1, h1⟩
  ·refine ⟨_, w, by simp only [execOp, fa.eval hx, Sem.run_bind, h1]; rfl, (hend fun f hf => ?_).run _ _ (fa.put _ hd) ok⟩
   refine Classical.byContradiction fun hn => ?_
   have : entE kk f ∈ (leftOf (m.map (entE kk)).toArray seen.toArray).toList := left_iff.2 ⟨f, hf, hn, rfl⟩
   rw [show (leftOf (m.map (entE kk)).toArray seen.toArray).toList = [] from List.eq_nil_of_length_eq_zero (by simpa using h0)] at this
   cases this
  ·obtain ⟨f, hf, hns, rfl⟩ := left_iff.1 he
   have ok1 : Ok h (iterA r b clock seen clock :: mapA b kk m clock :: F) w1 := by
    rcases hw1 with rfl | rfl
    ·exact ok
    ·exact ok.drew rfl rfl rfl rfl
   refine ⟨_, ChangeMaps.setBlock w1 r (iterO b clock (seen ++ [f.2.2]) clock), ?_, (hgo f hf hns).run _ _ (fa.put _ hd) (ok1.writeO rfl rfl rfl ?_ fun z hz => ?_)⟩
   ·simp only [execOp, fa.eval hx, Sem.run_bind, h1]
    simp [iterO, entE]
   ·show (w1.heap.setIfInBounds r _)[r]? = _
    rw [Array.getElem?_setIfInBounds_self, if_pos (heap_ltO ok1.own_head)]
   ·show (w1.heap.setIfInBounds r _)[z]? = _
    rw [Array.getElem?_setIfInBounds_ne (fun e => hz e.symm)]
theorem p_entry {r : Nat} {seen : List Nat} {e : ME} (i j : Nat) (hi : K[i]? = some (iterA r b clock (seen ++ [e.2.2]) clock)) (hj : K[j]? = some (mapA b kk m clock)) (hm : MapOk m clock) (he : e ∈ m) (hx : lkO E x = some (.pointer (some ⟨r, 0, none⟩))) :
  Pu P n E h K ⟨dst, .entry x, ty, ps, af, g⟩ (.tuple #[.int kk e.1, e.2.1]) :=
 ⟨fun s w fa hs => by
  have hr : w.heap[r]? = some (iterO b clock (seen ++ [e.2.2]) clock) := hs.own _ (List.mem_of_getElem? hi)
  have hb : w.heap[b]? = some (mapO kk m clock) := hs.own _ (List.mem_of_getElem? hj)
  have hr2 : w.heap[r]? = some (.mapIter (some b) clock (seen.toArray.push (entE kk e).born) clock) := by rw [hr]; simp [iterO, entE]
  have := run_entry_at (P := P) w r b clock seen.toArray (m.map (entE kk)).toArray clock (entE kk e) hr2 hb (by simpa using ⟨e.1, e.2.1, e.2.2, he, rfl⟩) (by simpa [Function.comp_def, entE] using hm.born)
  simp only [execOp, fa.eval hx, Sem.run_bind, this]
  rfl⟩
theorem set_perm {H : List Asrt} {i : Nat} {A A' : Asrt} (hi : H[i]? = some A) : (A' :: H.eraseIdx i).Perm (H.set i A') := by
 have hlt : i < H.length := (List.getElem?_eq_some_iff.1 hi).1
 have := at_perm (l := H.set i A') (i := i) (A := A') (by rw [List.getElem?_set_self hlt])
 rw [List.eraseIdx_set_eq] at this
 exact this.symm
theorem l_update_at (i : Nat) (hi : H[i]? = some (mapA b kk m clock)) (hu : P.underlying t = some (.map kt et)) (hk : P.underlying kt = some (.int kk)) (hm : MapOk m clock) {q : Operand} (hx : lkO E x = some (.map (some b))) (hy : lkO E y = some (.int kk a)) (hv : lkO E q = some v)
  (hn : WL P n ops Q rest E h (H.set i (mapA b kk (putM m clock a v) (putC m clock a)))) : WL P n ops Q (⟨none, .mapUpdate t x y q, ty, ps, af, none⟩ :: rest) E h H :=
 WL.perm (at_perm hi) (l_update hu hk hm hx hy hv (WL.perm (set_perm hi) hn))
theorem l_delete_at {ats : Array TypeId} (i : Nat) (hi : H[i]? = some (mapA b kk m clock)) (h0 : ats[0]? = some t) (hu : P.underlying t = some (.map kt et)) (hk : P.underlying kt = some (.int kk)) (hm : MapOk m clock) (hx : lkO E x = some (.map (some b))) (hy : lkO E y = some (.int kk a))
  (hn : WL P n ops Q rest E h (H.set i (mapA b kk (delM m a) clock))) : WL P n ops Q (⟨none, .call ⟨.builtin .delete, #[x, y], ats⟩, ty, ps, af, none⟩ :: rest) E h H :=
 WL.perm (at_perm hi) (l_deleteN h0 hu hk hm hx hy (WL.perm (set_perm hi) hn))
end
end Go.K

/-! KQ: a part of a row of the base; numbers of lists. Generic over the program. Conditions: none. -/
namespace Go.K
section
variable {P : Program} {n : NN} {E : Env} {h : Base} {K : List Asrt}
variable {t ty : TypeId} {ps : String} {af : Array Edge} {v : Value} {x y : Operand} {dst : Option Nat} {g : Option (Nat × Bool)}
section
variable {Q : Exit → Act → World → Prop} {H R : List Asrt} {ops : Array Oper} {rest : List Oper} {d : Nat}
theorem Ok.openBuf {T s b m cap : Nat} {cs : List Value} {w : World} (ok : Ok h (bufA T s (some b) m cap cs :: R) w) : ∃ sp fz, cs.length = m * s ∧ (cs ++ sp).length = cap * s ∧ m ≤ cap ∧ cap ≤ maxLen ∧ Free fz (cap * s) ∧ Ok h (blkF b T (cs ++ sp) fz :: R) w := by
 obtain ⟨sp, fz, g1, g2, g3, g4, g5, g6⟩ := ok.own_head
 refine ⟨sp, fz, g2, g3, g4, g5, g6, ok.os, ok.tape, ok.output, ⟨ok.sat.imm, fun A hA => ?_⟩, ok.nd, ok.dj⟩
 rcases List.mem_cons.1 hA with rfl | hA'
 ·exact g1
 ·exact ok.sat.own A (List.mem_cons_of_mem _ hA')
theorem WL.openBuf {L : List Oper} {T s b m cap : Nat} {cs : List Value} (hk : ∀ sp fz, cs.length = m * s → (cs ++ sp).length = cap * s → m ≤ cap → cap ≤ maxLen → Free fz (cap * s) → WL P n ops Q L E h (blkF b T (cs ++ sp) fz :: R)) : WL P n ops Q L E h (bufA T s (some b) m cap cs :: R) :=
 ⟨fun a w fa ok => by obtain ⟨sp, fz, g2, g3, g4, g5, g6, ok2⟩ := Ok.openBuf ok; exact (hk sp fz g2 g3 g4 g5 g6).run _ w fa ok2⟩
theorem Ok.someBuf {T s m cap j : Nat} {a : Option Nat} {cs : List Value} {w : World} (hj : H[j]? = some (bufA T s a m cap cs)) (hm : 0 < m) (ok : Ok h H w) : ∃ b, a = some b := by
 have := ok.sat.own _ (List.mem_of_getElem? hj)
 cases a with
 | none => obtain ⟨e, _, _⟩ := this; omega
 | some b => exact ⟨b, rfl⟩
theorem WC.someBuf {c : Code} {T s m cap : Nat} {a : Option Nat} {cs : List Value} (j : Nat) (hj : H[j]? = some (bufA T s a m cap cs)) (hm : 0 < m) (hk : ∀ b, a = some b → WC P n c Q E h H) : WC P n c Q E h H :=
 ⟨fun ac w fa ok => by obtain ⟨b, e⟩ := Ok.someBuf hj hm ok; exact (hk b e).run _ w fa ok⟩
theorem cel_rowZ {T s b m cap i q : Nat} {es : List (List Value)} {c : List Value} {u : Value} (j : Nat) (hj : K[j]? = some (bufA T s (some b) m cap es.flatten)) (hz : ∀ e ∈ es, e.length = s) (hi : es[i]? = some c) (hq : c[q]? = some u) : Cel h K b (i * s + q) u := ⟨fun w hs => by
 obtain ⟨sp, fz, g1, _⟩ := hs.own _ (List.mem_of_getElem? hj)
 have := flat_get (sp := sp) hz hi hq
 simp [World.cell?, g1, this]⟩
theorem cels_rowZ {T s b m cap i : Nat} {es : List (List Value)} {c : List Value} (j : Nat) (hj : K[j]? = some (bufA T s (some b) m cap es.flatten)) (hz : ∀ e ∈ es, e.length = s) (hi : es[i]? = some c) : Cels h K b (i * s) c :=
 cels_of fun q u hq => cel_rowZ j hj hz hi hq
theorem WL.freezeRowN {L : List Oper} {T sz m : Nat} {a : Option Nat} {cap : Nat} {es : List (List Value)} (hm : m = es.length) (hz : ∀ e ∈ es, e.length = sz) (hk : ∀ h', h.le h' → SL h' sz (bufV a m cap) es → WL P n ops Q L E h' H) : WL P n ops Q L E h (bufA T sz a m cap es.flatten :: H) := by
 subst hm
 exact WL.freezeRow hz fun h' le hs _ => hk h' le hs
theorem l_storePart {b s m cap i : Nat} {T : TypeId} {es : List (List Value)} {c1 c2 c3 us : List Value} (j : Nat) (hj : H[j]? = some (bufA T s (some b) m cap es.flatten)) (hs : szOf P t = some us.length) (hx : lkO E x = some (.pointer (some ⟨b, i * s + c1.length, none⟩))) (hy : lkO E y = some (.agg us.toArray)) (hv : ones us = true)
  (hz : ∀ e ∈ es, e.length = s) (hi : es[i]? = some (c1 ++ c2 ++ c3)) (hu : us.length = c2.length) (hk : WL P n ops Q rest E h (H.set j (bufA T s (some b) m cap (es.set i (c1 ++ us ++ c3)).flatten))) :
  WL P n ops Q (⟨none, .store t x y, ty, ps, af, none⟩ :: rest) E h H := by
 have e1 := at_perm hj
 have hlt : j < H.length := by
  rcases Nat.lt_or_ge j H.length with h' | h'
  ·exact h'
  ·rw [List.getElem?_eq_none h'] at hj; cases hj
 have e2 : (bufA T s (some b) m cap (es.set i (c1 ++ us ++ c3)).flatten :: H.eraseIdx j).Perm (H.set j (bufA T s (some b) m cap (es.set i (c1 ++ us ++ c3)).flatten)) := by
  have := at_perm (l := H.set j (bufA T s (some b) m cap (es.set i (c1 ++ us ++ c3)).flatten)) (i := j) (A := bufA T s (some b) m cap (es.set i (c1 ++ us ++ c3)).flatten) (by rw [List.getElem?_set_self hlt])
  rw [List.eraseIdx_set_eq] at this
  exact this.symm
 obtain ⟨hil, hie⟩ := List.getElem?_eq_some_iff.1 hi
 obtain ⟨p1, p2⟩ := flat_parts es i hil hz
 have hz' : ∀ e ∈ es.set i (c1 ++ us ++ c3), e.length = s := fun e he => by
  rcases List.mem_or_eq_of_mem_set he with h' | h'
  ·exact hz e h'
  ·have := hz _ (List.getElem_mem hil)
   rw [hie] at this
   rw [h', ← this]; simp; omega
 obtain ⟨q1, q2⟩ := flat_parts (es.set i (c1 ++ us ++ c3)) i (by simpa using hil) hz'
 rw [List.take_set_of_le (Nat.le_refl _), List.drop_set_of_lt (by omega), List.getElem_set_self] at q1
 rw [hie] at p1
 have hlen : (es.set i (c1 ++ us ++ c3)).flatten.length = es.flatten.length := by rw [flatten_len _ hz', flatten_len _ hz, List.length_set]
 refine WL.perm e1 (WL.openBuf fun sp fz g2 g3 g4 g5 g6 => ?_)
 have hb : i * s + c1.length + us.length ≤ cap * s := by
  have h1 : es.flatten.length ≤ cap * s := by rw [← g3, List.length_append]; omega
  have h2 := congrArg List.length p1
  simp only [List.length_append] at h2
  omega
 have e3 : es.flatten ++ sp = ((es.take i).flatten ++ c1) ++ c2 ++ (c3 ++ (es.drop (i + 1)).flatten ++ sp) := by rw [p1]; simp only [List.append_assoc]
 have e4 : (es.set i (c1 ++ us ++ c3)).flatten ++ sp = ((es.take i).flatten ++ c1) ++ us ++ (c3 ++ (es.drop (i + 1)).flatten ++ sp) := by rw [q1]; simp only [List.append_assoc]
 rw [e3]
 refine l_storeN hs hx hy hv hu (by rw [List.length_append, p2]) (fun o ho => g6 o (by omega)) ?_
 rw [← e4]
 exact WL.shut (by rw [hlen]; exact g2) (by rw [List.length_append, hlen, ← List.length_append]; exact g3) g4 g5 g6 (WL.perm e2 hk)
theorem l_storePart1 {b s m cap i : Nat} {T : TypeId} {es : List (List Value)} {c : List Value} {q : Nat} (j : Nat) (hj : H[j]? = some (bufA T s (some b) m cap es.flatten)) (hs : szOf P t = some 1) (hx : lkO E x = some (.pointer (some ⟨b, i * s + q, none⟩))) (hy : lkO E y = some v) (hv : oneCell v = true)
  (hz : ∀ e ∈ es, e.length = s) (hi : es[i]? = some c) (hq : q < c.length) (hk : WL P n ops Q rest E h (H.set j (bufA T s (some b) m cap (es.set i (c.set q v)).flatten))) :
  WL P n ops Q (⟨none, .store t x y, ty, ps, af, none⟩ :: rest) E h H := by
 have e1 := at_perm hj
 have hlt : j < H.length := by
  rcases Nat.lt_or_ge j H.length with h' | h'
  ·exact h'
  ·rw [List.getElem?_eq_none h'] at hj; cases hj
 have e2 : (bufA T s (some b) m cap (es.set i (c.set q v)).flatten :: H.eraseIdx j).Perm (H.set j (bufA T s (some b) m cap (es.set i (c.set q v)).flatten)) := by
  have := at_perm (l := H.set j (bufA T s (some b) m cap (es.set i (c.set q v)).flatten)) (i := j) (A := bufA T s (some b) m cap (es.set i (c.set q v)).flatten) (by rw [List.getElem?_set_self hlt])
  rw [List.eraseIdx_set_eq] at this
  exact this.symm
 obtain ⟨hil, hie⟩ := List.getElem?_eq_some_iff.1 hi
 have hcs : c.length = s := by rw [← hie]; exact hz _ (List.getElem_mem hil)
 obtain ⟨p1, p2⟩ := flat_parts es i hil hz
 have hz' : ∀ e ∈ es.set i (c.set q v), e.length = s := fun e he => by
  rcases List.mem_or_eq_of_mem_set he with h' | h'
  ·exact hz e h'
  ·rw [h', List.length_set, hcs]
 obtain ⟨q1, q2⟩ := flat_parts (es.set i (c.set q v)) i (by simpa using hil) hz'
 rw [List.take_set_of_le (Nat.le_refl _), List.drop_set_of_lt (by omega), List.getElem_set_self] at q1
 rw [hie] at p1
 have hlen : (es.set i (c.set q v)).flatten.length = es.flatten.length := by rw [flatten_len _ hz', flatten_len _ hz, List.length_set]
 refine WL.perm e1 (WL.openBuf fun sp fz g2 g3 g4 g5 g6 => ?_)
 have h2 := congrArg List.length p1
 simp only [List.length_append, p2] at h2
 have hb : i * s + q < es.flatten.length := by omega
 have h1 : es.flatten.length ≤ cap * s := by rw [← g3, List.length_append]; omega
 refine l_store1 (cs' := (es.set i (c.set q v)).flatten ++ sp) hs hx hy hv (by rw [Nat.blt_eq, List.length_append]; omega) (g6 _ (by omega)) ?_ ?_
 ·rw [p1, q1]
  simp only [List.append_assoc]
  rw [List.set_append, if_neg (by rw [p2]; omega), p2, show i * s + q - i * s = q from by omega, List.set_append, if_pos hq]
 ·exact WL.shut (by rw [hlen]; exact g2) (by rw [List.length_append, hlen, ← List.length_append]; exact g3) g4 g5 g6 (WL.perm e2 hk)
end
end
theorem SL.at {h : Base} {sz : Nat} {ao : Option Addr} {la ca : Nat} {es : List (List Value)} (hb : SL h sz (.slice ao la ca) es) {j : Nat} {c : List Value} (hc : es[j]? = some c) : ∃ b o, ao = some ⟨b, o, none⟩ ∧ Cels h [] b (o + j * sz) c := by
 obtain ⟨hlt, he⟩ := List.getElem?_eq_some_iff.1 hc
 rcases hb with ⟨_, _, _, rfl⟩ | ⟨b, o, c', e, _, hcs⟩
 ·simp at hlt
 ·injection e with e1 _ _
  refine ⟨b, o, e1, ?_⟩
  have := (hcs j hlt).2
  rw [he] at this
  exact this
end Go.K

/-! KV: memory that came up behind a base: frozen, and taken back to be written. Generic over the program. Conditions: none. -/
namespace Go.K
def Fsh (h0 h : Base) (sz : Nat) (v : Value) : Prop := ∀ ao n c, v = .slice ao n c → 0 < n → ∃ b arr T fz, ao = some ⟨b, 0, none⟩ ∧ h0.mem b = none ∧ h.mem b = some (.cells arr T fz) ∧ ∀ i, i < n * sz → (decide (fz.1 ≤ i) && decide (i < fz.2)) = false
theorem Fsh.le {h0 h0' h h' : Base} {sz : Nat} {v : Value} (hf : Fsh h0 h sz v) (h1 : h0'.le h0) (h2 : h.le h') : Fsh h0' h' sz v := fun ao n c e hn => by
 obtain ⟨b, arr, T, fz, e1, e2, e3, e4⟩ := hf ao n c e hn
 refine ⟨b, arr, T, fz, e1, ?_, h2.mem _ _ e3, e4⟩
 cases hm : h0'.mem b with
 | none => rfl
 | some o => rw [h1.mem _ _ hm] at e2; cases e2
theorem Fsh.nil {h0 h : Base} {sz c : Nat} {ao : Option Addr} : Fsh h0 h sz (.slice ao 0 c) := fun _ n _ e hn => by
 injection e with _ e2 _
 omega
section
variable {P : Program} {n : NN} {Q : Exit → Act → World → Prop} {E : Env} {h h' h0 : Base} {H K R F : List Asrt} {ops : Array Oper} {rest : List Oper}
variable {op : Op} {t t' ty : TypeId} {ps : String} {af : Array Edge} {d i : Nat} {v : Value} {x y : Operand} {dst : Option Nat} {g : Option (Nat × Bool)}
theorem Ok.freezeBufF {T : TypeId} {a : Option Nat} {cap : Nat} {l : List UInt8} {w : World} (ok : Ok h (bufA T 1 a l.length cap (l.map u8) :: H) w) : ∃ h', h.le h' ∧ BV h' (bufV a l.length cap) l ∧ Fsh h h' 1 (bufV a l.length cap) ∧ Ok h' H w := by
 have hown := ok.own_head
 cases a with
 | none =>
  obtain ⟨e1, e2, e3⟩ := hown
  have : l = [] := by simpa using e3
  subst this; subst e2
  exact ⟨h, Base.le.refl h, BV.nil, Fsh.nil, ok.drop⟩
 | some b =>
  obtain ⟨sp, fz, g1, g2, g3, g4, g5, g6⟩ := hown
  have ok2 : Ok h (blkF b T (l.map u8 ++ sp) fz :: H) w := by
   refine ⟨ok.os, ok.tape, ok.output, ⟨ok.sat.imm, fun A hA => ?_⟩, ok.nd, ok.dj⟩
   rcases List.mem_cons.1 hA with rfl | hA'
   ·exact g1
   ·exact ok.sat.own A (List.mem_cons_of_mem _ hA')
  obtain ⟨f1, f2, f3⟩ := ok2.freeze
  refine ⟨_, f1, .inr ⟨b, 0, cap, rfl, g4, cels_of fun j u hj => ?_⟩, fun ao n c e hn => ?_, f3⟩
  ·rw [Nat.zero_add]
   refine cel_mem f2 ?_
   have hlt : j < (l.map u8).length := (List.getElem?_eq_some_iff.1 hj).1
   rw [List.getElem?_append_left hlt]; exact hj
  ·cases e
   exact ⟨b, _, T, fz, rfl, ok2.dj b (by simp [idsOf, blkF]), f2, fun i hi => g6 i (Nat.lt_of_lt_of_le hi (Nat.mul_le_mul_right _ g4))⟩
theorem WL.freezeBufF {L : List Oper} {T : TypeId} {a : Option Nat} {cap : Nat} {l : List UInt8} (hk : ∀ h', h.le h' → BV h' (bufV a l.length cap) l → Fsh h h' 1 (bufV a l.length cap) → WL P n ops Q L E h' H) : WL P n ops Q L E h (bufA T 1 a l.length cap (l.map u8) :: H) :=
 ⟨fun a w fa ok => by obtain ⟨h', h1, h2, h3, h4⟩ := ok.freezeBufF; exact (hk h' h1 h2 h3).run _ w fa h4⟩
theorem Ok.freezeRowF {T sz : Nat} {a : Option Nat} {cap : Nat} {es : List (List Value)} {w : World} (hz : ∀ e ∈ es, e.length = sz) (ok : Ok h (bufA T sz a es.length cap es.flatten :: H) w) : ∃ h', h.le h' ∧ SL h' sz (bufV a es.length cap) es ∧ es.length ≤ cap ∧ Fsh h h' sz (bufV a es.length cap) ∧ Ok h' H w := by
 have hown := ok.own_head
 cases a with
 | none =>
  obtain ⟨e1, e2, e3⟩ := hown
  have : es = [] := List.eq_nil_of_length_eq_zero e1
  subst this; subst e2
  exact ⟨h, Base.le.refl h, .inl ⟨_, _, rfl, rfl⟩, Nat.le_refl _, Fsh.nil, ok.drop⟩
 | some b =>
  obtain ⟨sp, fz, g1, g2, g3, g4, g5, g6⟩ := hown
  have ok2 : Ok h (blkF b T (es.flatten ++ sp) fz :: H) w := by
   refine ⟨ok.os, ok.tape, ok.output, ⟨ok.sat.imm, fun A hA => ?_⟩, ok.nd, ok.dj⟩
   rcases List.mem_cons.1 hA with rfl | hA'
   ·exact g1
   ·exact ok.sat.own A (List.mem_cons_of_mem _ hA')
  obtain ⟨f1, f2, f3⟩ := ok2.freeze
  refine ⟨_, f1, .inr ⟨b, 0, cap, rfl, g4, fun j hj => ⟨hz _ (List.getElem_mem hj), ?_⟩⟩, g4, fun ao n c e hn => ?_, f3⟩
  ·refine cels_of fun i u hu => cel_mem f2 ?_
   have hfl := flat_get (sp := sp) hz (List.getElem?_eq_getElem hj) hu
   rw [show 0 + j * sz + i = j * sz + i by omega]
   exact hfl
  ·cases e
   exact ⟨b, _, T, fz, rfl, ok2.dj b (by simp [idsOf, blkF]), f2, fun i hi => g6 i (Nat.lt_of_lt_of_le hi (Nat.mul_le_mul_right _ g4))⟩
theorem AT.freezeRowF {q : Exit} {T sz : Nat} {a : Option Nat} {cap : Nat} {es : List (List Value)} (hz : ∀ e ∈ es, e.length = sz) (hk : ∀ h', h.le h' → SL h' sz (bufV a es.length cap) es → es.length ≤ cap → Fsh h h' sz (bufV a es.length cap) → AT P n Q q E h' H) : AT P n Q q E h (bufA T sz a es.length cap es.flatten :: H) :=
 ⟨fun a w fa ok => by obtain ⟨h', h1, h2, h3, h4, h5⟩ := ok.freezeRowF hz; exact (hk h' h1 h2 h3 h4).run _ w fa h5⟩

/-! Memory that came up behind a base, all of it, taken back. -/
end
end Go.K
