/-
 KX: the texts K1 K2 K3 K4 K5 K6 K7 K8 K9 in one. Conditions: each theorem's own.
-/
import Derived.OrdersHeld
import Derived.Tactics
import Derived.WalkKit
import Derived.WalkLawsBesides
import Derived.ProofKit
import Derived.Below
import Derived.OpenShut
import Derived.ShutString
import Derived.ChangeOld
import Derived.Deep.Slices
set_option linter.unusedVariables false
set_option linter.unusedSimpArgs false
set_option maxRecDepth 10000
set_option maxHeartbeats 16000000
/-! K1: a separation logic over the model: frames as association lists, a persistent base heap, a list of owned assertions. Generic over the program: no seat's numbers stand here. Conditions: none. -/
namespace Go.K
theorem cna.{u} {α : Type u} : (∀ (a : α) (l m : List α), a :: l ++ m = a :: (l ++ m)) ∧ (∀ l : List α, [] ++ l = l) := ⟨fun _ _ _ => rfl, fun _ => rfl⟩
theorem nmz.{u} {α : Type u} : (∀ (a b : α) (l : List α), (a :: l).set 0 b = b :: l) ∧ (∀ (a b : α) (l : List α) (n : Nat), (a :: l).set (n + 1) b = a :: l.set n b) ∧ (∀ (a : α) (l : List α), (a :: l).eraseIdx 0 = l) ∧ (∀ (a : α) (l : List α) (n : Nat), (a :: l).eraseIdx (n + 1) = a :: l.eraseIdx n) ∧ (∀ (a : α) (l m : List α), a :: l ++ m = a :: (l ++ m)) ∧ (∀ l : List α, [] ++ l = l) := ⟨fun _ _ _ => rfl, fun _ _ _ _ => rfl, fun _ _ => rfl, fun _ _ _ => rfl, fun _ _ _ => rfl, fun _ => rfl⟩

/-! ## Frames -/
abbrev Env := List (Nat × Value)

def lk : Env → Nat → Option Value
 | [], _ => none
 | (k, v) :: E, t => match Nat.beq k t with
  | true => some v
  | false => lk E t

theorem lk_cons (k : Nat) (v : Value) (E : Env) (t : Nat) : lk ((k, v) :: E) t = if k = t then some v else lk E t := by
 by_cases h : k = t
 ·subst h; simp [lk, Nat.beq_refl]
 ·have : Nat.beq k t = false := by
   cases hb : Nat.beq k t with
   | false => rfl
   | true => exact absurd (Nat.eq_of_beq_eq_true hb) h
  simp [lk, this, h]

structure NN where
 n : Nat
 ds : List Deferred
instance : Coe Nat NN := ⟨fun n => ⟨n, []⟩⟩
instance : CoeOut NN Nat := ⟨NN.n⟩

structure Fr (n : NN) (E : Env) (a : Act) : Prop where
 size : a.tmps.size = n.n
 defers : a.defers = n.ds
 get : ∀ t v, lk E t = some v → a.tmps[t]? = some v

def lkO (E : Env) : Operand → Option Value
 | .tmp t => lk E t
 | .const v => some v
 | .global g => some (.pointer (some ⟨g, 0, none⟩))
 | .func f => some (.func (.func f) #[] #[])

theorem Fr.eval {n : NN} {E : Env} {a : Act} (h : Fr n E a) {x : Operand} {v : Value} (hx : lkO E x = some v) : a.eval x = v := by
 cases x with
 | tmp t => have := h.get t v hx; simp [Act.eval, Array.getD_eq_getD_getElem?, this]
 | const u => simpa [lkO, Act.eval] using hx
 | global g => simpa [lkO, Act.eval] using hx
 | func f => simpa [lkO, Act.eval] using hx

theorem Fr.put {n : NN} {E : Env} {a : Act} (h : Fr n E a) {d : Nat} (v : Value) (hd : Nat.blt d n = true) : Fr n ((d, v) :: E) (a.put (some d) v) := by
 have hdn : d < n := by simpa [Nat.blt_eq] using hd
 refine ⟨by simp [Act.put, h.size], by simp [Act.put, h.defers], fun t u hu => ?_⟩
 rw [lk_cons] at hu
 by_cases hk : d = t
 ·subst hk
  simp at hu
  subst hu
  have : d < a.tmps.size := by rw [h.size]; exact hdn
  simp [Act.put, this]
 ·rw [if_neg hk] at hu
  have := h.get t u hu
  simp [Act.put, hk, this]

def Sub (E E' : Env) : Prop := ∀ t v, lk E' t = some v → lk E t = some v
theorem Sub.refl (E : Env) : Sub E E := fun _ _ h => h
theorem Sub.nil (E : Env) : Sub E [] := fun _ _ h => by simp [lk] at h
theorem Sub.cons {E E' : Env} {t : Nat} {v : Value} (h : lk E t = some v) (h' : Sub E E') : Sub E ((t, v) :: E') := fun u x hx => by
 rw [lk_cons] at hx
 by_cases hk : t = u
 ·subst hk; rw [if_pos rfl] at hx; rw [h]; exact hx
 ·rw [if_neg hk] at hx; exact h' u x hx
theorem Fr.sub {n : NN} {E E' : Env} {a : Act} (h : Fr n E a) (hs : Sub E E') : Fr n E' a := ⟨h.size, h.defers, fun t v ht => h.get t v (hs t v ht)⟩

def args0 : Nat → List Value → Env
 | _, [] => []
 | k, v :: r => (k, v) :: args0 (k + 1) r

theorem lk_args0 : ∀ (l : List Value) (k t : Nat) (v : Value), lk (args0 k l) t = some v → k ≤ t ∧ l[t - k]? = some v
 | [], _, _, _, h => by simp [args0, lk] at h
 | x :: r, k, t, v, h => by
  rw [args0, lk_cons] at h
  by_cases hk : k = t
  ·subst hk; simp at h; simp [h]
  ·rw [if_neg hk] at h
   obtain ⟨h1, h2⟩ := lk_args0 r (k + 1) t v h
   refine ⟨by omega, ?_⟩
   have : t - k = (t - (k + 1)) + 1 := by omega
   rw [this, List.getElem?_cons_succ]; exact h2

theorem Fr.enter (n : Nat) (l : List Value) (hn : l.length ≤ n) : Fr n (args0 0 l) { tmps := l.toArray ++ Array.replicate (n - l.toArray.size) undef, defers := [] } := by
 refine ⟨by simp; omega, rfl, fun t v h => ?_⟩
 obtain ⟨_, h2⟩ := lk_args0 l 0 t v h
 simp at h2
 have hlt : t < l.length := by
  rcases Nat.lt_or_ge t l.length with h' | h'
  ·exact h'
  ·simp [List.getElem?_eq_none h'] at h2
 rw [Array.getElem?_append_left (by simpa using hlt)]
 simpa using h2

/-! ## The heap -/
structure Base where
 os : Os
 tape : Nat → Question → Nat
 output : Array (Nat × ByteArray)
 mem : Nat → Option Obj

structure Base.le (h h' : Base) : Prop where
 os : h'.os = h.os
 tape : h'.tape = h.tape
 output : h'.output = h.output
 mem : ∀ b o, h.mem b = some o → h'.mem b = some o
theorem Base.le.refl (h : Base) : h.le h := ⟨rfl, rfl, rfl, fun _ _ x => x⟩
theorem Base.le.trans {a b c : Base} (h : a.le b) (k : b.le c) : a.le c :=
 ⟨k.os.trans h.os, k.tape.trans h.tape, k.output.trans h.output, fun x o hx => k.mem x o (h.mem x o hx)⟩

structure Asrt where
 ids : List Nat
 holds : World → Prop
 live : ∀ w, holds w → ∀ b ∈ ids, b < w.heap.size
 loc : ∀ w w', (∀ b ∈ ids, w'.heap[b]? = w.heap[b]?) → holds w → holds w'

def idsOf (H : List Asrt) : List Nat := H.flatMap (·.ids)

structure Sat (h : Base) (H : List Asrt) (w : World) : Prop where
 imm : ∀ b o, h.mem b = some o → w.heap[b]? = some o
 own : ∀ A ∈ H, A.holds w

structure Ok (h : Base) (H : List Asrt) (w : World) : Prop where
 os : w.os = h.os
 tape : w.tape = h.tape
 output : w.output = h.output
 sat : Sat h H w
 nd : (idsOf H).Nodup
 dj : ∀ b ∈ idsOf H, h.mem b = none

theorem Ok.drew {h : Base} {H : List Asrt} {w w' : World} (hk : Ok h H w) (e : w'.heap = w.heap) (e1 : w'.os = w.os) (e2 : w'.tape = w.tape) (e3 : w'.output = w.output) : Ok h H w' :=
 ⟨e1.trans hk.os, e2.trans hk.tape, e3.trans hk.output, ⟨fun b o hb => by rw [e]; exact hk.sat.imm b o hb, fun A hA => A.loc w w' (fun b _ => by rw [e]) (hk.sat.own A hA)⟩, hk.nd, hk.dj⟩

theorem Sat.sub {h : Base} {H K : List Asrt} {w : World} (hs : Sat h H w) (hk : ∀ A ∈ K, A ∈ H) : Sat h K w := ⟨hs.imm, fun A hA => hs.own A (hk A hA)⟩

theorem Ok.live {h : Base} {H : List Asrt} {w : World} (hk : Ok h H w) : ∀ b ∈ idsOf H, b < w.heap.size := fun b hb => by
 obtain ⟨A, hA, hb'⟩ := List.mem_flatMap.1 hb
 exact A.live w (hk.sat.own A hA) b hb'

theorem perm3 {α : Type} (a b c : α) (r : List α) : (a :: b :: c :: r).Perm (b :: c :: a :: r) := (List.Perm.swap b a _).trans ((List.Perm.swap c a r).cons b)
theorem Ok.perm {h : Base} {H H' : List Asrt} {w : World} (hk : Ok h H w) (hp : H.Perm H') : Ok h H' w :=
 ⟨hk.os, hk.tape, hk.output, ⟨hk.sat.imm, fun A hA => hk.sat.own A (hp.mem_iff.2 hA)⟩, (hp.flatMap_right _).nodup_iff.1 hk.nd, fun b hb => hk.dj b ((hp.flatMap_right _).mem_iff.2 hb)⟩

theorem Ok.drop {h : Base} {A : Asrt} {H : List Asrt} {w : World} (hk : Ok h (A :: H) w) : Ok h H w := by
 refine ⟨hk.os, hk.tape, hk.output, ⟨hk.sat.imm, fun B hB => hk.sat.own B (List.mem_cons_of_mem _ hB)⟩, ?_, fun b hb => hk.dj b ?_⟩
 ·have := hk.nd; simp only [idsOf, List.flatMap_cons] at this; exact (List.nodup_append.1 this).2.1
 ·simp only [idsOf, List.flatMap_cons]; exact List.mem_append_right _ hb
theorem Ok.drops {h : Base} {A H : List Asrt} {w : World} (hk : Ok h (A ++ H) w) : Ok h H w := by
 induction A with
 | nil => exact hk
 | cons x r ih => exact ih (Ok.drop hk)

def all (Hs : List Asrt) : Asrt where
 ids := idsOf Hs
 holds w := ∀ A ∈ Hs, A.holds w
 live w h b hb := by
  obtain ⟨A, hA, hb'⟩ := List.mem_flatMap.1 hb
  exact A.live w (h A hA) b hb'
 loc w w' hb h A hA := A.loc w w' (fun b hbA => hb b (List.mem_flatMap.2 ⟨A, hA, hbA⟩)) (h A hA)
theorem Ok.all_iff {h : Base} {Hs F : List Asrt} {w : World} : Ok h (all Hs :: F) w ↔ Ok h (Hs ++ F) w := by
 have e : idsOf (all Hs :: F) = idsOf (Hs ++ F) := by simp [idsOf, all]
 constructor
 ·intro ok
  refine ⟨ok.os, ok.tape, ok.output, ⟨ok.sat.imm, fun A hA => ?_⟩, e ▸ ok.nd, fun b hb => ok.dj b (e ▸ hb)⟩
  rcases List.mem_append.1 hA with hA | hA
  ·exact ok.sat.own (all Hs) (List.mem_cons_self ..) A hA
  ·exact ok.sat.own A (List.mem_cons_of_mem _ hA)
 ·intro ok
  refine ⟨ok.os, ok.tape, ok.output, ⟨ok.sat.imm, fun A hA => ?_⟩, e ▸ ok.nd, fun b hb => ok.dj b (e ▸ hb)⟩
  rcases List.mem_cons.1 hA with e' | hA
  ·subst e'; exact fun B hB => ok.sat.own B (List.mem_append_left _ hB)
  ·exact ok.sat.own A (List.mem_append_right _ hA)

def blkF (b : Nat) (t : TypeId) (cs : List Value) (fz : Nat × Nat) : Asrt where
 ids := [b]
 holds w := w.heap[b]? = some (.cells cs.toArray t fz)
 live w h x hx := by
  simp at hx; subst hx
  rcases Nat.lt_or_ge x w.heap.size with h' | h'
  ·exact h'
  ·rw [Array.getElem?_eq_none h'] at h; cases h
 loc w w' hb h := by rw [hb b (by simp)]; exact h
abbrev blk (b : Nat) (t : TypeId) (cs : List Value) : Asrt := blkF b t cs (0, 0)

theorem heap_lt {w : World} {b : Nat} {o : Obj} (h : w.heap[b]? = some o) : b < w.heap.size := by
 rcases Nat.lt_or_ge b w.heap.size with h' | h'
 ·exact h'
 ·rw [Array.getElem?_eq_none h'] at h; cases h

theorem Ok.alloc {h : Base} {H : List Asrt} {w : World} (hk : Ok h H w) (cs : List Value) (t : TypeId) (fz : Nat × Nat) : Ok h (blkF w.heap.size t cs fz :: H) (w.alloc (.cells cs.toArray t fz)) := by
 have old : ∀ b, b < w.heap.size → (w.alloc (.cells cs.toArray t fz)).heap[b]? = w.heap[b]? := fun b hb => RowKit.Below.heap_alloc _ _ _ hb
 refine ⟨hk.os, hk.tape, hk.output, ⟨fun b o hb => ?_, fun A hA => ?_⟩, ?_, fun b hb => ?_⟩
 ·have := hk.sat.imm b o hb
  rw [old b (heap_lt this)]; exact this
 ·rcases List.mem_cons.1 hA with rfl | hA
  ·show (w.heap.push _)[w.heap.size]? = _
   simp
  ·exact A.loc w _ (fun b hb => old b (A.live w (hk.sat.own A hA) b hb)) (hk.sat.own A hA)
 ·simp only [idsOf, List.flatMap_cons]
  show ([w.heap.size] ++ _).Nodup
  rw [List.singleton_append, List.nodup_cons]
  refine ⟨fun hb => ?_, hk.nd⟩
  have := hk.live _ hb
  omega
 ·simp only [idsOf, List.flatMap_cons] at hb
  rcases List.mem_append.1 hb with hb | hb
  ·have : b = w.heap.size := by simpa [blkF] using hb
   subst this
   cases hm : h.mem w.heap.size with
   | none => rfl
   | some o => have := heap_lt (hk.sat.imm _ _ hm); omega
  ·exact hk.dj b hb

theorem Ok.write {h : Base} {b : Nat} {t : TypeId} {cs : List Value} {fz : Nat × Nat} {H : List Asrt} {w w' : World} (hk : Ok h (blkF b t cs fz :: H) w) (t' : TypeId) (cs' : List Value) (fz' : Nat × Nat)
  (e1 : w'.os = w.os) (e2 : w'.tape = w.tape) (e3 : w'.output = w.output)
  (hb : w'.heap[b]? = some (.cells cs'.toArray t' fz')) (ho : ∀ x, x ≠ b → x < w.heap.size → w'.heap[x]? = w.heap[x]?) : Ok h (blkF b t' cs' fz' :: H) w' := by
 have hnd := hk.nd
 simp only [idsOf, List.flatMap_cons] at hnd
 have hnb : b ∉ idsOf H := by
  have : ([b] ++ idsOf H).Nodup := hnd
  rw [List.singleton_append, List.nodup_cons] at this
  exact this.1
 refine ⟨e1.trans hk.os, e2.trans hk.tape, e3.trans hk.output, ⟨fun x o hx => ?_, fun A hA => ?_⟩, hk.nd, hk.dj⟩
 ·have hw := hk.sat.imm x o hx
  have : x ≠ b := fun e => by
   subst e
   have := hk.dj x (by simp [idsOf, blkF])
   rw [this] at hx; cases hx
  rw [ho x this (heap_lt hw)]; exact hw
 ·rcases List.mem_cons.1 hA with e | hA'
  ·rw [e]; exact hb
  ·have hh := hk.sat.own A (List.mem_cons_of_mem _ hA')
   refine A.loc w w' (fun x hx => ho x (fun e => ?_) (A.live w hh x hx)) hh
   subst e
   exact hnb (List.mem_flatMap.2 ⟨A, hA', hx⟩)

def Base.add (h : Base) (b : Nat) (o : Obj) : Base := { h with mem := fun x => if x = b then some o else h.mem x }
theorem Base.le_add (h : Base) (b : Nat) (o : Obj) (hb : h.mem b = none) : h.le (h.add b o) :=
 ⟨rfl, rfl, rfl, fun x u hx => by
  show (if x = b then some o else h.mem x) = some u
  by_cases e : x = b
  ·subst e; rw [hb] at hx; cases hx
  ·rw [if_neg e]; exact hx⟩
theorem Ok.freeze {h : Base} {b : Nat} {t : TypeId} {cs : List Value} {fz : Nat × Nat} {H : List Asrt} {w : World} (hk : Ok h (blkF b t cs fz :: H) w) :
  h.le (h.add b (.cells cs.toArray t fz)) ∧ (h.add b (.cells cs.toArray t fz)).mem b = some (.cells cs.toArray t fz) ∧ Ok (h.add b (.cells cs.toArray t fz)) H w := by
 have hnd := hk.nd
 simp only [idsOf, List.flatMap_cons] at hnd
 have hnb : b ∉ idsOf H := by
  have : ([b] ++ idsOf H).Nodup := hnd
  rw [List.singleton_append, List.nodup_cons] at this
  exact this.1
 refine ⟨Base.le_add _ _ _ (hk.dj b (by simp [idsOf, blkF])), by simp [Base.add], ⟨hk.os, hk.tape, hk.output, ⟨fun x o hx => ?_, fun A hA => hk.sat.own A (List.mem_cons_of_mem _ hA)⟩, hk.drop.nd, fun x hx => ?_⟩⟩
 ·have hx' : (if x = b then some (Obj.cells cs.toArray t fz) else h.mem x) = some o := hx
  by_cases e : x = b
  ·subst e; rw [if_pos rfl] at hx'; cases hx'
   exact hk.sat.own _ (List.mem_cons_self ..)
  ·rw [if_neg e] at hx'; exact hk.sat.imm x o hx'
 ·show (if x = b then some (Obj.cells cs.toArray t fz) else h.mem x) = none
  rw [if_neg (fun e : x = b => hnb (by rw [← e]; exact hx))]
  exact hk.drop.dj x hx

/-! ## The calculus -/
def NoPanic (Q : Exit → Act → World → Prop) : Prop := ∀ c a w (d : Option Nat) (v : Value), Q (.panic c) (a.put d v) w → Q (.panic c) a w
theorem NoPanic.then {Q : Exit → Act → World → Prop} {K : Act → World → Prop} (h : NoPanic Q) : NoPanic (Exit.then K Q) := h
theorem NoPanic.inBlock {Q : Exit → Act → World → Prop} {id : Nat} (h : NoPanic Q) : NoPanic (Exit.inBlock id Q) := h

structure WL (P : Program) (n : NN) (ops : Array Oper) (Q : Exit → Act → World → Prop) (l : List Oper) (E : Env) (h : Base) (H : List Asrt) : Prop where
 run : ∀ a w, Fr n E a → Ok h H w → wpList P ops Q l a w
structure WC (P : Program) (n : NN) (c : Code) (Q : Exit → Act → World → Prop) (E : Env) (h : Base) (H : List Asrt) : Prop where
 run : ∀ a w, Fr n E a → Ok h H w → c.wp P Q a w
structure AT (P : Program) (n : NN) (Q : Exit → Act → World → Prop) (e : Exit) (E : Env) (h : Base) (H : List Asrt) : Prop where
 run : ∀ a w, Fr n E a → Ok h H w → Q e a w

theorem wp_loop_ghost {P : Program} {c : Code} {Q : Exit → Act → World → Prop} {σ : Type} {I : σ → Act → World → Prop} (μ : σ → Nat)
  (round : ∀ s a w, I s a w → c.wp P (Exit.then (fun a' w' => ∃ s', I s' a' w' ∧ μ s' < μ s) Q) a w) : ∀ s a w, I s a w → (Code.loop c).wp P Q a w := by
 intro s a w hI b k cs
 have key : ∀ m s a w, μ s = m → I s a w → ∃ e a' w', Q e a' w' ∧ Arrives P (lone (b.at a (.code c :: .inLoop c :: k)) cs w) b k cs e a' w' := by
  intro m
  induction m using Nat.strongRecOn with
  | _ m ih =>
   intro s a w hm hI
   obtain ⟨e, a₁, w₁, hq, harr⟩ := round s a w hI b (.inLoop c :: k) cs
   cases e with
   | normal =>
    obtain ⟨s', hI', hlt⟩ := hq
    obtain ⟨e₂, a₂, w₂, hq₂, harr₂⟩ := ih (μ s') (hm ▸ hlt) s' a₁ w₁ rfl hI'
    exact ⟨e₂, a₂, w₂, hq₂, .of_steps (Steps.trans harr (.one step_inLoop)) harr₂⟩
   | exit id => exact ⟨_, a₁, w₁, hq, .pass (x := .inLoop c) rfl (fun _ _ => .inl (by simp)) harr⟩
   | goto l => exact ⟨_, a₁, w₁, hq, .pass (x := .inLoop c) rfl (fun _ _ => .inl (by simp)) harr⟩
   | ret => exact ⟨_, a₁, w₁, hq, .pass (x := .inLoop c) rfl (fun _ _ => .inl (by simp)) harr⟩
   | panic ch => exact ⟨_, a₁, w₁, hq, .pass (x := .inLoop c) rfl (fun _ _ => .inl (by simp)) harr⟩
   | outgrown => exact ⟨_, a₁, w₁, hq, .pass (x := .inLoop c) rfl (fun _ _ => .inl (by simp)) harr⟩
 obtain ⟨e, a', w', hq, harr⟩ := key _ s a w rfl hI
 exact ⟨e, a', w', hq, .of_steps (.one step_loop) harr⟩

section
variable {P : Program} {n : NN} {Q : Exit → Act → World → Prop} {E : Env} {h : Base} {H : List Asrt}

theorem c_seq {x y : Code} (hx : WC P n x (Exit.then (y.wp P Q) Q) E h H) : WC P n (.seq x y) Q E h H := ⟨fun a w fa ok => wp_seq (hx.run a w fa ok)⟩
theorem c_block {id : Nat} {x : Code} (hx : WC P n x (Exit.inBlock id Q) E h H) : WC P n (.block id x) Q E h H := ⟨fun a w fa ok => wp_block (hx.run a w fa ok)⟩
theorem c_skip (hx : AT P n Q .normal E h H) : WC P n .skip Q E h H := ⟨fun a w fa ok => wp_skip (hx.run a w fa ok)⟩
theorem c_ret (hx : AT P n Q .ret E h H) : WC P n .ret Q E h H := ⟨fun a w fa ok => wp_ret (hx.run a w fa ok)⟩
theorem c_exit {id : Nat} (hx : AT P n Q (.exit id) E h H) : WC P n (.exit id) Q E h H := ⟨fun a w fa ok => wp_exit (hx.run a w fa ok)⟩
theorem c_cond {c : Operand} {x y : Code} {b : Bool} (hl : lkO E c = some (.bool b)) (ht : b = true → WC P n x Q E h H) (hf : b = false → WC P n y Q E h H) : WC P n (.cond c x y) Q E h H :=
 ⟨fun a w fa ok => by
  have he := fa.eval hl
  cases b with
  | true => exact wp_cond_true he ((ht rfl).run a w fa ok)
  | false => exact wp_cond_false he ((hf rfl).run a w fa ok)⟩
theorem c_condT {c : Operand} {x y : Code} (hl : lkO E c = some (.bool true)) (ht : WC P n x Q E h H) : WC P n (.cond c x y) Q E h H := c_cond hl (fun _ => ht) (fun e => by cases e)
theorem c_condF {c : Operand} {x y : Code} (hl : lkO E c = some (.bool false)) (hf : WC P n y Q E h H) : WC P n (.cond c x y) Q E h H := c_cond hl (fun e => by cases e) (fun _ => hf)
theorem c_condD {c : Operand} {x y : Code} {p : Prop} [Decidable p] (hl : lkO E c = some (.bool (decide p))) (ht : p → WC P n x Q E h H) (hf : ¬ p → WC P n y Q E h H) : WC P n (.cond c x y) Q E h H :=
 c_cond hl (fun e => ht (of_decide_eq_true e)) (fun e => hf (of_decide_eq_false e))
theorem c_region {id : Nat} {l : List Oper} (hx : WL P n l.toArray Q l E h H) : WC P n (.region id l.toArray false) Q E h H := ⟨fun a w fa ok => wp_region_lit (hx.run a w fa ok)⟩
theorem l_nil {ops : Array Oper} (hx : AT P n Q .normal E h H) : WL P n ops Q [] E h H := ⟨fun a w fa ok => wpList_nil (hx.run a w fa ok)⟩

theorem a_then {y : Code} {Q : Exit → Act → World → Prop} (hx : WC P n y Q E h H) : AT P n (Exit.then (y.wp P Q) Q) .normal E h H := ⟨hx.run⟩
theorem a_then_ret {K : Act → World → Prop} (hx : AT P n Q .ret E h H) : AT P n (Exit.then K Q) .ret E h H := ⟨hx.run⟩
theorem a_then_exit {K : Act → World → Prop} {id : Nat} (hx : AT P n Q (.exit id) E h H) : AT P n (Exit.then K Q) (.exit id) E h H := ⟨hx.run⟩
theorem a_block {id : Nat} (hx : AT P n Q .normal E h H) : AT P n (Exit.inBlock id Q) .normal E h H := ⟨hx.run⟩
theorem a_block_ret {id : Nat} (hx : AT P n Q .ret E h H) : AT P n (Exit.inBlock id Q) .ret E h H := ⟨hx.run⟩
theorem a_block_exit {id : Nat} (hx : AT P n Q .normal E h H) : AT P n (Exit.inBlock id Q) (.exit id) E h H := ⟨fun a w fa ok => by simpa [Exit.inBlock] using hx.run a w fa ok⟩
theorem a_block_exit_ne {id i : Nat} (hne : Nat.beq i id = false) (hx : AT P n Q (.exit i) E h H) : AT P n (Exit.inBlock id Q) (.exit i) E h H := ⟨fun a w fa ok => by
 have : i ≠ id := fun e => by subst e; simp [Nat.beq_refl] at hne
 simpa [Exit.inBlock, this] using hx.run a w fa ok⟩

def Ret (P : Program) (f : FuncId) (args : List Value) (w : World) (R : Value → World → Prop) : Prop := Calls P f args.toArray w fun e w' => ∃ v, e = .returned v ∧ R v w'
def post (P : Program) (fn : Func) (R : Value → World → Prop) : Exit → Act → World → Prop := bodyPost P fn fun e w' => ∃ v, e = .returned v ∧ R v w'
theorem post_noPanic (fn : Func) (R : Value → World → Prop) : NoPanic (post P fn R) := fun c a w d v hq => by
 obtain ⟨_, v, he, _⟩ := hq
 cases he

def Tr (P : Program) (f : FuncId) (args : List Value) (h : Base) (Pre : List Asrt) (Post : Value → Base → List Asrt → Prop) : Prop :=
 ∀ F w, Ok h (Pre ++ F) w → Ret P f args w fun v w' => ∃ h' H', h.le h' ∧ Post v h' H' ∧ Ok h' (H' ++ F) w'

theorem enter {f : FuncId} {args : List Value} {fn : Func} {c : Code} {Pre : List Asrt} {Post : Value → Base → List Asrt → Prop} (hf : P.funcs[f]? = some fn) (hb : fn.body = some c) (hn : args.length ≤ fn.ntmps)
  (hx : ∀ F, WC P fn.ntmps c (post P fn fun v w' => ∃ h' H', h.le h' ∧ Post v h' H' ∧ Ok h' (H' ++ F) w') (args0 0 args) h (Pre ++ F)) : Tr P f args h Pre Post :=
 fun F w ok => calls_of_wp hf hb ((hx F).run _ w (Fr.enter _ _ hn) ok)
theorem en {f : FuncId} {args : List Value} {fn : Func} {c : Code} {Pre : List Asrt} {Post : Value → Base → List Asrt → Prop} (hf : P.funcs[f]? = some fn)
  (hx : ∀ F, WC P fn.ntmps c (post P fn fun v w' => ∃ h' H', h.le h' ∧ Post v h' H' ∧ Ok h' (H' ++ F) w') (args0 0 args) h (Pre ++ F)) (hb : fn.body = some c := by rfl) (hn : args.length ≤ fn.ntmps := by exact Nat.le_of_ble_eq_true rfl) : Tr P f args h Pre Post := enter hf hb hn hx

def resV (E : Env) : List ResultVar → Option (List Value)
 | [] => some []
 | .tmp t :: r => match lk E t, resV E r with
  | some v, some vs => some (v :: vs)
  | _, _ => none
 | .cell _ _ :: _ => none
def packV : List Value → Value
 | [v] => v
 | vs => .tuple vs.toArray

theorem mapM_results {a : Act} {w : World} (fa : Fr n E a) (f : ResultVar → Sem Value) (hf : ∀ t, f (.tmp t) = pure (a.tmps.getD t undef)) : ∀ (rs : List ResultVar) (vs : List Value), resV E rs = some vs →
  (rs.mapM f).run P w = .ok vs w
 | [], vs, hv => by simp [resV] at hv; subst hv; simp
 | .tmp t :: r, vs, hv => by
  simp only [resV] at hv
  cases h1 : lk E t with
  | none => simp [h1] at hv
  | some v =>
   cases h2 : resV E r with
   | none => simp [h1, h2] at hv
   | some us =>
    simp [h1, h2] at hv
    subst hv
    have := mapM_results (w := w) fa f hf r us h2
    have hg : a.tmps.getD t undef = v := by simp [Array.getD_eq_getD_getElem?, fa.get t v h1]
    simp only [List.mapM_cons, Sem.run_bind, hf, hg, Sem.run_pure, Result.andThen_ok, this]
 | .cell _ _ :: _, vs, hv => by simp [resV] at hv

theorem run_results {fn : Func} {a : Act} {w : World} {vs : List Value} (fa : Fr n E a) (hr : resV E fn.results.toList = some vs) : (results fn a.tmps).run P w = .ok (packV vs) w := by
 unfold results
 rw [Array.mapM_eq_mapM_toList]
 simp only [Sem.run_bind, Sem.run_map]
 rw [mapM_results (P := P) (w := w) fa _ (by intro t; rfl) _ vs hr]
 simp only [Result.andThen_ok, Sem.run_pure]
 match vs with
 | [] => rfl
 | [v] => rfl
 | v :: u :: r => rfl

theorem ret_post {fn : Func} {e : Exit} {R : Value → World → Prop} {vs : List Value} (he : e = .ret ∨ e = .normal) (hr : resV E fn.results.toList = some vs) (hR : ∀ w, Ok h H w → R (packV vs) w) (hn : n.ds = [] := by rfl) : AT P n (post P fn R) e E h H :=
 ⟨fun a w fa ok => by
  rcases he with rfl | rfl <;> exact ⟨fa.defers.trans hn, packV vs, run_results fa hr, _, rfl, hR w ok⟩⟩

theorem done {fn : Func} {e : Exit} {F H' : List Asrt} {h0 : Base} {Post : Value → Base → List Asrt → Prop} {vs : List Value} (he : e = .ret ∨ e = .normal) (hr : resV E fn.results.toList = some vs)
  (hle : h0.le h) (hH : H = H' ++ F) (hP : Post (packV vs) h H') (hn : n.ds = [] := by rfl) : AT P n (post P fn fun v w' => ∃ h' H', h0.le h' ∧ Post v h' H' ∧ Ok h' (H' ++ F) w') e E h H :=
 ret_post he hr (fun w ok => ⟨h, H', hle, hP, hH ▸ ok⟩) hn
theorem dn {fn : Func} {e : Exit} {F H' : List Asrt} {h0 : Base} {Post : Value → Base → List Asrt → Prop} {vs : List Value} (hr : resV E fn.results.toList = some vs)
  (hle : h0.le h) (hH : H = H' ++ F) (hP : Post (packV vs) h H') (he : e = .ret ∨ e = .normal := by first | exact Or.inl rfl | exact Or.inr rfl) (hn : n.ds = [] := by rfl) : AT P n (post P fn fun v w' => ∃ h' H', h0.le h' ∧ Post v h' H' ∧ Ok h' (H' ++ F) w') e E h H := done he hr hle hH hP hn
theorem dl {fn : Func} {e : Exit} {F H' : List Asrt} {h0 : Base} {Post : Value → Base → List Asrt → Prop} {vs : List Value} (hr : resV E fn.results.toList = some vs)
  (hH : H = H' ++ F) (hP : Post (packV vs) h H') (he : e = .ret ∨ e = .normal := by first | exact Or.inl rfl | exact Or.inr rfl) (hle : h0.le h := by first | exact Base.le.refl _ | assumption) (hn : n.ds = [] := by rfl) : AT P n (post P fn fun v w' => ∃ h' H', h0.le h' ∧ Post v h' H' ∧ Ok h' (H' ++ F) w') e E h H := done he hr hle hH hP hn

/-! ### Weakening -/
theorem WC.perm {c : Code} {H' : List Asrt} (hp : H.Perm H') (hx : WC P n c Q E h H') : WC P n c Q E h H := ⟨fun a w fa ok => hx.run a w fa (ok.perm hp)⟩
theorem WL.perm {ops : Array Oper} {l : List Oper} {H' : List Asrt} (hp : H.Perm H') (hx : WL P n ops Q l E h H') : WL P n ops Q l E h H := ⟨fun a w fa ok => hx.run a w fa (ok.perm hp)⟩
theorem WL.sub {ops : Array Oper} {l : List Oper} {E' : Env} (hs : Sub E E') (hx : WL P n ops Q l E' h H) : WL P n ops Q l E h H := ⟨fun a w fa ok => hx.run a w (fa.sub hs) ok⟩
theorem AT.perm {e : Exit} {H' : List Asrt} (hp : H.Perm H') (hx : AT P n Q e E h H') : AT P n Q e E h H := ⟨fun a w fa ok => hx.run a w fa (ok.perm hp)⟩
theorem AT.drops {e : Exit} {A : List Asrt} (hx : AT P n Q e E h H) : AT P n Q e E h (A ++ H) := ⟨fun a w fa ok => hx.run a w fa ok.drops⟩
theorem AT.drop {e : Exit} {A : Asrt} (hx : AT P n Q e E h H) : AT P n Q e E h (A :: H) := ⟨fun a w fa ok => hx.run a w fa ok.drop⟩
theorem WC.open {c : Code} {Hs F : List Asrt} (hx : WC P n c Q E h (Hs ++ F)) : WC P n c Q E h (all Hs :: F) := ⟨fun a w fa ok => hx.run a w fa (Ok.all_iff.1 ok)⟩
theorem WL.open {ops : Array Oper} {l : List Oper} {Hs F : List Asrt} (hx : WL P n ops Q l E h (Hs ++ F)) : WL P n ops Q l E h (all Hs :: F) := ⟨fun a w fa ok => hx.run a w fa (Ok.all_iff.1 ok)⟩
theorem WL.close {ops : Array Oper} {l : List Oper} (Hs : List Asrt) {F : List Asrt} (hx : WL P n ops Q l E h (all Hs :: F)) : WL P n ops Q l E h (Hs ++ F) := ⟨fun a w fa ok => hx.run a w fa (Ok.all_iff.2 ok)⟩
theorem AT.close {e : Exit} (Hs : List Asrt) {F : List Asrt} (hx : AT P n Q e E h (all Hs :: F)) : AT P n Q e E h (Hs ++ F) := ⟨fun a w fa ok => hx.run a w fa (Ok.all_iff.2 ok)⟩
/-! ### Cuts and loops -/
theorem c_loop {c : Code} {σ : Type} (EI : σ → Env) (BI : σ → Base) (HI : σ → List Asrt) (I : σ → Prop) (μ : σ → Nat) (s0 : σ) (hI : I s0) (hE : Sub E (EI s0)) (hB : BI s0 = h) (hH : HI s0 = H)
  (round : ∀ s, I s → ∀ K : Act → World → Prop, (∀ s' a w, I s' → Fr n (EI s') a → Ok (BI s') (HI s') w → μ s' < μ s → K a w) → WC P n c (Exit.then K Q) (EI s) (BI s) (HI s)) : WC P n (.loop c) Q E h H :=
 ⟨fun a w fa ok => wp_loop_ghost (I := fun s a w => I s ∧ Fr n (EI s) a ∧ Ok (BI s) (HI s) w) μ
  (fun s a w hI => (round s hI.1 _ fun s' a' w' i' f' o' hlt => ⟨s', ⟨i', f', o'⟩, hlt⟩).run a w hI.2.1 hI.2.2) s0 a w ⟨hI, fa.sub hE, by rw [hB, hH]; exact ok⟩⟩
theorem a_round {σ : Type} {EI : σ → Env} {BI : σ → Base} {HI : σ → List Asrt} {I : σ → Prop} {μ : σ → Nat} {s : σ} {K : Act → World → Prop} (hK : ∀ s' a w, I s' → Fr n (EI s') a → Ok (BI s') (HI s') w → μ s' < μ s → K a w) (s' : σ) (hI : I s')
  (hE : Sub E (EI s')) (hB : BI s' = h) (hH : HI s' = H) (hlt : μ s' < μ s) : AT P n (Exit.then K Q) .normal E h H := ⟨fun a w fa ok => hK s' a w hI (fa.sub hE) (by rw [hB, hH]; exact ok) hlt⟩
end
end Go.K

/-! K2: the steps of the calculus: plain operations, guards, calls, loads, stores, new variables. Generic over the program. Conditions: none. -/
namespace Go.K

structure Pu (P : Program) (n : NN) (E : Env) (h : Base) (K : List Asrt) (o : Oper) (v : Value) : Prop where
 run : ∀ a w, Fr n E a → Sat h K w → (execOp a.eval o).run P w = .ok (.value v) w

section
variable {P : Program} {n : NN} {Q : Exit → Act → World → Prop} {E : Env} {h : Base} {H : List Asrt} {ops : Array Oper} {rest : List Oper}
variable {op : Op} {t : TypeId} {ps : String} {af : Array Edge} {d : Nat} {v : Value} {g : Option (Nat × Bool)}

theorem s_pure (hp : Pu P n E h H ⟨some d, op, t, ps, af, none⟩ v) (hd : Nat.blt d n = true) (hk : WL P n ops Q rest ((d, v) :: E) h H) : WL P n ops Q (⟨some d, op, t, ps, af, none⟩ :: rest) E h H :=
 ⟨fun a w fa ok => wpList_plain rfl fun K hK => by
  unfold Oper.wp
  rw [hp.run a w fa ok.sat, Oper.upon_value]
  exact hK _ _ (hk.run _ _ (fa.put v hd) ok)⟩

/-! ### Guards -/
def dstOf (ops : Array Oper) (j : Nat) : Option Nat := (ops[j]?).bind (·.dst)
theorem yielded_of {a : Act} {j t : Nat} {b : Bool} (fa : Fr n E a) (hj : dstOf ops j = some t) (hl : lk E t = some (.bool b)) : yielded ops a.tmps j = some b := by
 unfold dstOf at hj
 simp [yielded, hj, fa.get t _ hl]
theorem s_take {dst : Option Nat} {j s : Nat} {want : Bool} (hj : dstOf ops j = some s) (hl : lk E s = some (.bool want)) (hk : WL P n ops Q (⟨dst, op, t, ps, af, none⟩ :: rest) E h H) :
  WL P n ops Q (⟨dst, op, t, ps, af, some (j, want)⟩ :: rest) E h H :=
 ⟨fun a w fa ok => by
  have := hk.run a w fa ok
  unfold wpList at this ⊢
  rw [if_pos (by simp [Region.wanted])] at this
  rw [if_pos (by simp [Region.wanted, yielded_of fa hj hl])]
  exact this⟩
theorem s_skip {j s : Nat} {want : Bool} (hj : dstOf ops j = some s) (hl : lk E s = some (.bool (!want))) (hd : Nat.blt d n = true) (hk : WL P n ops Q rest ((d, undef) :: E) h H) :
  WL P n ops Q (⟨some d, op, t, ps, af, some (j, want)⟩ :: rest) E h H :=
 ⟨fun a w fa ok => by
  unfold wpList
  rw [if_neg (by simp [Region.wanted, yielded_of fa hj hl])]
  exact hk.run _ _ (fa.put undef hd) ok⟩
theorem s_split {l : List Oper} {s : Nat} {b : Bool} (hl : lk E s = some (.bool b)) (ht : b = true → WL P n ops Q l ((s, .bool true) :: E) h H) (hf : b = false → WL P n ops Q l ((s, .bool false) :: E) h H) : WL P n ops Q l E h H := by
 cases b with
 | true => exact WL.sub (Sub.cons hl (Sub.refl E)) (ht rfl)
 | false => exact WL.sub (Sub.cons hl (Sub.refl E)) (hf rfl)
theorem s_splitD {l : List Oper} {s : Nat} {p : Prop} [Decidable p] (hl : lk E s = some (.bool (decide p))) (ht : p → WL P n ops Q l ((s, .bool true) :: E) h H) (hf : ¬ p → WL P n ops Q l ((s, .bool false) :: E) h H) : WL P n ops Q l E h H :=
 s_split hl (fun e => ht (of_decide_eq_true e)) (fun e => hf (of_decide_eq_false e))
theorem s_guardD {dst : Option Nat} {j s : Nat} {want : Bool} {p : Prop} [Decidable p] (hj : dstOf ops j = some s) (hl : lk E s = some (.bool (decide p)))
  (ht : p → WL P n ops Q (⟨dst, op, t, ps, af, some (j, want)⟩ :: rest) ((s, .bool true) :: E) h H) (hf : ¬ p → WL P n ops Q (⟨dst, op, t, ps, af, some (j, want)⟩ :: rest) ((s, .bool false) :: E) h H) :
  WL P n ops Q (⟨dst, op, t, ps, af, some (j, want)⟩ :: rest) E h H := s_splitD hl ht hf

/-! ### Plain operations -/
variable {K : List Asrt} {dst : Option Nat} {x y z : Operand} {k k' : IntKind} {a b c : Int} {t' : TypeId}
theorem p_move (hx : lkO E x = some v) : Pu P n E h K ⟨dst, .move x, t, ps, af, g⟩ v := ⟨fun a w fa _ => by simp [execOp, fa.eval hx]⟩
theorem p_assign (hx : lkO E x = some v) : Pu P n E h K ⟨dst, .assign x, t, ps, af, g⟩ v := ⟨fun a w fa _ => by simp [execOp, fa.eval hx]⟩
theorem p_pickT (hz : lkO E z = some (.bool true)) (hx : lkO E x = some v) : Pu P n E h K ⟨dst, .pick z x y, t, ps, af, g⟩ v := ⟨fun a w fa _ => by simp [execOp, asBool, fa.eval hz, fa.eval hx]⟩
theorem p_pickF (hz : lkO E z = some (.bool false)) (hy : lkO E y = some v) : Pu P n E h K ⟨dst, .pick z x y, t, ps, af, g⟩ v := ⟨fun a w fa _ => by simp [execOp, asBool, fa.eval hz, fa.eval hy]⟩
theorem p_nilP {ad : Addr} (hx : lkO E x = some (.pointer (some ad))) : Pu P n E h K ⟨dst, .nilCheck x, t, ps, af, g⟩ (.pointer (some ad)) := ⟨fun a w fa _ => by simp [execOp, fa.eval hx]⟩

theorem eqGuard_int (op : BinOp) (t : TypeId) (x y : Operand) (k k' : IntKind) (a b : Int) (w : World) : (eqGuard op t x y (.int k a) (.int k' b)).run P w = .ok () w := by cases op <;> simp [eqGuard]
theorem eqGuard_bool (op : BinOp) (t : TypeId) (x y : Operand) (a b : Bool) (w : World) : (eqGuard op t x y (.bool a) (.bool b)).run P w = .ok () w := by cases op <;> simp [eqGuard]
theorem eqGuard_string (op : BinOp) (t : TypeId) (x y : Operand) (a b : ByteArray) (w : World) : (eqGuard op t x y (.string a) (.string b)).run P w = .ok () w := by cases op <;> simp [eqGuard]
theorem eqGuard_pointer (op : BinOp) (t : TypeId) (x y : Operand) (a b : Option Addr) (w : World) : (eqGuard op t x y (.pointer a) (.pointer b)).run P w = .ok () w := by cases op <;> simp [eqGuard]
theorem eqGuard_slice (op : BinOp) (t : TypeId) (x y : Operand) (a b : Option Addr) (l1 c1 l2 c2 : Nat) (w : World) : (eqGuard op t x y (.slice a l1 c1) (.slice b l2 c2)).run P w = .ok () w := by cases op <;> simp [eqGuard]


variable {ty : TypeId}
theorem p_add (hx : lkO E x = some (.int k a)) (hy : lkO E y = some (.int k b)) (hc : k.wrap (a + b) = c) : Pu P n E h K ⟨dst, .binOp .add t x y t', ty, ps, af, g⟩ (.int k c) :=
 ⟨fun s w fa _ => by simp [execOp, fa.eval hx, fa.eval hy, eqGuard_int, binOp, Op.intArith, hc]⟩
theorem p_sub (hx : lkO E x = some (.int k a)) (hy : lkO E y = some (.int k b)) (hc : k.wrap (a - b) = c) : Pu P n E h K ⟨dst, .binOp .sub t x y t', ty, ps, af, g⟩ (.int k c) :=
 ⟨fun s w fa _ => by simp [execOp, fa.eval hx, fa.eval hy, eqGuard_int, binOp, Op.intArith, hc]⟩
theorem p_mul (hx : lkO E x = some (.int k a)) (hy : lkO E y = some (.int k b)) (hc : k.wrap (a * b) = c) : Pu P n E h K ⟨dst, .binOp .mul t x y t', ty, ps, af, g⟩ (.int k c) :=
 ⟨fun s w fa _ => by simp [execOp, fa.eval hx, fa.eval hy, eqGuard_int, binOp, Op.intArith, hc]⟩
theorem p_quo (hx : lkO E x = some (.int k a)) (hy : lkO E y = some (.int k b)) (hb : b ≠ 0) (hc : k.wrap (a.tdiv b) = c) : Pu P n E h K ⟨dst, .binOp .quo t x y t', ty, ps, af, g⟩ (.int k c) :=
 ⟨fun s w fa _ => by simp [execOp, fa.eval hx, fa.eval hy, eqGuard_int, binOp, Op.intDiv, hb, hc]⟩
theorem p_rem (hx : lkO E x = some (.int k a)) (hy : lkO E y = some (.int k b)) (hb : b ≠ 0) (hc : a.tmod b = c) : Pu P n E h K ⟨dst, .binOp .rem t x y t', ty, ps, af, g⟩ (.int k c) :=
 ⟨fun s w fa _ => by simp [execOp, fa.eval hx, fa.eval hy, eqGuard_int, binOp, Op.intDiv, hb, hc]⟩
theorem p_and (hx : lkO E x = some (.int k a)) (hy : lkO E y = some (.int k b)) (hc : bits .and k a b = c) : Pu P n E h K ⟨dst, .binOp .and t x y t', ty, ps, af, g⟩ (.int k c) :=
 ⟨fun s w fa _ => by simp [execOp, fa.eval hx, fa.eval hy, eqGuard_int, binOp, Op.intBits, ← hc, bits]⟩
theorem p_or (hx : lkO E x = some (.int k a)) (hy : lkO E y = some (.int k b)) (hc : bits .or k a b = c) : Pu P n E h K ⟨dst, .binOp .or t x y t', ty, ps, af, g⟩ (.int k c) :=
 ⟨fun s w fa _ => by simp [execOp, fa.eval hx, fa.eval hy, eqGuard_int, binOp, Op.intBits, ← hc, bits]⟩
theorem p_xor (hx : lkO E x = some (.int k a)) (hy : lkO E y = some (.int k b)) (hc : bits .xor k a b = c) : Pu P n E h K ⟨dst, .binOp .xor t x y t', ty, ps, af, g⟩ (.int k c) :=
 ⟨fun s w fa _ => by simp [execOp, fa.eval hx, fa.eval hy, eqGuard_int, binOp, Op.intBits, ← hc, bits]⟩
theorem p_shl (hx : lkO E x = some (.int k a)) (hy : lkO E y = some (.int k' b)) (hb : 0 ≤ b) (hc : k.wrap (a * 2 ^ (min b.toNat k.bits)) = c) : Pu P n E h K ⟨dst, .binOp .shl t x y t', ty, ps, af, g⟩ (.int k c) :=
 ⟨fun s w fa _ => by simp [execOp, fa.eval hx, fa.eval hy, eqGuard_int, binOp, Op.shift, Int.not_lt.2 hb, ← hc]⟩
theorem p_shr (hx : lkO E x = some (.int k a)) (hy : lkO E y = some (.int k' b)) (hb : 0 ≤ b) (hc : a.fdiv (2 ^ (min b.toNat k.bits)) = c) : Pu P n E h K ⟨dst, .binOp .shr t x y t', ty, ps, af, g⟩ (.int k c) :=
 ⟨fun s w fa _ => by simp [execOp, fa.eval hx, fa.eval hy, eqGuard_int, binOp, Op.shift, Int.not_lt.2 hb, ← hc]⟩
theorem beqd {α : Type} [BEq α] [LawfulBEq α] [DecidableEq α] (a b : α) : (a == b) = decide (a = b) := by
 rw [Bool.eq_iff_iff]; simp
theorem p_eql (hx : lkO E x = some (.int k a)) (hy : lkO E y = some (.int k b)) : Pu P n E h K ⟨dst, .binOp .eql t x y t', ty, ps, af, g⟩ (.bool (decide (a = b))) :=
 ⟨fun s w fa _ => by simp [execOp, fa.eval hx, fa.eval hy, eqGuard_int, binOp, Op.intCmp, beqd]⟩
theorem p_neq (hx : lkO E x = some (.int k a)) (hy : lkO E y = some (.int k b)) : Pu P n E h K ⟨dst, .binOp .neq t x y t', ty, ps, af, g⟩ (.bool (decide (a ≠ b))) :=
 ⟨fun s w fa _ => by simp [execOp, fa.eval hx, fa.eval hy, eqGuard_int, binOp, Op.intCmp, bne, beqd]⟩
theorem p_lss (hx : lkO E x = some (.int k a)) (hy : lkO E y = some (.int k b)) : Pu P n E h K ⟨dst, .binOp .lss t x y t', ty, ps, af, g⟩ (.bool (decide (a < b))) :=
 ⟨fun s w fa _ => by simp [execOp, fa.eval hx, fa.eval hy, eqGuard_int, binOp, Op.intCmp]⟩
theorem p_leq (hx : lkO E x = some (.int k a)) (hy : lkO E y = some (.int k b)) : Pu P n E h K ⟨dst, .binOp .leq t x y t', ty, ps, af, g⟩ (.bool (decide (a ≤ b))) :=
 ⟨fun s w fa _ => by simp [execOp, fa.eval hx, fa.eval hy, eqGuard_int, binOp, Op.intCmp]⟩
theorem p_gtr (hx : lkO E x = some (.int k a)) (hy : lkO E y = some (.int k b)) : Pu P n E h K ⟨dst, .binOp .gtr t x y t', ty, ps, af, g⟩ (.bool (decide (b < a))) :=
 ⟨fun s w fa _ => by simp [execOp, fa.eval hx, fa.eval hy, eqGuard_int, binOp, Op.intCmp]⟩
theorem p_geq (hx : lkO E x = some (.int k a)) (hy : lkO E y = some (.int k b)) : Pu P n E h K ⟨dst, .binOp .geq t x y t', ty, ps, af, g⟩ (.bool (decide (b ≤ a))) :=
 ⟨fun s w fa _ => by simp [execOp, fa.eval hx, fa.eval hy, eqGuard_int, binOp, Op.intCmp]⟩

/-! strings -/
variable {s1 s2 : ByteArray}
theorem toList_inj {s u : ByteArray} : s.toList = u.toList ↔ s = u := by
 rw [ByteArray.toList_eq, ByteArray.toList_eq]
 constructor
 ·intro e
  cases s; cases u
  simp at e
  rw [e]
 ·intro e; rw [e]
theorem sbeq (s u : ByteArray) : (s.toList == u.toList) = decide (s = u) := by rw [beqd, decide_eq_decide]; exact toList_inj
theorem p_seql (hx : lkO E x = some (.string s1)) (hy : lkO E y = some (.string s2)) : Pu P n E h K ⟨dst, .binOp .eql t x y t', ty, ps, af, g⟩ (.bool (decide (s1 = s2))) :=
 ⟨fun s w fa _ => by simp [execOp, fa.eval hx, fa.eval hy, eqGuard_string, binOp, Op.stringOp, sbeq]⟩
theorem p_sneq (hx : lkO E x = some (.string s1)) (hy : lkO E y = some (.string s2)) : Pu P n E h K ⟨dst, .binOp .neq t x y t', ty, ps, af, g⟩ (.bool (decide (s1 ≠ s2))) :=
 ⟨fun s w fa _ => by simp [execOp, fa.eval hx, fa.eval hy, eqGuard_string, binOp, Op.stringOp, sbeq]⟩
/-! nil -/
variable {dd : TypeDesc} {ad : Addr} {la ca : Nat}
def isPtr : TypeDesc → Bool | .pointer _ => true | _ => false
def isSlc : TypeDesc → Bool | .slice _ => true | _ => false
theorem run_eqIn_ptr (w : World) (m : Nat) {e : TypeId} (hu : P.underlying t = some (.pointer e)) (o : Option Addr) : (Op.equalIn (m + 1) t (.pointer o) (.pointer none)).run P w = .ok o.isNone w := by
 cases o <;> simp [Op.equalIn, run_underlying hu]
theorem run_eq_ptr (w : World) (hu : P.underlying t = some dd) (hq : isPtr dd = true) (o : Option Addr) : (Op.equal t (.pointer o) (.pointer none)).run P w = .ok o.isNone w := by
 cases dd <;> simp [isPtr] at hq
 exact run_eqIn_ptr w 9999 hu o
theorem run_eqIn_slc (w : World) (m : Nat) {e : TypeId} (hu : P.underlying t = some (.slice e)) (o : Option Addr) : (Op.equalIn (m + 1) t (.slice o la ca) (.slice none 0 0)).run P w = .ok o.isNone w := by
 cases o <;> simp [Op.equalIn, run_underlying hu]
theorem run_eq_slc (w : World) (hu : P.underlying t = some dd) (hq : isSlc dd = true) (o : Option Addr) : (Op.equal t (.slice o la ca) (.slice none 0 0)).run P w = .ok o.isNone w := by
 cases dd <;> simp [isSlc] at hq
 exact run_eqIn_slc w 9999 hu o
theorem p_eqP (hu : P.underlying t = some dd) (hq : isPtr dd = true) {o : Option Addr} {q : Bool} (hx : lkO E x = some (.pointer o)) (hy : lkO E y = some (.pointer none)) (ho : o.isNone = q) : Pu P n E h K ⟨dst, .binOp .eql t x y t', ty, ps, af, g⟩ (.bool q) :=
 ⟨fun s w fa _ => by simp [execOp, fa.eval hx, fa.eval hy, eqGuard_pointer, binOp, run_eq_ptr w hu hq, ← ho]⟩
theorem p_neP (hu : P.underlying t = some dd) (hq : isPtr dd = true) {o : Option Addr} {q : Bool} (hx : lkO E x = some (.pointer o)) (hy : lkO E y = some (.pointer none)) (ho : o.isSome = q) : Pu P n E h K ⟨dst, .binOp .neq t x y t', ty, ps, af, g⟩ (.bool q) :=
 ⟨fun s w fa _ => by simp [execOp, fa.eval hx, fa.eval hy, eqGuard_pointer, binOp, run_eq_ptr w hu hq, ← ho]⟩
theorem p_eqS (hu : P.underlying t = some dd) (hq : isSlc dd = true) {o : Option Addr} {q : Bool} (hx : lkO E x = some (.slice o la ca)) (hy : lkO E y = some (.slice none 0 0)) (ho : o.isNone = q) : Pu P n E h K ⟨dst, .binOp .eql t x y t', ty, ps, af, g⟩ (.bool q) :=
 ⟨fun s w fa _ => by simp [execOp, fa.eval hx, fa.eval hy, eqGuard_slice, binOp, run_eq_slc w hu hq, ← ho]⟩
/-! Bools, unary, conversions -/
variable {b1 b2 : Bool} {p : Prop} [Decidable p]
theorem p_beql (hu : P.underlying t = some .bool) (hx : lkO E x = some (.bool b1)) (hy : lkO E y = some (.bool b2)) : Pu P n E h K ⟨dst, .binOp .eql t x y t', ty, ps, af, g⟩ (.bool (b1 == b2)) :=
 ⟨fun s w fa _ => by simp [execOp, fa.eval hx, fa.eval hy, eqGuard_bool, run_eql_bool, hu]⟩
theorem p_bneq (hu : P.underlying t = some .bool) (hx : lkO E x = some (.bool b1)) (hy : lkO E y = some (.bool b2)) : Pu P n E h K ⟨dst, .binOp .neq t x y t', ty, ps, af, g⟩ (.bool (!(b1 == b2))) :=
 ⟨fun s w fa _ => by simp [execOp, fa.eval hx, fa.eval hy, eqGuard_bool, run_neq_bool, hu]⟩
theorem p_notT (hx : lkO E x = some (.bool true)) : Pu P n E h K ⟨dst, .unOp .not t x, ty, ps, af, g⟩ (.bool false) := ⟨fun s w fa _ => by simp [execOp, fa.eval hx, Op.unary]⟩
theorem p_notF (hx : lkO E x = some (.bool false)) : Pu P n E h K ⟨dst, .unOp .not t x, ty, ps, af, g⟩ (.bool true) := ⟨fun s w fa _ => by simp [execOp, fa.eval hx, Op.unary]⟩
theorem p_not (hx : lkO E x = some (.bool b1)) : Pu P n E h K ⟨dst, .unOp .not t x, ty, ps, af, g⟩ (.bool (!b1)) := ⟨fun s w fa _ => by simp [execOp, fa.eval hx, Op.unary]⟩
theorem p_neg (hx : lkO E x = some (.int k a)) (hc : k.wrap (0 - a) = c) : Pu P n E h K ⟨dst, .unOp .neg t x, ty, ps, af, g⟩ (.int k c) := ⟨fun s w fa _ => by simp [execOp, fa.eval hx, Op.unary, Op.intArith, ← hc]⟩
theorem p_conv (hs : P.underlying t = some dd) (hu : P.underlying t' = some (.int k)) (hx : lkO E x = some (.int k' a)) (hc : k.wrap a = c) : Pu P n E h K ⟨dst, .convert t t' x, ty, ps, af, g⟩ (.int k c) :=
 ⟨fun s w fa _ => by simp [execOp, fa.eval hx, convert, run_underlying hs, run_underlying hu, Conv.intToInt, hc]⟩
/-! tuples, structs -/
theorem p_extract {vs : List Value} {i : Nat} (hx : lkO E x = some (.tuple vs.toArray)) (hi : vs[i]? = some v) : Pu P n E h K ⟨dst, .extract x i, ty, ps, af, g⟩ v :=
 ⟨fun s w fa _ => by simp [execOp, fa.eval hx, Instr.extract, hi]⟩

def fldOff (P : Program) (t i : Nat) : Option (Nat × TypeId × Nat) := match P.underlying t with
 | some (.struct fs) => match fs[i]? with
  | some f => match P.info? f.type with
   | some inf => some (f.offset, f.type, inf.size)
   | none => none
  | none => none
 | _ => none
def aggOf (P : Program) (t : TypeId) : Option Bool := match P.underlying t with
 | some (.struct _) => some true
 | some (.array _ _) => some true
 | some _ => some false
 | none => none
def szOf (P : Program) (t : TypeId) : Option Nat := (P.info? t).map (·.size)
def zrOf (P : Program) (t : TypeId) : Option Value := (P.info? t).bind (·.zero)
def byOf (P : Program) (t : TypeId) : Option Nat := (P.info? t).map (·.bytes)

theorem run_isAgg {w : World} {b : Bool} (ha : aggOf P t = some b) : (isAgg t).run P w = .ok b w := by
 unfold aggOf at ha
 cases hu : P.underlying t with
 | none => simp [hu] at ha
 | some d => cases d <;> simp [hu] at ha <;> subst ha <;> simp [isAgg, run_underlying hu]
theorem run_sizeOf {w : World} {s : Nat} (ha : szOf P t = some s) : (sizeOf t).run P w = .ok s w := by
 unfold szOf at ha
 cases hu : P.info? t with
 | none => simp [hu] at ha
 | some d => simp [hu] at ha; subst ha; simp [sizeOf, typeInfo, hu]
theorem run_zero {w : World} (ha : zrOf P t = some v) : (zeroValue t).run P w = .ok v w := by
 unfold zrOf at ha
 cases hu : P.info? t with
 | none => simp [hu] at ha
 | some d => simp [hu] at ha; simp [zeroValue, typeInfo, hu, ha]

theorem add_none (b o m : Nat) : Addr.add ⟨b, o, none⟩ m = ⟨b, o + m, none⟩ := by
 unfold Addr.add
 split
 ·rename_i e; subst e; rfl
 ·rfl

theorem p_fieldAddr {bl o i off ft sz o' : Nat} (hf : fldOff P t i = some (off, ft, sz)) (hsz : Nat.blt 0 sz = true) (hx : lkO E x = some (.pointer (some ⟨bl, o, none⟩))) (ho : o + off = o') : Pu P n E h K ⟨dst, .fieldAddr t x i, ty, ps, af, g⟩ (.pointer (some ⟨bl, o', none⟩)) :=
  ⟨fun s w fa _ => by
    unfold fldOff at hf
    cases hu : P.underlying t with
    | none => simp [hu] at hf
    | some d =>
      cases d <;> simp [hu] at hf
      rename_i fs
      cases hi : fs[i]? with
      | none => simp [hi] at hf
      | some f =>
        cases hin : P.info? f.type with
        | none => simp [hi, hin] at hf
        | some inf =>
          simp [hi, hin] at hf
          obtain ⟨h1, h2, h3⟩ := hf
          have h3 : ¬ inf.size = 0 := by have : 0 < sz := by simpa [Nat.blt_eq] using hsz
                                         omega
          simp [execOp, fa.eval hx, Instr.fieldAt, run_underlying hu, hi, Instr.sureAddr, fieldPlace, sizeOf, typeInfo, hin, h3, h1, add_none, ho]⟩

theorem p_field1 {i off ft sz : Nat} {cs : List Value} (hf : fldOff P t i = some (off, ft, sz)) (hg : aggOf P ft = some false) (hx : lkO E x = some (.agg cs.toArray)) (hc : cs[off]? = some v) : Pu P n E h K ⟨dst, .field t x i, ty, ps, af, g⟩ v :=
 ⟨fun s w fa _ => by
  unfold fldOff at hf
  cases hu : P.underlying t with
  | none => simp [hu] at hf
  | some d =>
   cases d <;> simp [hu] at hf
   rename_i fs
   cases hi : fs[i]? with
   | none => simp [hi] at hf
   | some f =>
    cases hin : P.info? f.type with
    | none => simp [hi, hin] at hf
    | some inf =>
     simp [hi, hin] at hf
     obtain ⟨h1, h2, h3⟩ := hf
     subst h1 h2
     simp [execOp, fa.eval hx, Instr.field, run_underlying hu, hi, part, run_isAgg hg, asAgg, hc]⟩
/-! ### Cells -/
structure Cel (h : Base) (K : List Asrt) (b o : Nat) (v : Value) : Prop where
 run : ∀ w, Sat h K w → w.cell? ⟨b, o, none⟩ = some v
theorem cel_own {bl o : Nat} {T : TypeId} {cs : List Value} {fz : Nat × Nat} (i : Nat) (hi : K[i]? = some (blkF bl T cs fz)) (hc : cs[o]? = some v) : Cel h K bl o v := ⟨fun w hs => by
 have : w.heap[bl]? = some (.cells cs.toArray T fz) := hs.own _ (List.mem_of_getElem? hi)
 simp [World.cell?, this, hc]⟩
theorem cel_mem {bl o : Nat} {T : TypeId} {cs : List Value} {fz : Nat × Nat} (hi : h.mem bl = some (.cells cs.toArray T fz)) (hc : cs[o]? = some v) : Cel h K bl o v := ⟨fun w hs => by
 have : w.heap[bl]? = some (.cells cs.toArray T fz) := hs.imm _ _ hi
 simp [World.cell?, this, hc]⟩
theorem Cel.sub {bl o : Nat} {K' : List Asrt} (hc : Cel h K bl o v) (hs : ∀ A ∈ K, A ∈ K') : Cel h K' bl o v := ⟨fun w hw => hc.run w (hw.sub hs)⟩

theorem p_load {bl o : Nat} (hg : aggOf P t = some false) (hx : lkO E x = some (.pointer (some ⟨bl, o, none⟩))) (hc : Cel h K bl o v) : Pu P n E h K ⟨dst, .load t x, ty, ps, af, g⟩ v :=
 ⟨fun s w fa hs => by simp [execOp, fa.eval hx, Instr.loadAt, Instr.sureAddr, loadVar, run_isAgg hg, hc.run w hs]⟩

def Cels (h : Base) (K : List Asrt) (b o : Nat) : List Value → Prop
 | [] => True
 | v :: r => Cel h K b o v ∧ Cels h K b (o + 1) r
theorem Cels.get {bl : Nat} : ∀ {vs : List Value} {o : Nat}, Cels h K bl o vs → ∀ j u, vs[j]? = some u → Cel h K bl (o + j) u
 | [], _, _, j, u, hu => by simp at hu
 | x :: r, o, hc, 0, u, hu => by simp at hu; subst hu; exact hc.1
 | x :: r, o, hc, j + 1, u, hu => by
  have := Cels.get hc.2 j u (by simpa using hu)
  rwa [show o + 1 + j = o + (j + 1) from by omega] at this
theorem p_loadN {bl o : Nat} {vs : List Value} (hg : aggOf P t = some true) (hz : szOf P t = some vs.length) (hx : lkO E x = some (.pointer (some ⟨bl, o, none⟩))) (hc : Cels h K bl o vs) : Pu P n E h K ⟨dst, .load t x, ty, ps, af, g⟩ (.agg vs.toArray) :=
 ⟨fun s w fa hs => by
  have hl : (loadCells ⟨bl, o, none⟩ vs.length).run P w = .ok vs.toArray w := run_loadCells_list w _ _ fun j u hj => by
   rw [add_none]; exact (hc.get j u hj).run w hs
  simp [execOp, fa.eval hx, Instr.loadAt, Instr.sureAddr, loadVar, run_isAgg hg, run_sizeOf hz, hl]⟩
end
end Go.K

/-! K3: the steps of the calculus that make or write memory, calls, slices, strings and bytes. Generic over the program. Conditions: none. -/
namespace Go.K

section
variable {P : Program} {n : NN} {Q : Exit → Act → World → Prop} {E : Env} {h : Base} {H : List Asrt} {ops : Array Oper} {rest : List Oper}
variable {t t' ty : TypeId} {ps : String} {af : Array Edge} {d : Nat} {v : Value} {x y : Operand} {K : List Asrt} {dst : Option Nat} {g : Option (Nat × Bool)}

theorem s_run {op : Op} {f : Act → World → Value × World} (hr : ∀ a w, Fr n E a → Ok h H w → (execOp a.eval ⟨dst, op, ty, ps, af, none⟩).run P w = .ok (.value (f a w).1) (f a w).2)
  (hk : ∀ a w, Fr n E a → Ok h H w → wpList P ops Q rest (a.put dst (f a w).1) (f a w).2) : WL P n ops Q (⟨dst, op, ty, ps, af, none⟩ :: rest) E h H :=
 ⟨fun a w fa ok => wpList_plain rfl fun K hK => by
  unfold Oper.wp
  rw [hr a w fa ok, Oper.upon_value]
  exact hK _ _ (hk a w fa ok)⟩

/-! ### New variables -/
theorem l_box {cs : List Value} (hx : lkO E x = some v) (hc : v.cells = cs.toArray) (hd : Nat.blt d n = true) (hk : ∀ B, WL P n ops Q rest ((d, .pointer (some ⟨B, 0, none⟩)) :: E) h (blk B t cs :: H)) :
  WL P n ops Q (⟨some d, .box t x, ty, ps, af, none⟩ :: rest) E h H :=
 s_run (f := fun a w => (.pointer (some ⟨w.heap.size, 0, none⟩), w.alloc (.cells cs.toArray t (0, 0))))
  (fun a w fa ok => by simp [execOp, fa.eval hx, Instr.box, newVar, newRow, hc])
  (fun a w fa ok => (hk w.heap.size).run _ _ (fa.put _ hd) (ok.alloc cs t (0, 0)))
theorem l_alloc {cs : List Value} (hz : zrOf P t = some v) (hc : v.cells = cs.toArray) (hd : Nat.blt d n = true) (hk : ∀ B, WL P n ops Q rest ((d, .pointer (some ⟨B, 0, none⟩)) :: E) h (blk B t cs :: H)) :
  WL P n ops Q (⟨some d, .alloc t, ty, ps, af, none⟩ :: rest) E h H :=
 s_run (f := fun a w => (.pointer (some ⟨w.heap.size, 0, none⟩), w.alloc (.cells cs.toArray t (0, 0))))
  (fun a w fa ok => by simp [execOp, Instr.alloc, run_zero hz, newVar, newRow, hc])
  (fun a w fa ok => (hk w.heap.size).run _ _ (fa.put _ hd) (ok.alloc cs t (0, 0)))

/-! ### Struct and slice literals -/
def partsOf (E : Env) : List (Nat × Operand) → Option (List (Nat × Value))
 | [] => some []
 | (i, x) :: r => match lkO E x, partsOf E r with
  | some v, some vs => some ((i, v) :: vs)
  | _, _ => none
theorem partsOf_eval {a : Act} (fa : Fr n E a) : ∀ (l : List (Nat × Operand)) (vs : List (Nat × Value)), partsOf E l = some vs → l.map (fun p => (p.1, a.eval p.2)) = vs
 | [], vs, e => by simp [partsOf] at e; simp [← e]
 | (i, x) :: r, vs, e => by
  simp only [partsOf] at e
  cases h1 : lkO E x with
  | none => simp [h1] at e
  | some v =>
   cases h2 : partsOf E r with
   | none => simp [h1, h2] at e
   | some us =>
    simp [h1, h2] at e
    subst e
    simp [fa.eval h1, partsOf_eval fa r us h2]
def placesOf (P : Program) (t : TypeId) : Option (List (Nat × Nat)) := match P.underlying t with
 | some (.struct fs) => fs.toList.mapM fun f => (P.info? f.type).map fun i => (f.offset, i.size)
 | _ => none
theorem run_places (w : World) : ∀ (fs : List Field) (pl : List (Nat × Nat)), fs.mapM (fun f => (P.info? f.type).map fun i => (f.offset, i.size)) = some pl →
  (fs.mapM (m := Sem) fun f => do pure (f.offset, ← sizeOf f.type)).run P w = .ok pl w
 | [], pl, e => by simp at e; subst e; simp
 | f :: r, pl, e => by
  cases hi : P.info? f.type with
  | none => simp [hi] at e
  | some i =>
   cases hr : r.mapM (fun f => (P.info? f.type).map fun i => (f.offset, i.size)) with
   | none => simp [List.mapM_cons, hi, hr] at e
   | some pr =>
    simp [List.mapM_cons, hi, hr] at e
    subst e
    have h1 := run_places w r pr hr
    have h2 : (sizeOf f.type).run P w = .ok i.size w := by simp [sizeOf, typeInfo, hi]
    simp only [List.mapM_cons, Sem.run_bind, h2, Result.andThen_ok, Sem.run_pure, h1]
def overL (cs : List Value) (off : Nat) (l : List Value) : List Value := cs.take off ++ l ++ cs.drop (off + l.length)
theorem foldl_over : ∀ (l : List Value) (k off : Nat) (cs : Array Value), off + k + l.length ≤ cs.size →
  (l.zipIdx k).foldl (fun cs (x : Value × Nat) => cs.setIfInBounds (off + x.2) x.1) cs = (overL cs.toList (off + k) l).toArray
 | [], k, off, cs, _ => by simp [overL]
 | c :: r, k, off, cs, h => by
  simp only [List.length_cons] at h
  rw [List.zipIdx_cons, List.foldl_cons, foldl_over r (k + 1) off _ (by simp; omega)]
  congr 1
  simp only [overL, Array.toList_setIfInBounds, List.length_cons]
  rw [show off + (k + 1) = off + k + 1 from by omega, List.take_succ_eq_append_getElem (by simp; omega), List.take_set_of_le (Nat.le_refl _), List.drop_set_of_lt (by omega)]
  simp [show off + k + 1 + r.length = off + k + (r.length + 1) from by omega]
def fillL (pl : List (Nat × Nat)) : List Value → List (Nat × Value) → Option (List Value)
 | cs, [] => some cs
 | cs, (i, v) :: r => match pl[i]? with
  | none => none
  | some (off, size) => match Nat.beq v.cells.toList.length size && Nat.ble (off + v.cells.toList.length) cs.length with
   | true => fillL pl (overL cs off v.cells.toList) r
   | false => none
theorem fill_of_L (pl : List (Nat × Nat)) : ∀ (vs : List (Nat × Value)) (cs cs' : List Value), fillL pl cs vs = some cs' → Instr.fill (pl.toArray[·]?) cs.toArray vs = some cs'.toArray
 | [], cs, cs', e => by simp [fillL] at e; simp [Instr.fill, e]
 | (i, v) :: r, cs, cs', e => by
  simp only [fillL] at e
  cases h1 : pl[i]? with
  | none => simp [h1] at e
  | some os =>
   obtain ⟨off, size⟩ := os
   simp only [h1] at e
   cases h2 : (Nat.beq v.cells.toList.length size && Nat.ble (off + v.cells.toList.length) cs.length) with
   | false => rw [h2] at e; cases e
   | true =>
    rw [h2] at e
    simp only [Bool.and_eq_true] at h2
    have e1 : v.cells.toList.length = size := Nat.eq_of_beq_eq_true h2.1
    have e2 := Nat.le_of_ble_eq_true h2.2
    have e3 : (v.cells.zipIdx.foldl (fun cs (x : Value × Nat) => cs.setIfInBounds (off + x.2) x.1) cs.toArray) = (overL cs off v.cells.toList).toArray := by
     rw [← Array.foldl_toList, Array.toList_zipIdx, foldl_over _ 0 off _ (by simpa using e2)]
     simp
    simp only [Instr.fill, List.getElem?_toArray, h1]
    rw [if_neg (by simp at e1 e2 ⊢; omega)]
    rw [e3]
    have := fill_of_L pl r _ _ e
    simpa using this
def seqOk (s : Nat) : List (Nat × Value) → Nat → Bool
 | [], _ => true
 | (i, v) :: r, k => Nat.beq i k && Nat.beq v.cells.toList.length s && seqOk s r (k + 1)
def cellsL : List (Nat × Value) → List Value
 | [] => []
 | (_, v) :: r => v.cells.toList ++ cellsL r
theorem fill_seq (s : Nat) : ∀ (vs : List (Nat × Value)) (k : Nat) (pre arr : List Value), seqOk s vs k = true → pre.length = k * s → arr.length = vs.length * s →
  Instr.fill (fun i => some (i * s, s)) (pre ++ arr).toArray vs = some (pre ++ cellsL vs).toArray
 | [], k, pre, arr, _, _, h2 => by
  have : arr = [] := List.eq_nil_of_length_eq_zero (by simpa using h2)
  subst this
  simp [Instr.fill, cellsL]
 | (i, v) :: r, k, pre, arr, h, h1, h2 => by
  simp only [seqOk, Bool.and_eq_true] at h
  have ei := Nat.eq_of_beq_eq_true h.1.1
  have e := Nat.eq_of_beq_eq_true h.1.2
  subst ei
  rw [List.length_cons, Nat.add_mul, Nat.one_mul] at h2
  have e3 : (v.cells.zipIdx.foldl (fun cs (x : Value × Nat) => cs.setIfInBounds (i * s + x.2) x.1) (pre ++ arr).toArray) = (overL (pre ++ arr) (i * s) v.cells.toList).toArray := by
   rw [← Array.foldl_toList, Array.toList_zipIdx, foldl_over _ 0 (i * s) _ (by simp at e ⊢; omega)]
   simp
  simp only [Instr.fill]
  rw [if_neg (by simp at e ⊢; omega), e3]
  have e4 : overL (pre ++ arr) (i * s) v.cells.toList = (pre ++ v.cells.toList) ++ arr.drop s := by
   unfold overL
   rw [← h1, List.take_left, List.drop_append, List.drop_of_length_le (by omega), e]
   simp
  rw [e4, fill_seq s r (i + 1) (pre ++ v.cells.toList) (arr.drop s) h.2 (by rw [List.length_append, e, h1, Nat.add_mul]; omega) (by rw [List.length_drop]; omega)]
  simp [cellsL]
theorem p_build {pl : List (Nat × Nat)} {parts : List (Nat × Operand)} {vs : List (Nat × Value)} {z cs : List Value} (hp : placesOf P t = some pl) (hz : zrOf P t = some (.agg z.toArray)) (hv : partsOf E parts = some vs)
  (hf : fillL pl z vs = some cs) : Pu P n E h K ⟨dst, .build t parts.toArray, ty, ps, af, g⟩ (.agg cs.toArray) :=
 ⟨fun a w fa _ => by
  unfold placesOf at hp
  cases hu : P.underlying t with
  | none => simp [hu] at hp
  | some dd =>
   cases dd <;> simp [hu] at hp
   rename_i fs
   have h1 := run_places (P := P) w fs.toList pl hp
   have h2 := partsOf_eval fa parts vs hv
   have h3 : (fs.mapM (m := Sem) fun f => do pure (f.offset, ← sizeOf f.type)).run P w = .ok pl.toArray w := by
    rw [Array.mapM_eq_mapM_toList]
    simp only [Sem.run_map, h1, Result.andThen_ok]
   simp only [execOp, Instr.build, Sem.run_bind, run_zero hz, Result.andThen_ok, run_underlying hu, h3, Value.cells]
   have h4 : (parts.toArray.map fun x => (x.1, a.eval x.2)).toList = vs := by simpa using h2
   rw [h4, fill_of_L pl vs z cs hf]
   simp⟩

theorem cells_oneL {u : Value} (hu : (match u with | .agg _ => false | .tuple _ => false | _ => true) = true) : u.cells.toList = [u] := by cases u <;> simp at hu <;> rfl
def one1 (v : Value) : Bool := match v with | .agg _ => false | .tuple _ => false | _ => true
theorem cellsL_cons {i : Nat} {u : Value} {r : List (Nat × Value)} {l : List Value} (hu : one1 u = true) (h : cellsL r = l) : cellsL ((i, u) :: r) = u :: l := by
 rw [cellsL, h, cells_oneL hu]; rfl
theorem cellsL_1 {i0 : Nat} {u0 : Value} (h0 : one1 u0 = true) : cellsL [(i0, u0)] = [u0] := cellsL_cons h0 (rfl)
theorem l_buildSlice {e : TypeId} {m s : Nat} {parts : List (Nat × Operand)} {vs : List (Nat × Value)} {cs : List Value} (hu : P.underlying t = some (.slice e)) (hs : szOf P e = some s) (hb : Nat.ble (m * s) 16777216 = true)
  (hz : zrOf P e = some v) (hv : partsOf E parts = some vs) (hm : Nat.beq vs.length m = true) (hf0 : seqOk s vs 0 = true) (hcs : cellsL vs = cs) (hd : Nat.blt d n = true)
  (hk : ∀ B, WL P n ops Q rest ((d, .slice (some ⟨B, 0, none⟩) m m) :: E) h (blk B e cs :: H)) :
  WL P n ops Q (⟨some d, .buildSlice t m parts.toArray, ty, ps, af, none⟩ :: rest) E h H :=
 have hf : Instr.fill (fun i => some (i * s, s)) ((Array.range (m * s)).map (v.cells[· % v.cells.size]!)) vs = some cs.toArray := by
  have := fill_seq s vs 0 [] ((Array.range (m * s)).map (v.cells[· % v.cells.size]!)).toList hf0 (by simp) (by simp [Nat.eq_of_beq_eq_true hm])
  rw [List.nil_append, List.nil_append, Array.toArray_toList] at this
  rw [this, hcs]
 s_run (f := fun a w => (.slice (some ⟨w.heap.size, 0, none⟩) m m, w.alloc (.cells cs.toArray e (0, 0))))
  (fun a w fa ok => by
   have h2 := partsOf_eval fa parts vs hv
   have h4 : (parts.toArray.map fun x => (x.1, a.eval x.2)).toList = vs := by simpa using h2
   have hb' : ¬ m * s > 16777216 := by have := Nat.le_of_ble_eq_true hb; omega
   by_cases h0 : m * s = 0
   ·simp only [execOp, Instr.buildSlice, Sem.run_bind, run_underlying hu, Result.andThen_ok, run_sizeOf hs, Nat.reducePow, if_neg hb', if_pos h0, Sem.run_pure, h4]
    have : (Array.range (m * s)).map (v.cells[· % v.cells.size]!) = (Array.range (m * s)).map ((#[] : Array Value)[· % (#[] : Array Value).size]!) := by rw [h0]; simp
    rw [← this, hf]
    simp [newRow]
   ·simp only [execOp, Instr.buildSlice, Sem.run_bind, run_underlying hu, Result.andThen_ok, run_sizeOf hs, Nat.reducePow, if_neg hb', if_neg h0, Sem.run_pure, h4, run_zero hz]
    rw [hf]
    simp [newRow])
  (fun a w fa ok => (hk w.heap.size).run _ _ (fa.put _ hd) (ok.alloc cs e (0, 0)))

/-! ### Stores -/
theorem Ok.own_head {A : Asrt} {w : World} (ok : Ok h (A :: H) w) : A.holds w := ok.sat.own _ (List.mem_cons_self ..)

theorem Ok.store {b o : Nat} {T : TypeId} {cs : List Value} {fz : Nat × Nat} {w : World} (ok : Ok h (blkF b T cs fz :: H) w) (u : Value) : Ok h (blkF b T (cs.set o u) fz :: H) (w.setCell ⟨b, o, none⟩ u) := by
 have hw : w.heap[b]? = some (.cells cs.toArray T fz) := ok.own_head
 refine ok.write T (cs.set o u) fz rfl rfl rfl ?_ (fun x hx _ => RowKit.Below.heap_setCell _ _ _ _ hx)
 simp [World.setCell, Array.getElem?_modify, hw]

def oneCell (v : Value) : Bool := match v with | .agg _ => false | .tuple _ => false | _ => true
theorem run_store1 {b o : Nat} {T : TypeId} {cs : List Value} {fz : Nat × Nat} {w : World} (hw : w.heap[b]? = some (.cells cs.toArray T fz)) (ho : o < cs.length) (hz : (decide (fz.1 ≤ o) && decide (o < fz.2)) = false) (u : Value) (hu : oneCell u = true) :
  (store ⟨b, o, none⟩ u).run P w = .ok () (w.setCell ⟨b, o, none⟩ u) := by
 have hc : w.cell? ⟨b, o, none⟩ = some cs[o] := by simp [World.cell?, hw, ho]
 have hf : w.frozen? ⟨b, o, none⟩ = false := by
  obtain ⟨lo, hi⟩ := fz
  simpa [World.frozen?, hw] using hz
 unfold Go.store
 cases u <;> simp [oneCell] at hu <;> simp [Sem.run, hc, hf]

theorem cells_one {u : Value} (hu : oneCell u = true) : u.cells = #[u] := by cases u <;> simp [oneCell] at hu <;> rfl

theorem l_store1 {b o : Nat} {T : TypeId} {cs cs' : List Value} {fz : Nat × Nat} (hs : szOf P t = some 1) (hx : lkO E x = some (.pointer (some ⟨b, o, none⟩))) (hy : lkO E y = some v) (hv : oneCell v = true)
  (ho : Nat.blt o cs.length = true) (hz : (decide (fz.1 ≤ o) && decide (o < fz.2)) = false) (hcs : cs.set o v = cs') (hk : WL P n ops Q rest E h (blkF b T cs' fz :: H)) :
  WL P n ops Q (⟨none, .store t x y, ty, ps, af, none⟩ :: rest) E h (blkF b T cs fz :: H) :=
 ⟨fun a w fa ok => wpList_plain rfl fun K hK => by
  have ho' : o < cs.length := by simpa [Nat.blt_eq] using ho
  have hw : w.heap[b]? = some (.cells cs.toArray T fz) := ok.own_head
  unfold Oper.wp
  have : (execOp a.eval ⟨none, .store t x y, ty, ps, af, none⟩).run P w = .ok .skip (w.setCell ⟨b, o, none⟩ v) := by
   simp only [execOp, fa.eval hx, fa.eval hy, Instr.storeAt, Instr.sureAddr, storeVar, Sem.run_bind, Sem.run_pure, Result.andThen_ok, run_sizeOf hs, cells_one hv]
   simp only [storeCells, List.size_toArray, List.length_cons, List.length_nil, ne_eq, not_true_eq_false, ↓reduceIte, Sem.run_bind, add_none, Nat.add_zero]
   simp [run_store1 hw ho' hz v hv]
  rw [this, Oper.upon_skip]
  exact hK _ _ (hk.run _ _ fa (hcs ▸ ok.store v))⟩
theorem at_perm {α : Type} : ∀ {l : List α} {i : Nat} {A : α}, l[i]? = some A → l.Perm (A :: l.eraseIdx i)
 | [], i, A, e => by simp at e
 | x :: r, 0, A, e => by simp at e; subst e; simp
 | x :: r, i + 1, A, e => by
  have := at_perm (l := r) (i := i) (A := A) (by simpa using e)
  rw [List.eraseIdx_cons_succ]
  exact (this.cons x).trans (List.Perm.swap A x _)
theorem l_store1_at {b o : Nat} {T : TypeId} {cs cs' : List Value} {fz : Nat × Nat} (i : Nat) {H' : List Asrt} (hi : H[i]? = some (blkF b T cs fz)) (hs : szOf P t = some 1) (hx : lkO E x = some (.pointer (some ⟨b, o, none⟩))) (hy : lkO E y = some v) (hv : oneCell v = true)
  (ho : Nat.blt o cs.length = true) (hz : (decide (fz.1 ≤ o) && decide (o < fz.2)) = false) (hcs : cs.set o v = cs') (hH : H.set i (blkF b T cs' fz) = H') (hk : WL P n ops Q rest E h H') :
  WL P n ops Q (⟨none, .store t x y, ty, ps, af, none⟩ :: rest) E h H := by
 have e1 := at_perm hi
 have e2 : (blkF b T cs' fz :: H.eraseIdx i).Perm H' := by
  have hlt : i < H.length := by
   rcases Nat.lt_or_ge i H.length with h' | h'
   ·exact h'
   ·rw [List.getElem?_eq_none h'] at hi; cases hi
  have := at_perm (l := H.set i (blkF b T cs' fz)) (i := i) (A := blkF b T cs' fz) (by rw [List.getElem?_set_self hlt])
  rw [List.eraseIdx_set_eq] at this
  rw [← hH]; exact this.symm
 exact WL.perm e1 (l_store1 hs hx hy hv ho hz hcs (WL.perm e2 hk))

/-! ### Calls -/
def Callable (P : Program) (f : FuncId) : Prop := ∀ (args : Array Value) (w : World), (callFunc f args).run P w = .ok (.enter f args) w
theorem callable_of {f : FuncId} {fn : Func} (hf : P.funcs[f]? = some fn) (hb : fn.body.isNone = false) (hn : (fn.name == "runtime.NumGoroutine") = false) : Callable P f := fun args w => by
 simp only [callFunc, Sem.run_bind, run_program, Result.andThen_ok, hf, hn, hb, Bool.false_eq_true, ↓reduceIte, Sem.run_pure]
def evArgs (E : Env) : List Operand → Option (List Value)
 | [] => some []
 | x :: r => match lkO E x, evArgs E r with
  | some v, some vs => some (v :: vs)
  | _, _ => none
theorem evArgs_eval {a : Act} (fa : Fr n E a) : ∀ (l : List Operand) (vs : List Value), evArgs E l = some vs → l.map a.eval = vs
 | [], vs, e => by simp [evArgs] at e; simp [← e]
 | x :: r, vs, e => by
  simp only [evArgs] at e
  cases h1 : lkO E x with
  | none => simp [h1] at e
  | some v =>
   cases h2 : evArgs E r with
   | none => simp [h1, h2] at e
   | some us =>
    simp [h1, h2] at e
    subst e
    simp [fa.eval h1, evArgs_eval fa r us h2]
theorem run_call {f : FuncId} {args : List Operand} {vals : List Value} {ats : Array TypeId} {a : Act} {w : World} (hc : Callable P f) (fa : Fr n E a) (ha : evArgs E args = some vals) :
  (execOp a.eval ⟨dst, .call ⟨.value (.func f), args.toArray, ats⟩, ty, ps, af, g⟩).run P w = .ok (.enter f vals.toArray) w := by
 have h1 := evArgs_eval fa args vals ha
 have h2 : args.toArray.map a.eval = vals.toArray := by rw [List.map_toArray, h1]
 simp only [execOp, resolve, Act.eval, Deferred.ofValue, h2, Sem.run_bind, Sem.run_pure, Result.andThen_ok, invoke]
 simp only [Array.empty_append, Array.append_empty]
 exact hc _ _

def pick : List Nat → List Asrt → Option (List Asrt × List Asrt)
 | [], H => some ([], H)
 | i :: is, H => match H[i]? with
  | some A => match pick is (H.eraseIdx i) with
   | some (p, r) => some (A :: p, r)
   | none => none
  | none => none
theorem pick_perm : ∀ {is : List Nat} {H p r : List Asrt}, pick is H = some (p, r) → H.Perm (p ++ r)
 | [], H, p, r, e => by simp [pick] at e; obtain ⟨rfl, rfl⟩ := e; exact List.Perm.refl _
 | i :: is, H, p, r, e => by
  simp only [pick] at e
  cases h1 : H[i]? with
  | none => simp [h1] at e
  | some A =>
   cases h2 : pick is (H.eraseIdx i) with
   | none => simp [h1, h2] at e
   | some q =>
    simp [h1, h2] at e
    obtain ⟨rfl, rfl⟩ := e
    exact (at_perm h1).trans ((pick_perm h2).cons A)

theorem pp (is : List Nat) {H p r : List Asrt} (e : pick is H = some (p, r)) : H.Perm (p ++ r) := pick_perm e
theorem l_call {f : FuncId} {args : List Operand} {vals : List Value} {ats : Array TypeId} {Pre F : List Asrt} {Post : Value → Base → List Asrt → Prop} (hc : Callable P f) (ha : evArgs E args = some vals) (ht : Tr P f vals h Pre Post)
  (hp : H.Perm (Pre ++ F)) (hd : Nat.blt d n = true) (hk : ∀ v h' H', h.le h' → Post v h' H' → WL P n ops Q rest ((d, v) :: E) h' (H' ++ F)) :
  WL P n ops Q (⟨some d, .call ⟨.value (.func f), args.toArray, ats⟩, ty, ps, af, none⟩ :: rest) E h H :=
 ⟨fun a w fa ok => wpList_plain rfl fun K hK => by
  unfold Oper.wp
  rw [run_call hc fa ha, Oper.upon_enter]
  refine Calls.mono (ht F w (ok.perm hp)) ?_
  rintro e w' ⟨v, rfl, h', H', hle, hP, ok'⟩
  exact hK _ _ ((hk v h' H' hle hP).run _ _ (fa.put v hd) ok')⟩
def TrV (P : Program) (f : FuncId) (args : List Value) (h : Base) (Pre : List Asrt) (v : Value) (Post : List Asrt) : Prop := Tr P f args h Pre fun u h' H' => u = v ∧ h' = h ∧ H' = Post
theorem l_callV {f : FuncId} {args : List Operand} {vals : List Value} {ats : Array TypeId} {Pre F Po H' : List Asrt} {v : Value} (hc : Callable P f) (ha : evArgs E args = some vals) (ht : TrV P f vals h Pre v Po)
  (hp : H.Perm (Pre ++ F)) (hd : Nat.blt d n = true) (hH : Po ++ F = H') (hk : WL P n ops Q rest ((d, v) :: E) h H') :
  WL P n ops Q (⟨some d, .call ⟨.value (.func f), args.toArray, ats⟩, ty, ps, af, none⟩ :: rest) E h H :=
 l_call hc ha ht hp hd fun u h' H'' _ ⟨e1, e2, e3⟩ => by subst e1 e2 e3; rw [hH]; exact hk
/-! ### Lengths, places, cuts -/
theorem run_builtin {b : Builtin} {args : List Operand} {vals : List Value} {ats : Array TypeId} {a : Act} {w : World} (fa : Fr n E a) (ha : evArgs E args = some vals) :
  (execOp a.eval ⟨dst, .call ⟨.builtin b, args.toArray, ats⟩, ty, ps, af, g⟩).run P w = (builtin b ats ty (args.toArray.map fun | .const _ => true | _ => false) vals.toArray).run P w := by
 have h1 := evArgs_eval fa args vals ha
 have h2 : args.toArray.map a.eval = vals.toArray := by rw [List.map_toArray, h1]
 simp only [execOp, resolve, h2, Sem.run_bind, Sem.run_pure, Result.andThen_ok, invoke]
 rfl
theorem p_lenS {e : TypeId} {ao : Option Addr} {la ca : Nat} (hu : P.underlying t = some (.slice e)) (hx : lkO E x = some (.slice ao la ca)) : Pu P n E h K ⟨dst, .call ⟨.builtin .len, #[x], #[t]⟩, ty, ps, af, g⟩ (.int .i64 la) :=
 ⟨fun a w fa _ => by
  rw [show (#[x] : Array Operand) = [x].toArray from rfl, run_builtin (vals := [.slice ao la ca]) fa (by simp [evArgs, hx])]
  simp [builtin, Builtin.len_, run_underlying hu, goInt]⟩
theorem p_lenT {s : ByteArray} (hu : P.underlying t = some .string) (hx : lkO E x = some (.string s)) : Pu P n E h K ⟨dst, .call ⟨.builtin .len, #[x], #[t]⟩, ty, ps, af, g⟩ (.int .i64 s.size) :=
 ⟨fun a w fa _ => by
  rw [show (#[x] : Array Operand) = [x].toArray from rfl, run_builtin (vals := [.string s]) fa (by simp [evArgs, hx])]
  simp [builtin, Builtin.len_, run_underlying hu, goInt]⟩
theorem p_min {k k' : IntKind} {a b c : Int} {ats : Array TypeId} (hx : lkO E x = some (.int k a)) (hy : lkO E y = some (.int k' b)) (hc : min a b = c) : Pu P n E h K ⟨dst, .call ⟨.builtin .min, #[x, y], ats⟩, ty, ps, af, g⟩ (.int k c) :=
 ⟨fun s w fa _ => by
  rw [show (#[x, y] : Array Operand) = [x, y].toArray from rfl, run_builtin (vals := [.int k a, .int k' b]) fa (by simp [evArgs, hx, hy])]
  have := run_min_int2 (P := P) w ats ty k k' a b
  have e : (if b < a then b else a) = c := by rw [← hc]; omega
  rw [e] at this
  simp [builtin, this]⟩
theorem p_indexAddr {e : TypeId} {s b o la ca o' : Nat} {k : IntKind} {m : Int} (hu : P.underlying t = some (.slice e)) (hs : szOf P e = some s) (hx : lkO E x = some (.slice (some ⟨b, o, none⟩) la ca)) (hy : lkO E y = some (.int k m))
  (h0 : 0 ≤ m) (h1 : m < la) (ho : o + m.toNat * s = o') : Pu P n E h K ⟨dst, .indexAddr t x y, ty, ps, af, g⟩ (.pointer (some ⟨b, o', none⟩)) :=
 ⟨fun a w fa _ => by simp [execOp, fa.eval hx, fa.eval hy, Instr.indexAt, asIntOf, run_underlying hu, h0, h1, run_sizeOf hs, add_none, ho]⟩
theorem p_indexT {s : ByteArray} {k : IntKind} {m : Int} {c : UInt8} (hu : P.underlying t = some .string) (hx : lkO E x = some (.string s)) (hy : lkO E y = some (.int k m)) (h0 : 0 ≤ m) (hc : s.data.toList[m.toNat]? = some c) :
  Pu P n E h K ⟨dst, .index t x y, ty, ps, af, g⟩ (.int .u8 c.toNat) :=
 ⟨fun a w fa _ => by
  have : s[m.toNat]? = some c := by
   have hlt : m.toNat < s.size := by
    rcases Nat.lt_or_ge m.toNat s.data.toList.length with h' | h'
    ·simpa using h'
    ·rw [List.getElem?_eq_none h'] at hc; cases hc
   have h2 : s.data.toList[m.toNat]? = some (s[m.toNat]) := by
    rw [List.getElem?_eq_getElem (by simpa using hlt)]
    rfl
   rw [h2] at hc
   rw [getElem?_pos s m.toNat hlt]; exact hc
  simp [execOp, fa.eval hx, fa.eval hy, Instr.index, asIntOf, run_underlying hu, h0, this]⟩
theorem p_slice {e : TypeId} {s b o la ca : Nat} {lo hi : Option Operand} {k1 k2 : IntKind} {l u : Nat} {ao : Option Addr} (hu : P.underlying t = some (.slice e)) (hs : szOf P e = some s) (hx : lkO E x = some (.slice (some ⟨b, o, none⟩) la ca))
  (hlo : match lo with | none => l = 0 | some z => ∃ i : Int, lkO E z = some (.int k1 i) ∧ i = l) (hhi : match hi with | none => u = la | some z => ∃ i : Int, lkO E z = some (.int k2 i) ∧ i = u)
  (h1 : l ≤ u) (h2 : u ≤ ca) (ha : (if ca = l then some (⟨b, o, none⟩ : Addr) else some ⟨b, o + l * s, none⟩) = ao) : Pu P n E h K ⟨dst, .slice t x lo hi none, ty, ps, af, g⟩ (.slice ao (u - l) (ca - l)) :=
 ⟨fun a w fa _ => by
  have hb : ∀ (y : Nat) (z : Nat) (k : IntKind) (c : BoundsCode), z ≤ y → (Instr.sliceBound (.int k z) y c).run P w = .ok z w := fun y z k c hz => by
   simp [Instr.sliceBound, asIntOf, hz]
  subst ha
  have key : (Instr.sliceBounds true la ca (lo.map a.eval) (hi.map a.eval) none).run P w = .ok (l, u, ca) w := by
   cases lo with
   | none =>
    dsimp only at hlo; subst hlo
    cases hi with
    | none => dsimp only at hhi; subst hhi; simp [Instr.sliceBounds]
    | some zh =>
     obtain ⟨i, hi1, hi2⟩ := hhi
     subst hi2
     simp [Instr.sliceBounds, fa.eval hi1, hb _ _ _ _ h2]
   | some zl =>
    obtain ⟨j, hj1, hj2⟩ := hlo
    subst hj2
    cases hi with
    | none => dsimp only at hhi; subst hhi; simp [Instr.sliceBounds, fa.eval hj1, hb _ _ _ _ h1]
    | some zh =>
     obtain ⟨i, hi1, hi2⟩ := hhi
     subst hi2
     simp [Instr.sliceBounds, fa.eval hi1, fa.eval hj1, hb _ _ _ _ h2, hb _ _ _ _ h1]
  simp only [execOp, fa.eval hx, Instr.sliceAt, Option.map_none, Sem.run_bind, run_underlying hu, Result.andThen_ok, Instr.slice, key, run_sizeOf hs, Sem.run_pure, Option.map_some, add_none]⟩
theorem p_slice0 {e : TypeId} {s : Nat} {lo hi : Option Operand} {k1 k2 : IntKind} (hu : P.underlying t = some (.slice e)) (hs : szOf P e = some s) (hx : lkO E x = some (.slice none 0 0))
  (hlo : match lo with | none => True | some z => lkO E z = some (.int k1 0)) (hhi : match hi with | none => True | some z => lkO E z = some (.int k2 0)) :
  Pu P n E h K ⟨dst, .slice t x lo hi none, ty, ps, af, g⟩ (.slice none 0 0) :=
 ⟨fun a w fa _ => by
  have hb : ∀ (k : IntKind) (c : BoundsCode), (Instr.sliceBound (.int k 0) 0 c).run P w = .ok 0 w := fun k c => by simp [Instr.sliceBound, asIntOf]
  have key : (Instr.sliceBounds true 0 0 (lo.map a.eval) (hi.map a.eval) none).run P w = .ok (0, 0, 0) w := by
   cases lo with
   | none => cases hi with
    | none => simp [Instr.sliceBounds]
    | some zh => simp [Instr.sliceBounds, fa.eval hhi, hb]
   | some zl => cases hi with
    | none => simp [Instr.sliceBounds, fa.eval hlo, hb]
    | some zh => simp [Instr.sliceBounds, fa.eval hhi, fa.eval hlo, hb]
  simp only [execOp, fa.eval hx, Instr.sliceAt, Option.map_none, Sem.run_bind, run_underlying hu, Result.andThen_ok, Instr.slice, key, run_sizeOf hs, Sem.run_pure, ↓reduceIte, Nat.sub_self]⟩
end
end Go.K

/-! K4: rows of the call's own: append, bytes and strings. Generic over the program. Conditions: none. -/
namespace Go.K

def u8 (c : UInt8) : Value := .int .u8 c.toNat
theorem u8_one (c : UInt8) : oneCell (u8 c) = true := rfl

def Free (fz : Nat × Nat) (k : Nat) : Prop := ∀ o, o < k → (decide (fz.1 ≤ o) && decide (o < fz.2)) = false
theorem Free.zero (k : Nat) : Free (0, 0) k := fun o _ => by simp
theorem Free.past (k m : Nat) : Free (k, m) k := fun o ho => by simp; omega

def bufV (a : Option Nat) (m cap : Nat) : Value := .slice (a.map fun b => ⟨b, 0, none⟩) m cap

def bufA (T s : Nat) (a : Option Nat) (m cap : Nat) (cs : List Value) : Asrt where
 ids := a.toList
 holds w := match a with
  | none => m = 0 ∧ cap = 0 ∧ cs = []
  | some b => ∃ sp fz, w.heap[b]? = some (.cells (cs ++ sp).toArray T fz) ∧ cs.length = m * s ∧ (cs ++ sp).length = cap * s ∧ m ≤ cap ∧ cap ≤ maxLen ∧ Free fz (cap * s)
 live w h x hx := by
  cases a with
  | none => simp at hx
  | some b =>
   simp at hx; subst hx
   obtain ⟨sp, fz, h1, _⟩ := h
   exact heap_lt h1
 loc w w' hb h := by
  cases a with
  | none => exact h
  | some b =>
   obtain ⟨sp, fz, h1, h2⟩ := h
   exact ⟨sp, fz, by rw [hb b (by simp)]; exact h1, h2⟩

section
variable {P : Program} {n : NN} {Q : Exit → Act → World → Prop} {E : Env} {h : Base} {H R : List Asrt} {ops : Array Oper} {rest : List Oper}
variable {t t' ty : TypeId} {ps : String} {af : Array Edge} {d : Nat} {v : Value} {x y : Operand} {K : List Asrt} {dst : Option Nat} {g : Option (Nat × Bool)}

structure Src (P : Program) (h : Base) (K : List Asrt) (s : Nat) (xv : Value) (m : Nat) (xs : List Value) : Prop where
 len : ∀ w, (Builtin.lenOf xv).run P w = .ok m w
 size : xs.length = m * s
 one : ∀ u ∈ xs, oneCell u = true
 get : ∀ w, Sat h K w → (Builtin.firstCells s m xv).run P w = .ok xs.toArray w

theorem src_nil {s : Nat} : Src P h K s (.slice none 0 0) 0 [] := ⟨fun w => by simp [Builtin.lenOf], by simp, by simp, fun w _ => by simp [Builtin.firstCells]⟩
theorem src_empty {s c : Nat} {ao : Option Addr} : Src P h K s (.slice ao 0 c) 0 [] := ⟨fun w => by simp [Builtin.lenOf], by simp, by simp, fun w _ => by
 cases ao <;> simp [Builtin.firstCells, loadCells, loadCellsFrom]⟩
theorem src_cells {s b o m c : Nat} {xs : List Value} (hc : Cels h K b o xs) (hl : xs.length = m * s) (h1 : ∀ u ∈ xs, oneCell u = true) : Src P h K s (.slice (some ⟨b, o, none⟩) m c) m xs :=
 ⟨fun w => by simp [Builtin.lenOf], hl, h1, fun w hw => by
  have : (loadCells ⟨b, o, none⟩ xs.length).run P w = .ok xs.toArray w := run_loadCells_list w _ _ fun j u hj => by
   rw [add_none]; exact (hc.get j u hj).run w hw
  rw [hl] at this
  simp [Builtin.firstCells, this]⟩
theorem Src.sub {s m : Nat} {xs : List Value} {K' : List Asrt} (hs : Src P h K s v m xs) (hk : ∀ A ∈ K, A ∈ K') : Src P h K' s v m xs := ⟨hs.len, hs.size, hs.one, fun w hw => hs.get w (hw.sub hk)⟩

def okD2 : TypeDesc → Bool | .slice _ => true | .string => true | _ => false

theorem zeroCells_len (z : Array Value) (m : Nat) : (Builtin.zeroCells z m).toList.length = m * z.size := by simp [Builtin.zeroCells]

theorem Sat.heap {w w' : World} (hs : Sat h K w) (e : w'.heap = w.heap) : Sat h K w' :=
 ⟨fun b o hb => by rw [e]; exact hs.imm b o hb, fun A hA => A.loc w w' (fun b _ => by rw [e]) (hs.own A hA)⟩

theorem run_append {e s bs m sLen cap : Nat} {a : Option Nat} {z : Value} {d2 : TypeDesc} {cs xs : List Value} {xv : Value} {w : World} (hu : P.underlying t = some (.slice e)) (hu2 : P.underlying t' = some d2) (hi2 : okD2 d2 = true)
  (hs : szOf P e = some s) (hz : zrOf P e = some z) (hzs : z.cells.size = s) (hb : byOf P e = some bs) (hx : Src P h R s xv m xs) (hmax : sLen + m ≤ 9223372036854775807) (hby : (sLen + m) * bs ≤ 140737488355328)
  (ok : Ok h (bufA e s a sLen cap cs :: R) w) :
  ∃ a' cap' w', (Builtin.append_ #[t, t'] ty #[bufV a sLen cap, xv]).run P w = .ok (bufV a' (sLen + m) cap') w' ∧ Ok h (bufA e s a' (sLen + m) cap' (cs ++ xs) :: R) w' := by
 obtain ⟨i, hi, hi1, hi2', hi3⟩ : ∃ i, P.info? e = some i ∧ i.size = s ∧ i.bytes = bs ∧ i.zero = some z := by
  unfold szOf at hs; unfold byOf at hb; unfold zrOf at hz
  cases hi : P.info? e with
  | none => simp [hi] at hs
  | some i => simp [hi] at hs hb hz; exact ⟨i, rfl, hs, hb, hz⟩
 have hsat : Sat h R w := ok.sat.sub fun A hA => List.mem_cons_of_mem _ hA
 -- what grows
 have grow : ∀ (olds : List Value), olds.length = sLen * s → olds = cs → ∃ a' cap' w', Result.ok (Value.slice (some ⟨w.drew.heap.size, 0, none⟩) (sLen + m) (grownCap w (sLen + m) cap e)) (w.drew.alloc (.cells (olds.toArray ++ xs.toArray ++ Builtin.zeroCells z.cells (grownCap w (sLen + m) cap e - (sLen + m))) e)) = .ok (bufV a' (sLen + m) cap') w' ∧
   Ok h (bufA e s a' (sLen + m) cap' (cs ++ xs) :: R) w' := by
  intro olds hol hoc
  subst hoc
  have hge := grownCap_ge w (sLen + m) cap e
  have hle := grownCap_le_maxLen w (sLen + m) cap e (by unfold maxLen; omega)
  refine ⟨some w.drew.heap.size, _, _, rfl, ?_⟩
  have okd : Ok h R w.drew := (ok.drop).drew rfl rfl rfl rfl
  have ok2 := okd.alloc (olds ++ xs ++ (Builtin.zeroCells z.cells (grownCap w (sLen + m) cap e - (sLen + m))).toList) e (0, 0)
  have harr : (olds ++ xs ++ (Builtin.zeroCells z.cells (grownCap w (sLen + m) cap e - (sLen + m))).toList).toArray = olds.toArray ++ xs.toArray ++ Builtin.zeroCells z.cells (grownCap w (sLen + m) cap e - (sLen + m)) := by
   apply Array.ext'; simp
  have hcells : (w.drew.alloc (.cells (olds.toArray ++ xs.toArray ++ Builtin.zeroCells z.cells (grownCap w (sLen + m) cap e - (sLen + m))) e)).heap[w.drew.heap.size]? = some (.cells ((olds ++ xs) ++ (Builtin.zeroCells z.cells (grownCap w (sLen + m) cap e - (sLen + m))).toList).toArray e (0, 0)) := by
   rw [harr]
   exact Array.getElem?_push_size
  rw [harr] at ok2
  refine ⟨ok2.os, ok2.tape, ok2.output, ⟨ok2.sat.imm, fun A hA => ?_⟩, ok2.nd, ok2.dj⟩
  rcases List.mem_cons.1 hA with rfl | hA'
  ·refine ⟨_, (0, 0), hcells, ?_, ?_, hge, hle, Free.zero _⟩
   ·rw [List.length_append, hol, hx.size, Nat.add_mul]
   ·rw [List.length_append, List.length_append, hol, hx.size, zeroCells_len, hzs, ← Nat.add_mul, ← Nat.add_mul]
    congr 1; omega
  ·exact ok2.sat.own A (List.mem_cons_of_mem _ hA')
 have hfs : ∀ w', w'.heap = w.heap → (Builtin.firstCells s m xv).run P w' = .ok xs.toArray w' := fun w' e => hx.get w' (hsat.heap e)
 have hown := ok.own_head
 cases d2 <;> simp only [okD2, Bool.false_eq_true] at hi2
 all_goals
  cases a with
  | none =>
   obtain ⟨rfl, rfl, rfl⟩ := hown
   by_cases hm : m = 0
   ·subst hm
    have hxs : xs = [] := List.eq_nil_of_length_eq_zero (by simpa using hx.size)
    subst hxs
    refine ⟨none, 0, w, ?_, ok⟩
    have := hfs w rfl
    simp only [Builtin.append_, bufV, Option.map_none, Sem.run_bind, List.getElem?_toArray, List.getElem?_cons_zero, List.getElem?_cons_succ, run_underlying hu, run_underlying hu2, Result.andThen_ok, run_sizeOf (P := P) (t := e) (s := s) (by simp [szOf, hi, hi1])]
    simp [hx.len, this]
   ·have h1 : ¬ ((m : Int) > IntKind.i64.max ∧ (False ∨ i.bytes = 0)) := by
     simp [IntKind.max, IntKind.signed, IntKind.bits]; omega
    obtain ⟨a', cap', w', e1, e2⟩ := grow [] (by simp) rfl
    refine ⟨a', cap', w', ?_, e2⟩
    rw [← e1]
    have hfit : ¬ 281474976710656 < Builtin.nextslicecap m 0 * i.bytes := by
     rw [nextslicecap_zero (by omega), hi2']; simp only [Nat.zero_add] at hby; omega
    have := hfs w.drew rfl
    have hmm : ¬ (9223372036854775807 < (m : Int) ∧ i.bytes = 0) := by omega
    simp only [Builtin.append_, bufV, Option.map_none, Sem.run_bind, List.getElem?_toArray, List.getElem?_cons_zero, List.getElem?_cons_succ, run_underlying hu, run_underlying hu2, Result.andThen_ok, run_sizeOf (P := P) (t := e) (s := s) (by simp [szOf, hi, hi1])]
    simp [hx.len, hm, hmm, typeInfo, hi, hfit, Question.forced, run_firstCells_none, this, zeroValue, hi3, newRow, grownCap, IntKind.max, IntKind.signed, IntKind.bits]
  | some b =>
   obtain ⟨sp, fz, hh, hcl, hsl, hmc, hcm, hfr⟩ := hown
   by_cases hroom : sLen + m ≤ cap
   ·have hspl : m * s ≤ sp.length := by
     have : (sLen + m) * s ≤ cap * s := Nat.mul_le_mul_right _ hroom
     rw [List.length_append, hcl] at hsl
     rw [Nat.add_mul] at this
     omega
    have hst : ∀ (vs : List Value) (i : Nat) (cur : List Value) (w0 : World), w0.heap[b]? = some (.cells cur.toArray e fz) → cur.length = cap * s → sLen * s + i + vs.length ≤ cur.length → (∀ u ∈ vs, oneCell u = true) → Ok h (blkF b e cur fz :: R) w0 →
      ∃ w1, (storeCells ⟨b, sLen * s, none⟩ vs i).run P w0 = .ok () w1 ∧ Ok h (blkF b e (cur.take (sLen * s + i) ++ vs ++ cur.drop (sLen * s + i + vs.length)) fz :: R) w1 := by
     intro vs
     induction vs with
     | nil => intro i cur w0 _ _ _ _ ok0; exact ⟨w0, by simp [storeCells], by simpa using ok0⟩
     | cons u r ih =>
      intro i cur w0 hw0 hcl0 hle h1 ok0
      simp only [List.length_cons] at hle
      have hst1 := run_store1 (P := P) hw0 (o := sLen * s + i) (by omega) (hfr _ (by omega)) u (h1 u (by simp))
      have ok1 := ok0.store (o := sLen * s + i) u
      obtain ⟨w1, hr1, hok1⟩ := ih (i + 1) (cur.set (sLen * s + i) u) (w0.setCell ⟨b, sLen * s + i, none⟩ u) ok1.own_head (by simpa using hcl0) (by simp; omega) (fun x hx => h1 x (List.mem_cons_of_mem _ hx)) ok1
      refine ⟨w1, ?_, ?_⟩
      ·simp only [storeCells, Sem.run_bind, add_none, hst1, Result.andThen_ok, hr1]
      ·have : (cur.set (sLen * s + i) u).take (sLen * s + (i + 1)) ++ r ++ (cur.set (sLen * s + i) u).drop (sLen * s + (i + 1) + r.length) = cur.take (sLen * s + i) ++ (u :: r) ++ cur.drop (sLen * s + i + (r.length + 1)) := by
        rw [List.drop_set_of_lt (by omega), show sLen * s + (i + 1) + r.length = sLen * s + i + (r.length + 1) from by omega]
        rw [show sLen * s + (i + 1) = sLen * s + i + 1 from by omega, List.take_succ_eq_append_getElem (by simp; omega), List.take_set_of_le (Nat.le_refl _)]
        simp
       rw [List.length_cons, ← this]; exact hok1
    have ok0 : Ok h (blkF b e (cs ++ sp) fz :: R) w := by
     refine ⟨ok.os, ok.tape, ok.output, ⟨ok.sat.imm, fun A hA => ?_⟩, ok.nd, ok.dj⟩
     rcases List.mem_cons.1 hA with rfl | hA'
     ·exact hh
     ·exact ok.sat.own A (List.mem_cons_of_mem _ hA')
    obtain ⟨w1, hr1, hok1⟩ := hst xs 0 (cs ++ sp) w hh hsl (by rw [List.length_append, hcl, hx.size]; omega) hx.one ok0
    have hlist : (cs ++ sp).take (sLen * s + 0) ++ xs ++ (cs ++ sp).drop (sLen * s + 0 + xs.length) = (cs ++ xs) ++ sp.drop (m * s) := by
     rw [Nat.add_zero, ← hcl, List.take_left, List.drop_append, List.drop_of_length_le (by omega), hx.size]
     simp
    rw [hlist] at hok1
    refine ⟨some b, cap, w1, ?_, ?_⟩
    ·have := hfs w rfl
     simp only [Builtin.append_, bufV, Option.map_some, Sem.run_bind, List.getElem?_toArray, List.getElem?_cons_zero, List.getElem?_cons_succ, run_underlying hu, run_underlying hu2, Result.andThen_ok, run_sizeOf (P := P) (t := e) (s := s) (by simp [szOf, hi, hi1])]
     simp [hx.len, hroom, this, add_none, hr1]
    ·refine ⟨hok1.os, hok1.tape, hok1.output, ⟨hok1.sat.imm, fun A hA => ?_⟩, hok1.nd, hok1.dj⟩
     rcases List.mem_cons.1 hA with rfl | hA'
     ·refine ⟨_, fz, hok1.own_head, ?_, ?_, hroom, hcm, hfr⟩
      ·rw [List.length_append, hcl, hx.size, Nat.add_mul]
      ·rw [List.length_append, List.length_append, List.length_drop, hx.size]
       rw [List.length_append] at hsl
       omega
     ·exact hok1.sat.own A (List.mem_cons_of_mem _ hA')
   ·obtain ⟨a', cap', w', e1, e2⟩ := grow cs hcl rfl
    refine ⟨a', cap', w', ?_, e2⟩
    rw [← e1]
    have hfit : ¬ 281474976710656 < Builtin.nextslicecap (sLen + m) cap * i.bytes := by
     have := growslice_fits (need := sLen + m) (old := cap) (bytes := i.bytes) (by omega) (by rw [hi2']; exact hby)
     omega
    have hold : (Builtin.firstCells s sLen (.slice (some ⟨b, 0, none⟩) sLen cap)).run P w.drew = .ok cs.toArray w.drew := by
     have hl : (loadCells ⟨b, 0, none⟩ cs.length).run P w.drew = .ok cs.toArray w.drew := run_loadCells_list w.drew _ _ fun j u hj => by
      rw [add_none, Nat.zero_add]
      have hjl : j < cs.length := (List.getElem?_eq_some_iff.1 hj).1
      have : w.drew.heap[b]? = some (.cells (cs ++ sp).toArray e fz) := hh
      simp only [World.cell?, this]
      simp [List.getElem?_append_left hjl, hj]
     rw [hcl] at hl
     simp [Builtin.firstCells, hl]
    have := hfs w.drew rfl
    have hmm : ¬ (9223372036854775807 < ((sLen + m : Nat) : Int) ∧ i.bytes = 0) := by omega
    have hmm' : ¬ (9223372036854775807 < (sLen : Int) + (m : Int) ∧ i.bytes = 0) := by omega
    simp only [Builtin.append_, bufV, Option.map_some, Sem.run_bind, List.getElem?_toArray, List.getElem?_cons_zero, List.getElem?_cons_succ, run_underlying hu, run_underlying hu2, Result.andThen_ok, run_sizeOf (P := P) (t := e) (s := s) (by simp [szOf, hi, hi1])]
    simp [hx.len, hroom, hmm', typeInfo, hi, hfit, Question.forced, hold, this, zeroValue, hi3, newRow, grownCap, IntKind.max, IntKind.signed, IntKind.bits]
    rw [← Array.append_assoc, show (cs ++ xs).toArray = cs.toArray ++ xs.toArray from by simp]

theorem l_append {t2 : TypeId} {e s bs m sLen cap : Nat} {a : Option Nat} {z : Value} {d2 : TypeDesc} {cs xs : List Value} {xv : Value} (hu : P.underlying t = some (.slice e)) (hu2 : P.underlying t2 = some d2) (hi2 : okD2 d2 = true)
  (hs : szOf P e = some s) (hz : zrOf P e = some z) (hzs : z.cells.size = s) (hb : byOf P e = some bs) (hx : lkO E x = some (bufV a sLen cap)) (hy : lkO E y = some xv) (hsrc : Src P h R s xv m xs)
  (hmax : sLen + m ≤ 9223372036854775807) (hby : (sLen + m) * bs ≤ 140737488355328) (hd : Nat.blt d n = true)
  (hk : ∀ a' cap', WL P n ops Q rest ((d, bufV a' (sLen + m) cap') :: E) h (bufA e s a' (sLen + m) cap' (cs ++ xs) :: R)) :
  WL P n ops Q (⟨some d, .call ⟨.builtin .append, #[x, y], #[t, t2]⟩, ty, ps, af, none⟩ :: rest) E h (bufA e s a sLen cap cs :: R) :=
 ⟨fun ac w fa ok => wpList_plain rfl fun K hK => by
  obtain ⟨a', cap', w', e1, e2⟩ := run_append (ty := ty) hu hu2 hi2 hs hz hzs hb hsrc hmax hby ok
  unfold Oper.wp
  have : (execOp ac.eval ⟨some d, .call ⟨.builtin .append, #[x, y], #[t, t2]⟩, ty, ps, af, none⟩).run P w = .ok (.value (bufV a' (sLen + m) cap')) w' := by
   rw [show (#[x, y] : Array Operand) = [x, y].toArray from rfl, run_builtin (vals := [bufV a sLen cap, xv]) fa (by simp [evArgs, hx, hy])]
   simp only [builtin, Sem.run_bind, e1, Result.andThen_ok, Sem.run_pure]
  rw [this, Oper.upon_value]
  exact hK _ _ ((hk a' cap').run _ _ (fa.put _ hd) e2)⟩

theorem oc_buf {c : Code} {T s : Nat} {a : Option Nat} {m cap : Nat} {cs : List Value} (h0 : a = none → m = 0 → cap = 0 → cs = [] → WC P n c Q E h R)
  (h1 : ∀ b sp fz, a = some b → cs.length = m * s → (cs ++ sp).length = cap * s → m ≤ cap → cap ≤ maxLen → Free fz (cap * s) → WC P n c Q E h (blkF b T (cs ++ sp) fz :: R)) : WC P n c Q E h (bufA T s a m cap cs :: R) :=
 ⟨fun ac w fa ok => by
  have hown := ok.own_head
  cases a with
  | none =>
   obtain ⟨e1, e2, e3⟩ := hown
   exact (h0 rfl e1 e2 e3).run _ _ fa ok.drop
  | some b =>
   obtain ⟨sp, fz, g1, g2, g3, g4, g5, g6⟩ := hown
   refine (h1 b sp fz rfl g2 g3 g4 g5 g6).run _ _ fa ⟨ok.os, ok.tape, ok.output, ⟨ok.sat.imm, fun A hA => ?_⟩, ok.nd, ok.dj⟩
   rcases List.mem_cons.1 hA with rfl | hA'
   ·exact g1
   ·exact ok.sat.own A (List.mem_cons_of_mem _ hA')⟩
theorem Ok.shut {T s b : Nat} {m cap : Nat} {cs sp : List Value} {fz : Nat × Nat} {w : World} (ok : Ok h (blkF b T (cs ++ sp) fz :: R) w) (g2 : cs.length = m * s) (g3 : (cs ++ sp).length = cap * s) (g4 : m ≤ cap) (g5 : cap ≤ maxLen) (g6 : Free fz (cap * s)) :
  Ok h (bufA T s (some b) m cap cs :: R) w := by
 refine ⟨ok.os, ok.tape, ok.output, ⟨ok.sat.imm, fun A hA => ?_⟩, ok.nd, ok.dj⟩
 rcases List.mem_cons.1 hA with rfl | hA'
 ·exact ⟨sp, fz, ok.own_head, g2, g3, g4, g5, g6⟩
 ·exact ok.sat.own A (List.mem_cons_of_mem _ hA')
theorem WL.shut {l : List Oper} {T s b : Nat} {m cap : Nat} {cs sp : List Value} {fz : Nat × Nat} (g2 : cs.length = m * s) (g3 : (cs ++ sp).length = cap * s) (g4 : m ≤ cap) (g5 : cap ≤ maxLen) (g6 : Free fz (cap * s))
  (hk : WL P n ops Q l E h (bufA T s (some b) m cap cs :: R)) : WL P n ops Q l E h (blkF b T (cs ++ sp) fz :: R) := ⟨fun a w fa ok => hk.run a w fa (ok.shut g2 g3 g4 g5 g6)⟩
theorem AT.shut {q : Exit} {T s b : Nat} {m cap : Nat} {cs sp : List Value} {fz : Nat × Nat} (g2 : cs.length = m * s) (g3 : (cs ++ sp).length = cap * s) (g4 : m ≤ cap) (g5 : cap ≤ maxLen) (g6 : Free fz (cap * s))
  (hk : AT P n Q q E h (bufA T s (some b) m cap cs :: R)) : AT P n Q q E h (blkF b T (cs ++ sp) fz :: R) := ⟨fun a w fa ok => hk.run a w fa (ok.shut g2 g3 g4 g5 g6)⟩
theorem Ok.bufOf {T s b m : Nat} {cs : List Value} {w : World} (ok : Ok h (blk b T cs :: R) w) (g2 : cs.length = m * s) (g5 : m ≤ maxLen) : Ok h (bufA T s (some b) m m cs :: R) w := by
 have : Ok h (blkF b T (cs ++ []) (0, 0) :: R) w := by rw [List.append_nil]; exact ok
 exact this.shut g2 (by rw [List.append_nil]; exact g2) (Nat.le_refl _) g5 (Free.zero _)
theorem WL.bufOf {l : List Oper} {T s b m : Nat} {cs : List Value} (g2 : cs.length = m * s) (g5 : m ≤ maxLen) (hk : WL P n ops Q l E h (bufA T s (some b) m m cs :: R)) : WL P n ops Q l E h (blk b T cs :: R) := ⟨fun a w fa ok => hk.run a w fa (ok.bufOf g2 g5)⟩
theorem Ok.nilBuf {T s : Nat} {w : World} (ok : Ok h R w) : Ok h (bufA T s none 0 0 [] :: R) w := by
 refine ⟨ok.os, ok.tape, ok.output, ⟨ok.sat.imm, fun A hA => ?_⟩, ok.nd, ok.dj⟩
 rcases List.mem_cons.1 hA with rfl | hA'
 ·exact ⟨rfl, rfl, rfl⟩
 ·exact ok.sat.own A hA'
theorem WL.nilBuf {l : List Oper} (T s : Nat) (hk : WL P n ops Q l E h (bufA T s none 0 0 [] :: R)) : WL P n ops Q l E h R := ⟨fun a w fa ok => hk.run a w fa ok.nilBuf⟩
theorem AT.nilBuf {q : Exit} (T s : Nat) (hk : AT P n Q q E h (bufA T s none 0 0 [] :: R)) : AT P n Q q E h R := ⟨fun a w fa ok => hk.run a w fa ok.nilBuf⟩
theorem WC.nilBuf {c : Code} (T s : Nat) (hk : WC P n c Q E h (bufA T s none 0 0 [] :: R)) : WC P n c Q E h R := ⟨fun a w fa ok => hk.run a w fa ok.nilBuf⟩

/-! ### Bytes and strings -/
theorem Cels.append {b o : Nat} : ∀ {l1 l2 : List Value}, Cels h K b o (l1 ++ l2) ↔ Cels h K b o l1 ∧ Cels h K b (o + l1.length) l2
 | [], l2 => by simp [Cels]
 | x :: r, l2 => by
  have := Cels.append (b := b) (o := o + 1) (l1 := r) (l2 := l2)
  simp only [List.cons_append, Cels, this, List.length_cons, and_assoc]
  rw [show o + 1 + r.length = o + (r.length + 1) from by omega]
theorem cels_of {b : Nat} : ∀ {l : List Value} {o : Nat}, (∀ j u, l[j]? = some u → Cel h K b (o + j) u) → Cels h K b o l
 | [], _, _ => trivial
 | x :: r, o, hc => ⟨by simpa using hc 0 x (by simp), cels_of (b := b) fun j u hj => by
  have := hc (j + 1) u (by simpa using hj)
  rwa [show o + (j + 1) = o + 1 + j from by omega] at this⟩
theorem cels_own {b o : Nat} {T : TypeId} {pre cs post : List Value} {fz : Nat × Nat} (i : Nat) (hi : K[i]? = some (blkF b T (pre ++ cs ++ post) fz)) (ho : pre.length = o) : Cels h K b o cs :=
 cels_of (o := o) fun j u hj => cel_own i hi (by
  have hlt : j < cs.length := (List.getElem?_eq_some_iff.1 hj).1
  rw [List.append_assoc, List.getElem?_append_right (by omega), List.getElem?_append_left (by omega)]
  rw [← ho, Nat.add_sub_cancel_left]; exact hj)
theorem p_toText {e : TypeId} {b o ca : Nat} {l : List UInt8} (hu : P.underlying t = some (.slice e)) (he : P.underlying e = some (.int .u8)) (hu2 : P.underlying t' = some .string) (hx : lkO E x = some (.slice (some ⟨b, o, none⟩) l.length ca))
  (hc : Cels h K b o (l.map u8)) : Pu P n E h K ⟨dst, .convert t t' x, ty, ps, af, g⟩ (.string ⟨l.toArray⟩) :=
 ⟨fun a w fa hs => by
  have := run_convert_bytes_back w t t' e ⟨b, o, none⟩ ca l hu he hu2 (fun j hj => by
   rw [add_none]
   have := (hc.get j (u8 l[j]) (by simp [List.getElem?_map, List.getElem?_eq_getElem hj])).run w hs
   rw [this]; rfl)
  simp [execOp, fa.eval hx, this]⟩
theorem p_toText0 {e : TypeId} {ao : Option Addr} {ca : Nat} (hu : P.underlying t = some (.slice e)) (he : P.underlying e = some (.int .u8)) (hu2 : P.underlying t' = some .string) (hx : lkO E x = some (.slice ao 0 ca)) :
  Pu P n E h K ⟨dst, .convert t t' x, ty, ps, af, g⟩ (.string ⟨#[]⟩) :=
 ⟨fun a w fa hs => by
  cases ao with
  | none => simp [execOp, fa.eval hx, convert, run_underlying hu, run_underlying he, run_underlying hu2, Conv.bytesToString]; rfl
  | some ad =>
   simp [execOp, fa.eval hx, convert, run_underlying hu, run_underlying he, run_underlying hu2, Conv.bytesToString, loadCells, loadCellsFrom]; rfl⟩
theorem p_toTextB {e : TypeId} {a : Option Nat} {m ca : Nat} {l : List UInt8} (i : Nat) (hi : K[i]? = some (bufA e 1 a m ca (l.map u8))) (hu : P.underlying t = some (.slice e)) (he : P.underlying e = some (.int .u8)) (hu2 : P.underlying t' = some .string) (hx : lkO E x = some (bufV a m ca)) :
  Pu P n E h K ⟨dst, .convert t t' x, ty, ps, af, g⟩ (.string ⟨l.toArray⟩) :=
 ⟨fun ac w fa hs => by
  have hown := hs.own _ (List.mem_of_getElem? hi)
  cases a with
  | none =>
   obtain ⟨e1, e2, e3⟩ := hown
   have : l = [] := by simpa using e3
   subst e1 e2 this
   have := (p_toText0 (h := h) (K := K) (E := E) (n := n) (dst := dst) (ty := ty) (ps := ps) (af := af) (g := g) hu he hu2 hx).run ac w fa hs
   exact this
  | some b =>
   obtain ⟨sp, fz, g1, g2, _⟩ := hown
   have hm : m = l.length := by simpa using g2.symm
   subst hm
   have := run_convert_bytes_back w t t' e ⟨b, 0, none⟩ ca l hu he hu2 (fun j hj => by
    rw [add_none, Nat.zero_add]
    simp only [World.cell?, g1]
    simp [List.getElem?_append_left (show j < (l.map u8).length by simpa using hj), List.getElem?_eq_getElem hj, u8])
   have hx' : lkO E x = some (.slice (some ⟨b, 0, none⟩) l.length ca) := hx
   simp [execOp, fa.eval hx', this]⟩
theorem l_toBytes {e : TypeId} {s : ByteArray} (hu : P.underlying t = some .string) (hu2 : P.underlying t' = some (.slice e)) (he : P.underlying e = some (.int .u8)) (hx : lkO E x = some (.string s)) (hsz : s.size ≤ maxLen) (hd : Nat.blt d n = true)
  (hk : ∀ B cap, WL P n ops Q rest ((d, bufV (some B) s.size cap) :: E) h (bufA e 1 (some B) s.size cap (s.data.toList.map u8) :: H)) :
  WL P n ops Q (⟨some d, .convert t t' x, ty, ps, af, none⟩ :: rest) E h H :=
 ⟨fun a w fa ok => wpList_plain rfl fun K hK => by
  unfold Oper.wp
  have hr := run_bytes_of_string w t t' e s hu hu2 he
  have : (execOp a.eval ⟨some d, .convert t t' x, ty, ps, af, none⟩).run P w = .ok (.value (bufV (some w.heap.size) s.size (grownCap w s.size 0 e))) (w.drew.alloc (.cells (bytesRow s (grownCap w s.size 0 e)) e ((bytesRow s (grownCap w s.size 0 e)).size, (bytesRow s (grownCap w s.size 0 e)).size + 1))) := by
   simp [execOp, fa.eval hx, hr, bufV]
  rw [this, Oper.upon_value]
  refine hK _ _ ((hk w.heap.size (grownCap w s.size 0 e)).run _ _ (fa.put _ hd) ?_)
  have hge := grownCap_ge w s.size 0 e
  have hle := grownCap_le_maxLen w s.size 0 e hsz
  have okd : Ok h H w.drew := ok.drew rfl rfl rfl rfl
  have hbr : bytesRow s (grownCap w s.size 0 e) = (s.data.toList.map u8 ++ List.replicate (grownCap w s.size 0 e - s.size) (Value.int .u8 0)).toArray := by
   apply Array.ext'; simp [bytesRow, u8]
  have hsz2 : (bytesRow s (grownCap w s.size 0 e)).size = grownCap w s.size 0 e := by simp [bytesRow]; omega
  rw [hsz2, hbr]
  have ok2 := okd.alloc (s.data.toList.map u8 ++ List.replicate (grownCap w s.size 0 e - s.size) (Value.int .u8 0)) e (grownCap w s.size 0 e, grownCap w s.size 0 e + 1)
  exact Ok.shut (b := w.heap.size) ok2 (by simp) (by simp; omega) hge hle (by rw [Nat.mul_one]; exact Free.past _ _)⟩

theorem src_one {b o c : Nat} {u : Value} (hc : Cel h K b o u) (h1 : oneCell u = true) : Src P h K 1 (.slice (some ⟨b, o, none⟩) 1 c) 1 [u] :=
 src_cells ⟨hc, trivial⟩ rfl fun x hx => by simp at hx; subst hx; exact h1
theorem src_buf {s m c : Nat} {a : Option Nat} {T : TypeId} {cs : List Value} (i : Nat) (hi : K[i]? = some (bufA T s a m c cs)) (h1 : ∀ u ∈ cs, oneCell u = true) (hl : cs.length = m * s) : Src P h K s (bufV a m c) m cs :=
 ⟨fun w => by simp [Builtin.lenOf, bufV], hl, h1, fun w hs => by
  have hown := hs.own _ (List.mem_of_getElem? hi)
  cases a with
  | none =>
   obtain ⟨e1, e2, e3⟩ := hown
   subst e1 e2 e3
   simp [bufV, Builtin.firstCells]
  | some b =>
   obtain ⟨sp, fz, g1, g2, _⟩ := hown
   have hl2 : (loadCells ⟨b, 0, none⟩ cs.length).run P w = .ok cs.toArray w := run_loadCells_list w _ _ fun j u hj => by
    rw [add_none, Nat.zero_add]
    have hjl : j < cs.length := (List.getElem?_eq_some_iff.1 hj).1
    simp only [World.cell?, g1]
    simp [List.getElem?_append_left hjl, hj]
   rw [hl] at hl2
   simp [bufV, Builtin.firstCells, hl2]⟩
theorem l_append_at {t2 : TypeId} {e s bs m sLen cap : Nat} {a : Option Nat} {z : Value} {d2 : TypeDesc} {cs xs : List Value} {xv : Value} (i : Nat) (hi : H[i]? = some (bufA e s a sLen cap cs)) (hu : P.underlying t = some (.slice e)) (hu2 : P.underlying t2 = some d2) (hi2 : okD2 d2 = true)
  (hs : szOf P e = some s) (hz : zrOf P e = some z) (hzs : z.cells.size = s) (hb : byOf P e = some bs) (hx : lkO E x = some (bufV a sLen cap)) (hy : lkO E y = some xv) (hsrc : Src P h (H.eraseIdx i) s xv m xs)
  (hmax : sLen + m ≤ 9223372036854775807) (hby : (sLen + m) * bs ≤ 140737488355328) (hd : Nat.blt d n = true)
  (hk : ∀ a' cap', WL P n ops Q rest ((d, bufV a' (sLen + m) cap') :: E) h (H.set i (bufA e s a' (sLen + m) cap' (cs ++ xs)))) :
  WL P n ops Q (⟨some d, .call ⟨.builtin .append, #[x, y], #[t, t2]⟩, ty, ps, af, none⟩ :: rest) E h H := by
 refine WL.perm (at_perm hi) (l_append hu hu2 hi2 hs hz hzs hb hx hy hsrc hmax hby hd fun a' cap' => ?_)
 refine WL.perm ?_ (hk a' cap')
 have hlt : i < H.length := by
  rcases Nat.lt_or_ge i H.length with h' | h'
  ·exact h'
  ·rw [List.getElem?_eq_none h'] at hi; cases hi
 have := at_perm (l := H.set i (bufA e s a' (sLen + m) cap' (cs ++ xs))) (i := i) (A := bufA e s a' (sLen + m) cap' (cs ++ xs)) (by rw [List.getElem?_set_self hlt])
 rw [List.eraseIdx_set_eq] at this
 exact this.symm
end
end Go.K

/-! K5: a region that draws its order: one walk along a schedule serves every order. What only computes, and loads that nothing before a closing operation can disturb, are taken first; what is left stands in one order. Generic over the program. Conditions: none. -/
namespace Go.K

inductive Sch where
 | nil
 | pu (i : Nat) (σ : Sch)
 | st (i : Nat) (σ : Sch)
 | on (i : Nat) (σ : Sch)
 | cl (i : Nat) (σ : Sch)
 | alt (i : Nat) (σ ρ : Sch)
def Sch.depth : Sch → Nat
 | .nil => 0
 | .pu _ σ | .st _ σ | .on _ σ | .cl _ σ => σ.depth + 1
 | .alt _ σ ρ => max (σ.depth + 1) ρ.depth

def waits (ops : Array Oper) (c i : Nat) : Bool := match ops[c]? with
 | some o => o.after.any fun e => Region.binds .any e && Nat.beq e.on i
 | none => false

def okSched (ops : Array Oper) (cls : List Nat) : Sch → List Nat → Array Bool → Bool → Bool
 | .nil, X, L, _ => X.isEmpty && (Region.ready .any ops L).isEmpty
 | .pu i σ, X, L, closed => X.isEmpty && (Region.free .any ops L i && (Region.ready .any ops L).contains i && !cls.contains i && okSched ops cls σ [] (L.setIfInBounds i true) closed)
 | .st i σ, X, L, closed => X.isEmpty && (!closed && Region.free .any ops L i && (Region.ready .any ops L).contains i && cls.all (fun c => waits ops c i) && !cls.contains i && okSched ops cls σ [] (L.setIfInBounds i true) closed)
 | .on i σ, X, L, closed => !closed && (Region.ready .any ops L == X ++ [i]) && !cls.contains i && okSched ops cls σ [] (L.setIfInBounds i true) closed
 | .cl i σ, X, L, closed => X.isEmpty && ((Region.ready .any ops L == [i]) && cls.contains i && okSched ops cls σ [] (L.setIfInBounds i true) true)
 | .alt i σ ρ, X, L, closed => !closed && !cls.contains i && okSched ops cls σ [] (L.setIfInBounds i true) closed && okSched ops cls ρ (X ++ [i]) L closed

section
variable {P : Program} {ops : Array Oper} {Q : Exit → Act → World → Prop}

def wpAnyC (P : Program) (ops : Array Oper) (Q : Exit → Act → World → Prop) (S : World → Prop) (cls : List Nat) : Nat → Array Bool → Act → World → Prop
 | 0, L, a, w => Region.ready .any ops L = [] ∧ Q .normal a w
 | fuel + 1, L, a, w =>
  (Region.ready .any ops L = [] → Q .normal a w) ∧
  ∀ i ∈ Region.ready .any ops L, wpOp P ops Q i (fun a' w' => ((∀ c ∈ cls, (L.setIfInBounds i true).getD c false = false) → S w') ∧ wpAnyC P ops Q S cls fuel (L.setIfInBounds i true) a' w') a w

theorem wpAny_of_C {S : World → Prop} {cls : List Nat} : ∀ (fuel : Nat) (L : Array Bool) (a : Act) (w : World), wpAnyC P ops Q S cls fuel L a w → wpAny P .any ops Q fuel L a w
 | 0, _, _, _, h => h
 | fuel + 1, _, _, _, h => ⟨h.1, fun i hi => wpOp_mono (fun a' w' h' => wpAny_of_C fuel _ a' w' h'.2) (h.2 i hi)⟩

theorem getD_of_ready {L : Array Bool} {i : Nat} (h : L.getD i true = false) : L.getD i false = false := by
 rcases Nat.lt_or_ge i L.size with h' | h'
 ·simpa [Array.getD, h'] using h
 ·simp [Array.getD, Nat.not_lt.2 h'] at h
theorem getD_set_ne' {L : Array Bool} {i j : Nat} (h : i ≠ j) : (L.setIfInBounds i true).getD j false = L.getD j false := getD_set_ne false h

theorem not_ready_of_waits {c i : Nat} {L : Array Bool} (hw : waits ops c i = true) (hi : L.getD i true = false) (hc : c ∈ Region.ready .any ops L) : False := by
 obtain ⟨_, o, ho, hall⟩ := mem_ready.1 hc
 unfold waits at hw
 simp only [ho] at hw
 obtain ⟨e, he, hb⟩ := Array.any_eq_true'.1 hw
 simp only [Bool.and_eq_true] at hb
 have h1 := hall e he hb.1
 have h2 : e.on = i := Nat.eq_of_beq_eq_true hb.2
 rw [h2, getD_of_ready hi] at h1
 cases h1

theorem wpAnyC_first {S T : World → Prop} {cls : List Nat} {i : Nat} {oi : Oper} {v : Value} (hi : ops[i]? = some oi) (hsel : ∀ (j : Nat) (o : Oper) cs b, ops[j]? = some o → o.op ≠ .select cs b) (hQ : NoPanic Q) (hic : i ∉ cls) :
  ∀ (fuel : Nat) (L : Array Bool) (a : Act) (w : World),
   (∀ j oj, ops[j]? = some oj → j ≠ i → L.getD j true = false → (∀ e ∈ oj.after, Region.binds .any e = true → e.on ≠ i) → oi.apart ops oj = true) →
   i ∈ Region.ready .any ops L → YieldsIf P ops T oi v a →
   ((∀ w, T w) ∨ ((∀ w, S w → T w) ∧ (∀ c ∈ cls, waits ops c i = true) ∧ ∀ c ∈ cls, L.getD c false = false)) →
   ((∀ c ∈ cls, L.getD c false = false) → S w) →
   wpAnyC P ops Q S cls fuel (L.setIfInBounds i true) (a.put oi.dst v) w → wpAnyC P ops Q S cls (fuel + 1) L a w := by
 have down : ∀ (L : Array Bool) (i : Nat), (∀ c ∈ cls, (L.setIfInBounds i true).getD c false = false) → ∀ c ∈ cls, L.getD c false = false := fun L i hc c hm => by
  by_cases e : i = c
  ·subst e
   have := hc i hm
   rcases Nat.lt_or_ge i L.size with h' | h'
   ·simp [Array.getD, h'] at this
   ·simp [Array.getD, Nat.not_lt.2 h']
  ·have := hc c hm; rwa [getD_set_ne' e] at this
 have tw : ∀ {L : Array Bool} {w : World}, ((∀ w, T w) ∨ ((∀ w, S w → T w) ∧ (∀ c ∈ cls, waits ops c i = true) ∧ ∀ c ∈ cls, L.getD c false = false)) → ((∀ c ∈ cls, L.getD c false = false) → S w) → T w := fun hm hS => by
  rcases hm with hT | ⟨h1, _, h4⟩
  ·exact hT _
  ·exact h1 _ (hS h4)
 intro fuel
 induction fuel with
 | zero =>
  intro L a w _ hr hy hm hS H
  refine ⟨fun h => (by rw [h] at hr; cases hr), fun j hj => ?_⟩
  by_cases hji : j = i
  ·subst hji
   exact hy.wpOp hi (tw hm hS) ⟨fun hc => hS (down _ _ hc), H⟩
  ·have := ready_mono hj hji
   rw [H.1] at this
   cases this
 | succ fuel ih =>
  intro L a w hfree hr hy hm hS H
  refine ⟨fun h => (by rw [h] at hr; cases hr), fun j hj => ?_⟩
  by_cases hji : j = i
  ·subst hji
   exact hy.wpOp hi (tw hm hS) ⟨fun hc => hS (down _ _ hc), H⟩
  ·have h1 := H.2 j (ready_mono hj hji)
   obtain ⟨hjun, oj, hoj, hall⟩ := mem_ready.1 hj
   have hiun := (mem_ready.1 hr).1
   have hnot : ∀ e ∈ oj.after, Region.binds .any e = true → e.on ≠ i := fun e he hb heq => by
    have h1 := hall e he hb
    rw [heq, getD_of_ready hiun] at h1
    cases h1
   have h2 := wpOp_putIf hoj (hfree j oj hoj hji hjun hnot) (fun cs b => hsel i oi cs b hi) (fun cs b => hsel j oj cs b hoj) (fun c a w hq => hQ c a w _ _ hq) hy h1
   have hfree' : ∀ k ok, ops[k]? = some ok → k ≠ i → (L.setIfInBounds j true).getD k true = false →
     (∀ e ∈ ok.after, Region.binds .any e = true → e.on ≠ i) → oi.apart ops ok = true := fun k ok hk hki hun hno => by
    refine hfree k ok hk hki ?_ hno
    by_cases hjk : j = k
    ·subst hjk; exact hjun
    ·rw [getD_set_ne true hjk] at hun; exact hun
   have hm' : (∀ w, T w) ∨ ((∀ w, S w → T w) ∧ (∀ c ∈ cls, waits ops c i = true) ∧ ∀ c ∈ cls, (L.setIfInBounds j true).getD c false = false) := by
    rcases hm with hT | ⟨g1, g2, g4⟩
    ·exact .inl hT
    ·refine   .inr ⟨g1, g2, fun c hc => ?_⟩
     have hjc : j ≠ c := fun e => by
      subst e
      exact not_ready_of_waits (g2 j hc) hiun hj
     rw [getD_set_ne' hjc]; exact g4 c hc
   refine wpOp_mono (fun a' w' h3 => ?_) h2
   obtain ⟨hy', hS', H'⟩ := h3
   have hS1 : (∀ c ∈ cls, (L.setIfInBounds j true).getD c false = false) → S w' := fun hc => by
    refine hS' fun c hcm => ?_
    rw [Array.setIfInBounds_comm _ _ (Ne.symm hji)]
    rw [getD_set_ne' (fun e : i = c => hic (by rw [e]; exact hcm))]
    exact hc c hcm
   refine ⟨hS1, ih (L.setIfInBounds j true) a' w' hfree' (ready_mono hr (Ne.symm hji)) hy' hm' hS1 ?_⟩
   rw [Array.setIfInBounds_comm _ _ hji]
   exact H'

def wpS (P : Program) (ops : Array Oper) (Q : Exit → Act → World → Prop) : Sch → (World → Prop) → Act → World → Prop
 | .nil, _, a, w => Q .normal a w
 | .pu i σ, S, a, w => ∃ o v, ops[i]? = some o ∧ YieldsIf P ops (fun _ => True) o v a ∧ wpS P ops Q σ S (a.put o.dst v) w
 | .st i σ, S, a, w => ∃ o v, ops[i]? = some o ∧ YieldsIf P ops S o v a ∧ wpS P ops Q σ S (a.put o.dst v) w
 | .on i σ, S, a, w => wpOp P ops Q i (fun a' w' => ∃ S' : World → Prop, (∀ w, S' w → S w) ∧ S' w' ∧ wpS P ops Q σ S' a' w') a w
 | .cl i σ, S, a, w => wpOp P ops Q i (fun a' w' => wpS P ops Q σ S a' w') a w
 | .alt i σ ρ, S, a, w => wpOp P ops Q i (fun a' w' => ∃ S' : World → Prop, (∀ w, S' w → S w) ∧ S' w' ∧ wpS P ops Q σ S' a' w') a w ∧ wpS P ops Q ρ S a w

theorem wpAnyC_mono {S S' : World → Prop} {cls : List Nat} (hm : ∀ w, S' w → S w) : ∀ (fuel : Nat) (L : Array Bool) (a : Act) (w : World), wpAnyC P ops Q S' cls fuel L a w → wpAnyC P ops Q S cls fuel L a w
 | 0, _, _, _, h => h
 | fuel + 1, _, _, _, h => ⟨h.1, fun i hi => wpOp_mono (fun a' w' h' => ⟨fun hc => hm _ (h'.1 hc), wpAnyC_mono hm fuel _ a' w' h'.2⟩) (h.2 i hi)⟩

theorem wpAnyC_done {S : World → Prop} {cls : List Nat} {L : Array Bool} {a : Act} {w : World} (hr : Region.ready .any ops L = []) (h : Q .normal a w) : ∀ fuel, wpAnyC P ops Q S cls fuel L a w
 | 0 => ⟨hr, h⟩
 | _ + 1 => ⟨fun _ => h, by rw [hr]; simp⟩

theorem okSched_ready {cls : List Nat} : ∀ (σ : Sch) (X : List Nat) (L : Array Bool) (closed : Bool), okSched ops cls σ X L closed = true → X ≠ [] → ∃ k, k ∈ Region.ready .any ops L
 | .nil, X, L, closed, h, hX => by simp only [okSched, Bool.and_eq_true] at h; exact absurd (by simpa using h.1) hX
 | .pu i σ, X, L, closed, h, hX => by simp only [okSched, Bool.and_eq_true] at h; exact absurd (by simpa using h.1) hX
 | .st i σ, X, L, closed, h, hX => by simp only [okSched, Bool.and_eq_true] at h; exact absurd (by simpa using h.1) hX
 | .cl i σ, X, L, closed, h, hX => by simp only [okSched, Bool.and_eq_true] at h; exact absurd (by simpa using h.1) hX
 | .on i σ, X, L, closed, h, hX => by
  simp only [okSched, Bool.and_eq_true] at h
  have hr : Region.ready .any ops L = X ++ [i] := by simpa using h.1.1.2
  exact ⟨i, by rw [hr]; simp⟩
 | .alt i σ ρ, X, L, closed, h, hX => by
  simp only [okSched, Bool.and_eq_true] at h
  exact okSched_ready ρ _ _ _ h.2 (by simp)
def restG (P : Program) (ops : Array Oper) (Q : Exit → Act → World → Prop) (S : World → Prop) (cls : List Nat) (f : Nat) (X : List Nat) (L : Array Bool) (a : Act) (w : World) : Prop :=
 ∀ j ∈ Region.ready .any ops L, j ∉ X → wpOp P ops Q j (fun a' w' => ((∀ c ∈ cls, (L.setIfInBounds j true).getD c false = false) → S w') ∧ wpAnyC P ops Q S cls f (L.setIfInBounds j true) a' w') a w
theorem rest_any {S : World → Prop} {cls : List Nat} {f : Nat} {i : Nat} {L : Array Bool} {a : Act} {w : World} (hi : i ∈ Region.ready .any ops L) (h : restG P ops Q S cls f [] L a w) : wpAnyC P ops Q S cls (f + 1) L a w :=
 ⟨fun e => (by rw [e] at hi; cases hi), fun j hj => h j hj (by simp)⟩

theorem wpS_sound {cls : List Nat} (hs : Region.noSelect ops = true) (hQ : NoPanic Q) (hcls : cls.all (fun c => Nat.blt c ops.size) = true) : ∀ (σ : Sch) (X : List Nat) (S : World → Prop) (f : Nat) (L : Array Bool) (closed : Bool) (a : Act) (w : World),
  σ.depth ≤ f → L.size = ops.size → okSched ops cls σ X L closed = true → (closed = false → S w ∧ ∀ c ∈ cls, L.getD c false = false) → (closed = true → ∃ c ∈ cls, L.getD c false = true) → wpS P ops Q σ S a w →
  (X = [] → wpAnyC P ops Q S cls f L a w) ∧ (∀ g, f = g + 1 → X ≠ [] → restG P ops Q S cls g X L a w)
 | .nil, X, S, f, L, closed, a, w, hf, hL, hB, _, _, h => by
  simp only [okSched, Bool.and_eq_true] at hB
  obtain ⟨hX, hB⟩ := hB
  have hX : X = [] := by simpa using hX
  exact ⟨fun _ => wpAnyC_done (by simpa using hB) h _, fun _ _ e => absurd hX e⟩
 | .pu i σ, X, S, f, L, closed, a, w, hf, hL, hB, hc, hc', h => by
  simp only [okSched, Bool.and_eq_true] at hB
  obtain ⟨hX, ⟨⟨h1, h2⟩, h3⟩, h4⟩ := hB
  have hX : X = [] := by simpa using hX
  refine ⟨fun _ => ?_, fun _ _ e => absurd hX e⟩
  obtain ⟨o, v, ho, hy, hk⟩ := h
  have hic : i ∉ cls := by simpa using h3
  simp only [Sch.depth] at hf
  obtain ⟨f, rfl⟩ : ∃ g, f = g + 1 := ⟨f - 1, by omega⟩
  refine wpAnyC_first (T := fun _ => True) ho (Region.noSelect_spec hs) hQ hic _ L a w (Region.free_spec ho h1) (by simpa using h2) hy (.inl fun _ => trivial) (fun hcl => ?_)
   ((wpS_sound hs hQ hcls σ [] S f _ closed _ _ (by omega) (by simpa using hL) h4 (fun e => ⟨(hc e).1, fun c hcm => ?_⟩) (fun e => ?_) hk).1 rfl)
  ·cases closed with
   | false => exact (hc rfl).1
   | true => obtain ⟨c, hcm, hct⟩ := hc' rfl; rw [hcl c hcm] at hct; cases hct
  ·rw [getD_set_ne' (fun e' : i = c => hic (by rw [e']; exact hcm))]; exact (hc e).2 c hcm
  ·obtain ⟨c, hcm, hct⟩ := hc' e
   exact ⟨c, hcm, by rw [getD_set_ne' (fun e' : i = c => hic (by rw [e']; exact hcm))]; exact hct⟩
 | .st i σ, X, S, f, L, closed, a, w, hf, hL, hB, hc, hc', h => by
  simp only [okSched, Bool.and_eq_true] at hB
  obtain ⟨hX, ⟨⟨⟨⟨h0, h1⟩, h2⟩, h5⟩, h3⟩, h4⟩ := hB
  have hX : X = [] := by simpa using hX
  refine ⟨fun _ => ?_, fun _ _ e => absurd hX e⟩
  obtain ⟨o, v, ho, hy, hk⟩ := h
  have hic : i ∉ cls := by simpa using h3
  have hcl0 : closed = false := by simpa using h0
  simp only [Sch.depth] at hf
  obtain ⟨f, rfl⟩ : ∃ g, f = g + 1 := ⟨f - 1, by omega⟩
  refine wpAnyC_first (T := S) ho (Region.noSelect_spec hs) hQ hic _ L a w (Region.free_spec ho h1) (by simpa using h2) hy (.inr ⟨fun _ h => h, fun c hcm => by simpa using List.all_eq_true.1 h5 c hcm, (hc hcl0).2⟩) (fun _ => (hc hcl0).1)
   ((wpS_sound hs hQ hcls σ [] S f _ closed _ _ (by omega) (by simpa using hL) h4 (fun e => ⟨(hc e).1, fun c hcm => ?_⟩) (fun e => by rw [hcl0] at e; cases e) hk).1 rfl)
  rw [getD_set_ne' (fun e' : i = c => hic (by rw [e']; exact hcm))]; exact (hc e).2 c hcm
 | .on i σ, X, S, f, L, closed, a, w, hf, hL, hB, hc, hc', h => by
  simp only [okSched, Bool.and_eq_true] at hB
  obtain ⟨⟨⟨h0, h1⟩, h3⟩, h4⟩ := hB
  have hic : i ∉ cls := by simpa using h3
  have hcl0 : closed = false := by simpa using h0
  have hr : Region.ready .any ops L = X ++ [i] := by simpa using h1
  simp only [Sch.depth] at hf
  obtain ⟨f, rfl⟩ : ∃ g, f = g + 1 := ⟨f - 1, by omega⟩
  have G : restG P ops Q S cls f X L a w := fun j hj hjX => by
   rw [hr] at hj
   have hji : j = i := by
    rcases List.mem_append.1 hj with e | e
    ·exact absurd e hjX
    ·exact List.mem_singleton.1 e
   subst hji
   refine wpOp_mono (fun a' w' ⟨S', hsub, hS', hk⟩ => ⟨fun _ => hsub _ hS', wpAnyC_mono hsub _ _ _ _ ((wpS_sound hs hQ hcls σ [] S' f _ closed _ _ (by omega) (by simpa using hL) h4 (fun e => ⟨hS', fun c hcm => ?_⟩) (fun e => by rw [hcl0] at e; cases e) hk).1 rfl)⟩) h
   rw [getD_set_ne' (fun e' : j = c => hic (by rw [e']; exact hcm))]; exact (hc e).2 c hcm
  refine ⟨fun e => rest_any (i := i) (by rw [hr]; simp) (by rw [e] at G; exact G), fun g e _ => ?_⟩
  obtain rfl : f = g := by omega
  exact G
 | .cl i σ, X, S, f, L, closed, a, w, hf, hL, hB, hc, hc', h => by
  simp only [okSched, Bool.and_eq_true] at hB
  obtain ⟨hX, ⟨h1, h3⟩, h4⟩ := hB
  have hX : X = [] := by simpa using hX
  refine ⟨fun _ => ?_, fun _ _ e => absurd hX e⟩
  have hic : i ∈ cls := by simpa using h3
  have hr : Region.ready .any ops L = [i] := by simpa using h1
  have hlt : i < L.size := by
   have := List.all_eq_true.1 hcls i hic
   rw [hL]; simpa [Nat.blt_eq] using this
  have hset : (L.setIfInBounds i true).getD i false = true := by simp [Array.getD, hlt]
  simp only [Sch.depth] at hf
  obtain ⟨f, rfl⟩ : ∃ g, f = g + 1 := ⟨f - 1, by omega⟩
  refine ⟨fun e => (by rw [hr] at e; cases e), fun j hj => ?_⟩
  rw [hr] at hj
  have hji : j = i := by simpa using hj
  subst hji
  exact wpOp_mono (fun a' w' hk => ⟨fun hcl => absurd (hcl j hic) (by rw [hset]; simp), (wpS_sound hs hQ hcls σ [] S f _ true _ _ (by omega) (by simpa using hL) h4 (fun e => by cases e) (fun _ => ⟨j, hic, hset⟩) hk).1 rfl⟩) h
 | .alt i σ ρ, X, S, f, L, closed, a, w, hf, hL, hB, hc, hc', h => by
  simp only [okSched, Bool.and_eq_true] at hB
  obtain ⟨⟨⟨h0, h3⟩, h4⟩, h5⟩ := hB
  have hic : i ∉ cls := by simpa using h3
  have hcl0 : closed = false := by simpa using h0
  simp only [Sch.depth] at hf
  obtain ⟨f, rfl⟩ : ∃ g, f = g + 1 := ⟨f - 1, by omega⟩
  have R := (wpS_sound hs hQ hcls ρ (X ++ [i]) S (f + 1) L closed a w (by omega) hL h5 hc hc' h.2).2 f rfl (by simp)
  have G : restG P ops Q S cls f X L a w := fun j hj hjX => by
   by_cases hji : j = i
   ·subst hji
    refine wpOp_mono (fun a' w' ⟨S', hsub, hS', hk⟩ => ⟨fun _ => hsub _ hS', wpAnyC_mono hsub _ _ _ _ ((wpS_sound hs hQ hcls σ [] S' f _ closed _ _ (by omega) (by simpa using hL) h4 (fun e => ⟨hS', fun c hcm => ?_⟩) (fun e => by rw [hcl0] at e; cases e) hk).1 rfl)⟩) h.1
    rw [getD_set_ne' (fun e' : j = c => hic (by rw [e']; exact hcm))]; exact (hc e).2 c hcm
   ·exact R j hj (by simp [hjX, hji])
  have hne : ∃ k, k ∈ Region.ready .any ops L := okSched_ready ρ _ _ _ h5 (by simp)
  obtain ⟨k, hk⟩ := hne
  refine ⟨fun e => rest_any (i := k) hk (by rw [e] at G; exact G), fun g e _ => ?_⟩
  obtain rfl : f = g := by omega
  exact G

def schedOk (ops : Array Oper) (cls : List Nat) (σ : Sch) : Bool :=
 Region.noSelect ops && cls.all (fun c => Nat.blt c ops.size) && Nat.ble σ.depth ops.size && okSched ops cls σ [] (Array.replicate ops.size false) false

structure Suf (K H : List Asrt) : Prop where
 sub : ∀ A ∈ K, A ∈ H
theorem suf_refl (K : List Asrt) : Suf K K := ⟨fun _ h => h⟩
theorem suf_cons {K H : List Asrt} {A : Asrt} (h : Suf K H) : Suf K (A :: H) := ⟨fun B hB => List.mem_cons_of_mem _ (h.sub B hB)⟩
theorem suf_nil {H : List Asrt} : Suf [] H := ⟨fun _ h => by cases h⟩
structure WS (P : Program) (n : NN) (ops : Array Oper) (Q : Exit → Act → World → Prop) (h0 : Base) (K : List Asrt) (σ : Sch) (E : Env) (h : Base) (H : List Asrt) : Prop where
 run : ∀ a w, Fr n E a → Ok h H w → wpS P ops Q σ (Sat h0 K) a w

variable {n : NN} {E : Env} {h h0 : Base} {H K : List Asrt} {l : List Oper}

theorem sat_of {w : World} (ok : Ok h H w) (hle : h0.le h) (hs : Suf K H) : Sat h0 K w := ⟨fun b o hb => ok.sat.imm b o (hle.mem b o hb), fun A hA => ok.sat.own A (hs.sub A hA)⟩

theorem c_draw {id : Nat} (K : List Asrt) (cls : List Nat) (σ : Sch) (hm : P.follows .mixedOrders = true) (hQ : NoPanic Q) (hok : schedOk l.toArray cls σ = true) (hs : Suf K H) (hx : WS P n l.toArray Q h K σ E h H) :
  WC P n (.region id l.toArray true) Q E h H :=
 ⟨fun a w fa ok => by
  simp only [schedOk, Bool.and_eq_true] at hok
  obtain ⟨⟨⟨h1, h2⟩, h3⟩, h4⟩ := hok
  refine wp_region_any hm (wpAny_of_C (S := Sat h K) (cls := cls) _ _ _ _ ?_)
  have ok' : Ok h H { w with drawn := w.drawn + 1 } := ok.drew rfl rfl rfl rfl
  have hL := Nat.le_of_ble_eq_true h3
  have := (wpS_sound (P := P) (Q := Q) (cls := cls) h1 hQ h2 σ [] (Sat h K) l.toArray.size (Array.replicate l.toArray.size false) false a _ hL (by simp) h4
   (fun _ => ⟨sat_of ok' (Base.le.refl h) hs, fun c _ => by simp [Array.getD]⟩) (fun e => by cases e) (hx.run a _ fa ok')).1 rfl
  exact this⟩
theorem d_nil (hx : AT P n Q .normal E h H) : WS P n ops Q h0 K .nil E h H := ⟨fun a w fa ok => hx.run a w fa ok⟩

variable {σ : Sch} {i d : Nat} {op : Op} {ty : TypeId} {ps : String} {af : Array Edge} {v : Value}
theorem d_pu (ho : ops[i]? = some ⟨some d, op, ty, ps, af, none⟩) (hp : ∀ hh KK, Pu P n E hh KK ⟨some d, op, ty, ps, af, none⟩ v) (hd : Nat.blt d n = true) (hk : WS P n ops Q h0 K σ ((d, v) :: E) h H) : WS P n ops Q h0 K (.pu i σ) E h H :=
 ⟨fun a w fa ok => ⟨_, v, ho, .inl ⟨by simp [Region.wanted], fun w' _ => (hp { os := w'.os, tape := w'.tape, output := w'.output, mem := fun _ => none } []).run a w' fa ⟨fun b o hb => (by cases hb), fun A hA => (by cases hA)⟩⟩, hk.run _ _ (fa.put v hd) ok⟩⟩
theorem d_puG {j s : Nat} {want : Bool} (ho : ops[i]? = some ⟨some d, op, ty, ps, af, some (j, want)⟩) (hj : dstOf ops j = some s) (hl : lk E s = some (.bool want)) (hp : ∀ hh KK, Pu P n E hh KK ⟨some d, op, ty, ps, af, some (j, want)⟩ v) (hd : Nat.blt d n = true) (hk : WS P n ops Q h0 K σ ((d, v) :: E) h H) : WS P n ops Q h0 K (.pu i σ) E h H :=
 ⟨fun a w fa ok => ⟨_, v, ho, .inl ⟨by simp [Region.wanted, yielded_of fa hj hl], fun w' _ => (hp { os := w'.os, tape := w'.tape, output := w'.output, mem := fun _ => none } []).run a w' fa ⟨fun b o hb => (by cases hb), fun A hA => (by cases hA)⟩⟩, hk.run _ _ (fa.put v hd) ok⟩⟩
theorem d_skip {j s : Nat} {want : Bool} (ho : ops[i]? = some ⟨some d, op, ty, ps, af, some (j, want)⟩) (hj : dstOf ops j = some s) (hl : lk E s = some (.bool (!want))) (hd : Nat.blt d n = true) (hk : WS P n ops Q h0 K σ ((d, undef) :: E) h H) : WS P n ops Q h0 K (.pu i σ) E h H :=
 ⟨fun a w fa ok => ⟨_, undef, ho, .inr ⟨by simp [Region.wanted, yielded_of fa hj hl], rfl⟩, hk.run _ _ (fa.put undef hd) ok⟩⟩
theorem d_skipS {j s : Nat} {want : Bool} (ho : ops[i]? = some ⟨some d, op, ty, ps, af, some (j, want)⟩) (hj : dstOf ops j = some s) (hl : lk E s = some (.bool (!want))) (hd : Nat.blt d n = true) (hk : WS P n ops Q h0 K σ ((d, undef) :: E) h H) : WS P n ops Q h0 K (.st i σ) E h H :=
 ⟨fun a w fa ok => ⟨_, undef, ho, .inr ⟨by simp [Region.wanted, yielded_of fa hj hl], rfl⟩, hk.run _ _ (fa.put undef hd) ok⟩⟩
theorem d_st (ho : ops[i]? = some ⟨some d, op, ty, ps, af, none⟩) (hp : Pu P n E h0 K ⟨some d, op, ty, ps, af, none⟩ v) (hd : Nat.blt d n = true) (hk : WS P n ops Q h0 K σ ((d, v) :: E) h H) : WS P n ops Q h0 K (.st i σ) E h H :=
 ⟨fun a w fa ok => ⟨_, v, ho, .inl ⟨by simp [Region.wanted], fun w' hw' => hp.run a w' fa hw'⟩, hk.run _ _ (fa.put v hd) ok⟩⟩
theorem d_stG {j s : Nat} {want : Bool} (ho : ops[i]? = some ⟨some d, op, ty, ps, af, some (j, want)⟩) (hj : dstOf ops j = some s) (hl : lk E s = some (.bool want)) (hp : Pu P n E h0 K ⟨some d, op, ty, ps, af, some (j, want)⟩ v) (hd : Nat.blt d n = true) (hk : WS P n ops Q h0 K σ ((d, v) :: E) h H) : WS P n ops Q h0 K (.st i σ) E h H :=
 ⟨fun a w fa ok => ⟨_, v, ho, .inl ⟨by simp [Region.wanted, yielded_of fa hj hl], fun w' hw' => hp.run a w' fa hw'⟩, hk.run _ _ (fa.put v hd) ok⟩⟩

theorem wpOp_of_list {o : Oper} {K : Act → World → Prop} {a : Act} {w : World} (ho : ops[i]? = some o) (h : wpList P ops (Exit.then K Q) [o] a w) : wpOp P ops Q i K a w := by
 unfold wpOp
 simp only [ho]
 unfold wpList at h
 split
 ·rename_i hw
  rw [if_pos hw] at h
  rcases h with h | ⟨h1, h2⟩
  ·refine .inl ?_
   unfold Oper.wp at *
   generalize (execOp a.eval o).run P w = r at *
   cases r with
   | ok nx w' => cases nx <;> simp only [Oper.upon] at h ⊢ <;> first | exact h | exact Calls.mono h (fun e w'' he => by cases e <;> exact he) | exact Rows.mono h (fun _ _ he => he)
   | halt x w' => cases x <;> simp only [Oper.upon] at h ⊢ <;> exact h
  ·exact .inr ⟨h1, h2⟩
 ·rename_i hw
  rw [if_neg hw] at h
  exact h
abbrev OnK (P : Program) (n : NN) (ops : Array Oper) (Q : Exit → Act → World → Prop) (h0 : Base) (K : List Asrt) (σ : Sch) (KK : Act → World → Prop) : Prop :=
 ∀ E' h' H' h1 K1, h0.le h1 → Suf K K1 → h1.le h' → Suf K1 H' → WS P n ops Q h1 K1 σ E' h' H' → ∀ a w, Fr n E' a → Ok h' H' w → KK a w
theorem d_on {o : Oper} (ho : ops[i]? = some o) (hk : ∀ KK : Act → World → Prop, OnK P n ops Q h0 K σ KK → WL P n ops (Exit.then KK Q) [o] E h H) : WS P n ops Q h0 K (.on i σ) E h H :=
 ⟨fun a w fa ok => wpOp_of_list ho ((hk _ fun E' h' H' h1 K1 g1 g2 hle hs hx a' w' fa' ok' => ⟨Sat h1 K1, fun u hu => ⟨fun b o hb => hu.imm b o (g1.mem b o hb), fun A hA => hu.own A (g2.sub A hA)⟩, sat_of ok' hle hs, hx.run a' w' fa' ok'⟩).run a w fa ok)⟩
theorem d_cl {o : Oper} (ho : ops[i]? = some o) (hk : ∀ KK : Act → World → Prop, (∀ E' h' H', WS P n ops Q h0 K σ E' h' H' → ∀ a w, Fr n E' a → Ok h' H' w → KK a w) → WL P n ops (Exit.then KK Q) [o] E h H) : WS P n ops Q h0 K (.cl i σ) E h H :=
 ⟨fun a w fa ok => wpOp_of_list ho ((hk _ fun E' h' H' hx a' w' fa' ok' => hx.run a' w' fa' ok').run a w fa ok)⟩
theorem d_onE {KK : Act → World → Prop} (hK : OnK P n ops Q h0 K σ KK) (hle : h0.le h) (hs : Suf K H) (hx : WS P n ops Q h0 K σ E h H) : AT P n (Exit.then KK Q) .normal E h H :=
 ⟨fun a w fa ok => hK E h H h0 K (Base.le.refl _) (suf_refl _) hle hs hx a w fa ok⟩
theorem d_clE {KK : Act → World → Prop} (hK : ∀ E' h' H', WS P n ops Q h0 K σ E' h' H' → ∀ a w, Fr n E' a → Ok h' H' w → KK a w) (hx : WS P n ops Q h0 K σ E h H) : AT P n (Exit.then KK Q) .normal E h H :=
 ⟨fun a w fa ok => hK E h H hx a w fa ok⟩
theorem d_split {s : Nat} {b : Bool} (hl : lk E s = some (.bool b)) (ht : b = true → WS P n ops Q h0 K σ ((s, .bool true) :: E) h H) (hf : b = false → WS P n ops Q h0 K σ ((s, .bool false) :: E) h H) : WS P n ops Q h0 K σ E h H := by
 cases b with
 | true => exact ⟨fun a w fa ok => (ht rfl).run a w (fa.sub (Sub.cons hl (Sub.refl E))) ok⟩
 | false => exact ⟨fun a w fa ok => (hf rfl).run a w (fa.sub (Sub.cons hl (Sub.refl E))) ok⟩
theorem d_splitD {s : Nat} {p : Prop} [Decidable p] (hl : lk E s = some (.bool (decide p))) (ht : p → WS P n ops Q h0 K σ ((s, .bool true) :: E) h H) (hf : ¬ p → WS P n ops Q h0 K σ ((s, .bool false) :: E) h H) : WS P n ops Q h0 K σ E h H :=
 d_split hl (fun e => ht (of_decide_eq_true e)) (fun e => hf (of_decide_eq_false e))
theorem d_alt {ρ : Sch} (h1 : WS P n ops Q h0 K (.on i σ) E h H) (h2 : WS P n ops Q h0 K ρ E h H) : WS P n ops Q h0 K (.alt i σ ρ) E h H := ⟨fun a w fa ok => ⟨h1.run a w fa ok, h2.run a w fa ok⟩⟩
def Jn {β : Type} (n : NN) (Ej : β → Env) (hj : β → Base) (Hj : β → List Asrt) : Exit → Act → World → Prop := fun e a w => e = .normal ∧ ∃ b, Fr n (Ej b) a ∧ Ok (hj b) (Hj b) w
theorem joined {β : Type} {Ej : β → Env} {hj : β → Base} {Hj : β → List Asrt} (b : β) (hE : Sub E (Ej b)) (hB : hj b = h) (hH : Hj b = H) : AT P n (Jn n Ej hj Hj) .normal E h H := ⟨fun a w fa ok => ⟨rfl, b, fa.sub hE, by rw [hB, hH]; exact ok⟩⟩
theorem c_drawJ {β : Type} {id : Nat} {h : Base} {H : List Asrt} {E : Env} {K : List Asrt} {l : List Oper} {Ej : β → Env} {hj : β → Base} {Hj : β → List Asrt} (cls : List Nat) (σ : Sch) (hm : P.follows .mixedOrders = true) (hok : schedOk l.toArray cls σ = true) (hs : Suf K H)
  (hx : WS P n l.toArray (Jn n Ej hj Hj) h K σ E h H) (hk : ∀ b, AT P n Q .normal (Ej b) (hj b) (Hj b)) : WC P n (.region id l.toArray true) Q E h H :=
 ⟨fun a w fa ok => Code.wp_mono (fun e a' w' ⟨he, b, fb, ob⟩ => by subst he; exact (hk b).run a' w' fb ob) ((c_draw K cls σ hm (fun c a w _ _ e => by cases e.1) hok hs hx).run a w fa ok)⟩
end
end Go.K

/-! K6: numbers: wraps that do nothing, bytes of a number. Generic over the program. Conditions: none. -/
namespace Go.K

theorem wr_i64 {a : Int} (h1 : -9223372036854775808 ≤ a) (h2 : a ≤ 9223372036854775807) : IntKind.i64.wrap a = a := by
 simp only [IntKind.wrap, IntKind.bits, IntKind.signed, Nat.reduceSub, Int.reducePow, Bool.true_and, decide_eq_true_eq, ge_iff_le]; split <;> omega
theorem wr_u64 {a : Int} (h1 : 0 ≤ a) (h2 : a ≤ 18446744073709551615) : IntKind.u64.wrap a = a := by
 simp [IntKind.wrap, IntKind.bits, IntKind.signed]; omega
theorem wr_u32 {a : Int} (h1 : 0 ≤ a) (h2 : a ≤ 4294967295) : IntKind.u32.wrap a = a := by
 simp [IntKind.wrap, IntKind.bits, IntKind.signed]; omega
theorem wr_u16 {a : Int} (h1 : 0 ≤ a) (h2 : a ≤ 65535) : IntKind.u16.wrap a = a := by
 simp [IntKind.wrap, IntKind.bits, IntKind.signed]; omega
theorem wr_u8 {a : Int} (h1 : 0 ≤ a) (h2 : a ≤ 255) : IntKind.u8.wrap a = a := by
 simp [IntKind.wrap, IntKind.bits, IntKind.signed]; omega
theorem wu8 (a : Int) : IntKind.u8.wrap a = a % 256 := by simp [IntKind.wrap, IntKind.bits, IntKind.signed]
theorem wu32 (a : Int) : IntKind.u32.wrap a = a % 4294967296 := by simp [IntKind.wrap, IntKind.bits, IntKind.signed]
theorem wu64 (a : Int) : IntKind.u64.wrap a = a % 18446744073709551616 := by simp [IntKind.wrap, IntKind.bits, IntKind.signed]
theorem quo_i64 {a b : Int} (h1 : 0 ≤ a) (h2 : 0 < b) (h3 : a ≤ 9223372036854775807) : IntKind.i64.wrap (a.tdiv b) = a / b := by
 rw [Int.tdiv_eq_ediv_of_nonneg h1]
 have := Int.ediv_nonneg h1 (Int.le_of_lt h2)
 have := Int.ediv_le_self b h1
 exact wr_i64 (by omega) (by omega)
theorem rem_nn {a b : Int} (h1 : 0 ≤ a) : a.tmod b = a % b := Int.tmod_eq_emod_of_nonneg h1

def lebs (x : Nat) : Nat → List UInt8
 | 0 => []
 | m + 1 => UInt8.ofNat (x % 256) :: lebs (x / 256) m
theorem lebs_length (m : Nat) : ∀ x, (lebs x m).length = m := by
 induction m with
 | zero => intro x; rfl
 | succ m ih => intro x; simp [lebs, ih]
theorem lebs_snoc (m : Nat) : ∀ x, lebs x (m + 1) = lebs x m ++ [UInt8.ofNat (x / 256 ^ m % 256)] := by
 induction m with
 | zero => intro x; simp [lebs]
 | succ m ih =>
  intro x
  rw [lebs, ih, lebs, List.cons_append, Nat.div_div_eq_div_mul]
  rw [show 256 * 256 ^ m = 256 ^ (m + 1) from by rw [Nat.pow_succ, Nat.mul_comm]]
theorem u8_ofNat (x : Nat) : u8 (UInt8.ofNat (x % 256)) = .int .u8 ((x % 256 : Nat) : Int) := by
 simp [u8]
theorem byte_shift (x m : Nat) (hm : m < 8) : (x : Int).fdiv (2 ^ (min ((8 * (m : Int)).toNat) 64)) = ((x / 256 ^ m : Nat) : Int) := by
 have h1 : min ((8 * (m : Int)).toNat) 64 = 8 * m := by omega
 rw [h1, Int.fdiv_eq_ediv_of_nonneg _ (Int.pow_nonneg (by omega))]
 rw [show (2 : Int) ^ (8 * m) = ((256 ^ m : Nat) : Int) from by rw [Int.pow_mul]; simp]
 rfl

theorem byte_val (x m : Nat) (hm : m < 8) : Value.int .u8 (IntKind.u8.wrap ((x : Int).fdiv (2 ^ (min ((8 * (m : Int)).toNat) IntKind.u64.bits)))) = u8 (UInt8.ofNat (x / 256 ^ m % 256)) := by
 rw [u8_ofNat, wu8]
 have := byte_shift x m hm
 rw [show IntKind.u64.bits = 64 from rfl, this]
 simp

/-! Counted numbers -/
def cuF : Nat → Nat → List UInt8
 | 0, x => [UInt8.ofNat x]
 | f + 1, x => if x < 128 then [UInt8.ofNat x] else UInt8.ofNat (x % 128 + 128) :: cuF f (x / 128)
def cu (x : Nat) : List UInt8 := cuF 9 x
theorem cuF_stable : ∀ (f x : Nat), x < 128 ^ (f + 1) → cuF f x = cuF (f + 1) x
 | 0, x, h => by simp at h; simp [cuF, h]
 | f + 1, x, h => by
  rw [cuF, cuF]
  by_cases hx : x < 128
  ·simp [hx]
  ·rw [if_neg hx, if_neg hx, cuF_stable f (x / 128) (by rw [Nat.pow_succ] at h; exact Nat.div_lt_of_lt_mul (by rw [Nat.mul_comm]; exact h))]
theorem cu_lt {x : Nat} (h : x < 128) : cu x = [UInt8.ofNat x] := by simp [cu, cuF, h]
theorem cu_ge {x : Nat} (h : ¬ x < 128) (h2 : x < 18446744073709551616) : cu x = UInt8.ofNat (x % 128 + 128) :: cu (x / 128) := by
 rw [cu, cuF, if_neg h, cu, cuF_stable 8 (x / 128) (by
  have : x / 128 < 144115188075855872 := Nat.div_lt_of_lt_mul (by omega)
  exact Nat.lt_of_lt_of_le this (by decide))]
theorem cuF_len : ∀ (f x : Nat), 1 ≤ (cuF f x).length ∧ (cuF f x).length ≤ f + 1
 | 0, x => by simp [cuF]
 | f + 1, x => by
  rw [cuF]
  split
  ·simp
  ·have := cuF_len f (x / 128)
   simp; omega
theorem cu_len (x : Nat) : 1 ≤ (cu x).length ∧ (cu x).length ≤ 10 := cuF_len 9 x
theorem or128 (x : Nat) : bits .or .u8 (IntKind.u8.wrap (x : Int)) 128 = ((x % 128 + 128 : Nat) : Int) := by
 rw [wu8]
 have h : ((x : Int) % 256) = ((x % 256 : Nat) : Int) := by simp
 rw [h, show (128 : Int) = ((128 : Nat) : Int) from rfl, u8_or_nat _ _ (Nat.mod_lt _ (by omega)) (by omega)]
 congr 1
 have h1 : x % 256 ||| 128 = (x % 256 % 128) ||| 128 := by
  apply Nat.eq_of_testBit_eq
  intro i
  rw [Nat.testBit_or, Nat.testBit_or, show (128 : Nat) = 2 ^ 7 from rfl, Nat.testBit_two_pow, Nat.testBit_mod_two_pow]
  by_cases h7 : 7 = i
  ·simp [h7]
  ·by_cases hlt : i < 7
   ·simp [hlt]
   ·have : (x % 256).testBit i = false := by
     rw [show (256 : Nat) = 2 ^ 8 from rfl, Nat.testBit_mod_two_pow]
     simp; omega
    simp [this]
 rw [h1, Nat.mod_mod_of_dvd _ (by decide : 128 ∣ 256), nat_or_add]
where
 nat_or_add : x % 128 ||| 128 = x % 128 + 128 := by
  have := nat_join 7 128 (x % 128) (by decide) (Nat.mod_lt _ (by decide))
  rw [Nat.or_comm, this, Nat.add_comm]
theorem shr7 (x : Nat) : (x : Int).fdiv (2 ^ (min (7 : Int).toNat IntKind.u64.bits)) = ((x / 128 : Nat) : Int) := by
 rw [Int.fdiv_eq_ediv_of_nonneg _ (by decide)]
 rfl
end Go.K

/-! K7: slices of bytes in the base: values that read as lists of bytes; steps whose value is known by a property alone. Generic over the program. Conditions: none. -/
namespace Go.K

section
variable {P : Program} {n : NN} {Q : Exit → Act → World → Prop} {E : Env} {h h' h0 : Base} {H K : List Asrt} {ops : Array Oper} {rest : List Oper}
variable {op : Op} {t t' ty : TypeId} {ps : String} {af : Array Edge} {d i : Nat} {v : Value} {x y : Operand} {dst : Option Nat} {g : Option (Nat × Bool)} {σ : Sch}

theorem s_pureE {R : Value → Prop} (hp : ∃ v, Pu P n E h H ⟨some d, op, t, ps, af, none⟩ v ∧ R v) (hd : Nat.blt d n = true) (hk : ∀ v, R v → WL P n ops Q rest ((d, v) :: E) h H) : WL P n ops Q (⟨some d, op, t, ps, af, none⟩ :: rest) E h H := by
 obtain ⟨v, hv, hr⟩ := hp
 exact s_pure hv hd (hk v hr)
theorem d_stE {R : Value → Prop} (ho : ops[i]? = some ⟨some d, op, t, ps, af, none⟩) (hp : ∃ v, Pu P n E h0 K ⟨some d, op, t, ps, af, none⟩ v ∧ R v) (hd : Nat.blt d n = true) (hk : ∀ v, R v → WS P n ops Q h0 K σ ((d, v) :: E) h H) : WS P n ops Q h0 K (.st i σ) E h H := by
 obtain ⟨v, hv, hr⟩ := hp
 exact d_st ho hv hd (hk v hr)

theorem d_stGE {j s : Nat} {want : Bool} {R : Value → Prop} (ho : ops[i]? = some ⟨some d, op, t, ps, af, some (j, want)⟩) (hj : dstOf ops j = some s) (hl : lk E s = some (.bool want)) (hp : ∃ v, Pu P n E h0 K ⟨some d, op, t, ps, af, some (j, want)⟩ v ∧ R v) (hd : Nat.blt d n = true) (hk : ∀ v, R v → WS P n ops Q h0 K σ ((d, v) :: E) h H) : WS P n ops Q h0 K (.st i σ) E h H := by
 obtain ⟨v, hv, hr⟩ := hp
 exact d_stG ho hj hl hv hd (hk v hr)

theorem Cel.up {b o : Nat} (hc : Cel h [] b o v) : Cel h K b o v := hc.sub fun _ hA => by cases hA
theorem Cel.le {b o : Nat} (hc : Cel h K b o v) (hle : h.le h') : Cel h' K b o v := ⟨fun w hw => hc.run w ⟨fun b o hb => hw.imm b o (hle.mem b o hb), hw.own⟩⟩
theorem Cels.up {b : Nat} : ∀ {l : List Value} {o : Nat}, Cels h [] b o l → Cels h K b o l
 | [], _, _ => trivial
 | _ :: _, _, hc => ⟨hc.1.up, Cels.up hc.2⟩
theorem Cels.le {b : Nat} (hle : h.le h') : ∀ {l : List Value} {o : Nat}, Cels h K b o l → Cels h' K b o l
 | [], _, _ => trivial
 | _ :: _, _, hc => ⟨hc.1.le hle, Cels.le hle hc.2⟩
theorem Cels.drop {b o : Nat} {l : List Value} (k : Nat) (hk : k ≤ l.length) (hc : Cels h K b o l) : Cels h K b (o + k) (l.drop k) := by
 have : l = l.take k ++ l.drop k := (List.take_append_drop k l).symm
 rw [this] at hc
 have := (Cels.append.1 hc).2
 rwa [List.length_take, Nat.min_eq_left hk] at this
theorem Cels.take {b o : Nat} {l : List Value} (k : Nat) (hc : Cels h K b o l) : Cels h K b o (l.take k) := by
 have : l = l.take k ++ l.drop k := (List.take_append_drop k l).symm
 rw [this] at hc
 exact (Cels.append.1 hc).1

def BV (h : Base) (v : Value) (l : List UInt8) : Prop :=
 (∃ ao c, v = .slice ao 0 c ∧ l = []) ∨ ∃ b o c, v = .slice (some ⟨b, o, none⟩) l.length c ∧ l.length ≤ c ∧ Cels h [] b o (l.map u8)
theorem BV.nil : BV h (.slice none 0 0) [] := .inl ⟨_, _, rfl, rfl⟩
theorem BV.le {l : List UInt8} (hb : BV h v l) (hle : h.le h') : BV h' v l := hb.imp id fun ⟨b, o, c, e, hc, hcs⟩ => ⟨b, o, c, e, hc, Cels.le hle hcs⟩
theorem BV.len {l : List UInt8} (hb : BV h v l) : ∃ ao c, v = .slice ao l.length c := by
 rcases hb with ⟨ao, c, rfl, rfl⟩ | ⟨b, o, c, rfl, _⟩
 ·exact ⟨_, _, rfl⟩
 ·exact ⟨_, _, rfl⟩
theorem BV.src {l : List UInt8} (hb : BV h v l) : Src P h K 1 v l.length (l.map u8) := by
 rcases hb with ⟨ao, c, rfl, rfl⟩ | ⟨b, o, c, rfl, _, hc⟩
 ·exact src_empty
 ·exact src_cells hc.up (by simp) (by simp [u8_one])
theorem p_lenB {e : TypeId} {l : List UInt8} (hb : BV h v l) (hu : P.underlying t = some (.slice e)) (hx : lkO E x = some v) : Pu P n E h K ⟨dst, .call ⟨.builtin .len, #[x], #[t]⟩, ty, ps, af, g⟩ (.int .i64 l.length) := by
 obtain ⟨ao, c, rfl⟩ := hb.len
 exact p_lenS hu hx
theorem p_sliceZ {e : TypeId} {s ca : Nat} {ao : Option Addr} {lo hi : Option Operand} {k1 k2 : IntKind} (hu : P.underlying t = some (.slice e)) (hs : szOf P e = some s) (hx : lkO E x = some (.slice ao 0 ca))
  (hlo : match lo with | none => True | some z => lkO E z = some (.int k1 0)) (hhi : match hi with | none => True | some z => lkO E z = some (.int k2 0)) :
  ∃ ao', Pu P n E h K ⟨dst, .slice t x lo hi none, ty, ps, af, g⟩ (.slice ao' 0 ca) :=
 ⟨if ca = 0 then ao else Option.map (fun x => x.add (0 * s)) ao, ⟨fun a w fa _ => by
  have hb : ∀ (k : IntKind) (y : Nat) (c : BoundsCode), (Instr.sliceBound (.int k 0) y c).run P w = .ok 0 w := fun k y c => by simp [Instr.sliceBound, asIntOf]
  have key : (Instr.sliceBounds true 0 ca (lo.map a.eval) (hi.map a.eval) none).run P w = .ok (0, 0, ca) w := by
   cases lo with
   | none => cases hi with
    | none => simp [Instr.sliceBounds]
    | some zh => simp [Instr.sliceBounds, fa.eval hhi, hb]
   | some zl => cases hi with
    | none => simp [Instr.sliceBounds, fa.eval hlo, hb]
    | some zh => simp [Instr.sliceBounds, fa.eval hhi, fa.eval hlo, hb]
  simp only [execOp, fa.eval hx, Instr.sliceAt, Option.map_none, Sem.run_bind, run_underlying hu, Result.andThen_ok, Instr.slice, key, run_sizeOf hs, Sem.run_pure, Nat.sub_zero, Nat.sub_self]⟩⟩
theorem p_sliceB {e : TypeId} {l : List UInt8} {lo hi : Option Operand} {k1 k2 : IntKind} {p q : Nat} (hb : BV h v l) (hu : P.underlying t = some (.slice e)) (hs : szOf P e = some 1) (hx : lkO E x = some v)
  (hlo : match lo with | none => p = 0 | some z => ∃ i : Int, lkO E z = some (.int k1 i) ∧ i = p) (hhi : match hi with | none => q = l.length | some z => ∃ i : Int, lkO E z = some (.int k2 i) ∧ i = q) (h1 : p ≤ q) (h2 : q ≤ l.length) :
  ∃ v', Pu P n E h K ⟨dst, .slice t x lo hi none, ty, ps, af, g⟩ v' ∧ BV h v' ((l.take q).drop p) := by
 rcases hb with ⟨ao, ca, rfl, rfl⟩ | ⟨b, o, c, rfl, hc, hcs⟩
 ·have e2 : q = 0 := by simpa using h2
  have e1 : p = 0 := by omega
  subst e1 e2
  obtain ⟨ao', hz⟩ := p_sliceZ (P := P) (n := n) (h := h) (K := K) (t := t) (ty := ty) (ps := ps) (af := af) (g := g) (dst := dst) (E := E) (x := x) (lo := lo) (hi := hi) (k1 := k1) (k2 := k2) hu hs hx (by
   cases lo with
   | none => trivial
   | some z => obtain ⟨i, hi1, hi2⟩ := hlo; subst hi2; exact hi1) (by
   cases hi with
   | none => trivial
   | some z => obtain ⟨i, hi1, hi2⟩ := hhi; subst hi2; exact hi1)
  exact ⟨_, hz, .inl ⟨_, _, rfl, by simp⟩⟩
 ·refine ⟨_, p_slice (l := p) (u := q) hu hs hx hlo hhi h1 (by omega) rfl, ?_⟩
  have hl : ((l.take q).drop p).length = q - p := by simp; omega
  have hcs' : Cels h [] b (o + p) (((l.take q).drop p).map u8) := by
   have := (hcs.take q).drop p (by simp; omega)
   rwa [← List.map_take, ← List.map_drop] at this
  by_cases hcp : c = p
  ·rw [if_pos hcp]
   have : (l.take q).drop p = [] := List.eq_nil_of_length_eq_zero (by rw [hl]; omega)
   rw [this] at hl ⊢
   exact .inr ⟨b, o, c - p, by rw [← hl], by simp, trivial⟩
  ·rw [if_neg hcp, Nat.mul_one]
   exact .inr ⟨b, o + p, c - p, by rw [hl], by rw [hl]; omega, hcs'⟩
theorem p_indexB {e : TypeId} {l : List UInt8} {k : IntKind} {m : Int} {c : UInt8} (hb : BV h v l) (hu : P.underlying t = some (.slice e)) (hs : szOf P e = some 1) (hx : lkO E x = some v) (hy : lkO E y = some (.int k m))
  (h0 : 0 ≤ m) (hc : l[m.toNat]? = some c) : ∃ v', Pu P n E h K ⟨dst, .indexAddr t x y, ty, ps, af, g⟩ v' ∧ ∃ b o, v' = .pointer (some ⟨b, o, none⟩) ∧ Cel h [] b o (u8 c) := by
 have hlt : m.toNat < l.length := (List.getElem?_eq_some_iff.1 hc).1
 rcases hb with ⟨_, _, rfl, rfl⟩ | ⟨b, o, ca, rfl, _, hcs⟩
 ·simp at hlt
 ·exact ⟨_, p_indexAddr hu hs hx hy h0 (by omega) rfl, b, _, rfl, by rw [Nat.mul_one]; exact hcs.get m.toNat (u8 c) (by simp [hc])⟩
theorem p_textB {e : TypeId} {l : List UInt8} (hb : BV h v l) (hu : P.underlying t = some (.slice e)) (he : P.underlying e = some (.int .u8)) (hu2 : P.underlying t' = some .string) (hx : lkO E x = some v) :
  Pu P n E h K ⟨dst, .convert t t' x, ty, ps, af, g⟩ (.string ⟨l.toArray⟩) := by
 rcases hb with ⟨_, _, rfl, rfl⟩ | ⟨b, o, ca, rfl, _, hcs⟩
 ·exact p_toText0 hu he hu2 hx
 ·exact p_toText hu he hu2 hx hcs.up

theorem Ok.freezeBuf {T : TypeId} {a : Option Nat} {cap : Nat} {l : List UInt8} {w : World} (ok : Ok h (bufA T 1 a l.length cap (l.map u8) :: H) w) : ∃ h', h.le h' ∧ BV h' (bufV a l.length cap) l ∧ Ok h' H w := by
 have hown := ok.own_head
 cases a with
 | none =>
  obtain ⟨e1, e2, e3⟩ := hown
  have : l = [] := by simpa using e3
  subst this; subst e2
  exact ⟨h, Base.le.refl h, BV.nil, ok.drop⟩
 | some b =>
  obtain ⟨sp, fz, g1, g2, g3, g4, g5, g6⟩ := hown
  have ok2 : Ok h (blkF b T (l.map u8 ++ sp) fz :: H) w := by
   refine ⟨ok.os, ok.tape, ok.output, ⟨ok.sat.imm, fun A hA => ?_⟩, ok.nd, ok.dj⟩
   rcases List.mem_cons.1 hA with rfl | hA'
   ·exact g1
   ·exact ok.sat.own A (List.mem_cons_of_mem _ hA')
  obtain ⟨f1, f2, f3⟩ := ok2.freeze
  refine ⟨_, f1, .inr ⟨b, 0, cap, rfl, g4, cels_of fun j u hj => ?_⟩, f3⟩
  rw [Nat.zero_add]
  refine cel_mem f2 ?_
  have hlt : j < (l.map u8).length := (List.getElem?_eq_some_iff.1 hj).1
  rw [List.getElem?_append_left hlt]; exact hj
theorem AT.freezeBuf {q : Exit} {T : TypeId} {a : Option Nat} {cap : Nat} {l : List UInt8} (hk : ∀ h', h.le h' → BV h' (bufV a l.length cap) l → AT P n Q q E h' H) : AT P n Q q E h (bufA T 1 a l.length cap (l.map u8) :: H) :=
 ⟨fun a w fa ok => by obtain ⟨h', h1, h2, h3⟩ := ok.freezeBuf; exact (hk h' h1 h2).run _ w fa h3⟩
theorem WL.freezeBuf {L : List Oper} {T : TypeId} {a : Option Nat} {cap : Nat} {l : List UInt8} (hk : ∀ h', h.le h' → BV h' (bufV a l.length cap) l → WL P n ops Q L E h' H) : WL P n ops Q L E h (bufA T 1 a l.length cap (l.map u8) :: H) :=
 ⟨fun a w fa ok => by obtain ⟨h', h1, h2, h3⟩ := ok.freezeBuf; exact (hk h' h1 h2).run _ w fa h3⟩
theorem WC.freezeBuf {c : Code} {T : TypeId} {a : Option Nat} {cap : Nat} {l : List UInt8} (hk : ∀ h', h.le h' → BV h' (bufV a l.length cap) l → WC P n c Q E h' H) : WC P n c Q E h (bufA T 1 a l.length cap (l.map u8) :: H) :=
 ⟨fun a w fa ok => by obtain ⟨h', h1, h2, h3⟩ := ok.freezeBuf; exact (hk h' h1 h2).run _ w fa h3⟩

def isB : Value → Bool | .bool _ => true | _ => false
theorem yielded_undef {a : Act} {j s : Nat} {u : Value} (fa : Fr n E a) (hj : dstOf ops j = some s) (hl : lk E s = some u) (hu : isB u = false) : yielded ops a.tmps j = none := by
 unfold dstOf at hj
 cases u <;> simp [isB] at hu <;> simp [yielded, hj, fa.get s _ hl]
theorem s_skipU {j s : Nat} {want : Bool} {u : Value} (hj : dstOf ops j = some s) (hl : lk E s = some u) (hu : isB u = false) (hd : Nat.blt d n = true) (hk : WL P n ops Q rest ((d, undef) :: E) h H) :
  WL P n ops Q (⟨some d, op, t, ps, af, some (j, want)⟩ :: rest) E h H :=
 ⟨fun a w fa ok => by
  unfold wpList
  rw [if_neg (by simp [Region.wanted, yielded_undef fa hj hl hu])]
  exact hk.run _ _ (fa.put undef hd) ok⟩
theorem d_skipU {j s : Nat} {want : Bool} {u : Value} (ho : ops[i]? = some ⟨some d, op, t, ps, af, some (j, want)⟩) (hj : dstOf ops j = some s) (hl : lk E s = some u) (hu : isB u = false) (hd : Nat.blt d n = true) (hk : WS P n ops Q h0 K σ ((d, undef) :: E) h H) : WS P n ops Q h0 K (.pu i σ) E h H :=
 ⟨fun a w fa ok => ⟨_, undef, ho, .inr ⟨by simp [Region.wanted, yielded_undef fa hj hl hu], rfl⟩, hk.run _ _ (fa.put undef hd) ok⟩⟩
end
end Go.K

/-! K8: slices of structs in the base; stores into rows of bytes. Generic over the program. Conditions: none. -/
namespace Go.K

section
variable {P : Program} {n : NN} {Q : Exit → Act → World → Prop} {E : Env} {h h' h0 : Base} {H K R : List Asrt} {ops : Array Oper} {rest : List Oper}
variable {op : Op} {t t' ty : TypeId} {ps : String} {af : Array Edge} {d i : Nat} {v : Value} {x y : Operand} {dst : Option Nat} {g : Option (Nat × Bool)} {σ : Sch}

def SL (h : Base) (sz : Nat) (v : Value) (es : List (List Value)) : Prop :=
 (∃ ao c, v = .slice ao 0 c ∧ es = []) ∨ ∃ b o c, v = .slice (some ⟨b, o, none⟩) es.length c ∧ es.length ≤ c ∧ ∀ j (hj : j < es.length), es[j].length = sz ∧ Cels h [] b (o + j * sz) es[j]
theorem SL.le {sz : Nat} {es : List (List Value)} (hb : SL h sz v es) (hle : h.le h') : SL h' sz v es := hb.imp id fun ⟨b, o, c, e, hc, hcs⟩ => ⟨b, o, c, e, hc, fun j hj => ⟨(hcs j hj).1, Cels.le hle (hcs j hj).2⟩⟩
theorem SL.len {sz : Nat} {es : List (List Value)} (hb : SL h sz v es) : ∃ ao c, v = .slice ao es.length c := by
 rcases hb with ⟨ao, c, rfl, rfl⟩ | ⟨b, o, c, rfl, _⟩
 ·exact ⟨_, _, rfl⟩
 ·exact ⟨_, _, rfl⟩
theorem p_indexL {e : TypeId} {sz : Nat} {es : List (List Value)} {k : IntKind} {m : Int} {cs : List Value} (hb : SL h sz v es) (hu : P.underlying t = some (.slice e)) (hs : szOf P e = some sz) (hx : lkO E x = some v) (hy : lkO E y = some (.int k m))
  (h0 : 0 ≤ m) (hc : es[m.toNat]? = some cs) : ∃ v', Pu P n E h K ⟨dst, .indexAddr t x y, ty, ps, af, g⟩ v' ∧ ∃ b o, v' = .pointer (some ⟨b, o, none⟩) ∧ Cels h [] b o cs := by
 obtain ⟨hlt, he⟩ := List.getElem?_eq_some_iff.1 hc
 rcases hb with ⟨_, _, rfl, rfl⟩ | ⟨b, o, ca, rfl, _, hcs⟩
 ·simp at hlt
 ·have := (hcs m.toNat hlt).2
  rw [he] at this
  exact ⟨_, p_indexAddr hu hs hx hy h0 (by omega) rfl, b, _, rfl, this⟩

theorem p_loadM {bl o m : Nat} {vs : List Value} (hg : aggOf P t = some true) (hx : lkO E x = some (.pointer (some ⟨bl, o, none⟩))) (hc : Cels h K bl o vs) (hz : szOf P t = some m) (hm : vs.length = m) : Pu P n E h K ⟨dst, .load t x, ty, ps, af, g⟩ (.agg vs.toArray) := by
 subst hm
 exact p_loadN hg hz hx hc
theorem suf_ins (i : Nat) {A : Asrt} (hi : H[i]? = some A) (hs : Suf K H) : Suf (A :: K) H := ⟨fun B hB => by
 rcases List.mem_cons.1 hB with rfl | hB
 ·exact List.mem_of_getElem? hi
 ·exact hs.sub B hB⟩
theorem idx01 (j : Nat) : 0 + ((j : Nat) : Int).toNat * 1 = j := by simp

theorem AT.sel {q : Exit} (is : List Nat) {A H' : List Asrt} (e : pick is H = some (A, H')) (hx : AT P n Q q E h H') : AT P n Q q E h H := AT.perm (pick_perm e) (AT.drops hx)
theorem WC.drops {c : Code} {A : List Asrt} (hx : WC P n c Q E h H) : WC P n c Q E h (A ++ H) := ⟨fun a w fa ok => hx.run a w fa ok.drops⟩
theorem WC.sel {c : Code} (is : List Nat) {A H' : List Asrt} (e : pick is H = some (A, H')) (hx : WC P n c Q E h H') : WC P n c Q E h H := WC.perm (pick_perm e) (WC.drops hx)
theorem wn8 (x : Nat) : IntKind.u8.wrap (x : Int) = ((x % 256 : Nat) : Int) := by rw [wu8]; omega
end
end Go.K

/-! K9: from a world to a base; from a triple to what the statement's frame wants; what the arguments read as. Generic over the program. Conditions: none. -/
namespace Go.K
open Go.ChangeShapes Go.WideShapes Go.ChangeAt Go.RowKit

def Base.of (w : World) : Base := ⟨w.os, w.tape, w.output, fun b => w.heap[b]?⟩
theorem Ok.of (w : World) : Ok (Base.of w) [] w := ⟨rfl, rfl, rfl, ⟨fun _ _ h => h, fun _ hA => by simp at hA⟩, by simp [idsOf], fun b hb => by simp [idsOf] at hb⟩

theorem below_of {w w' : World} {h' : Base} {H : List Asrt} (hle : (Base.of w).le h') (ok : Ok h' H w') : Below w.heap.size w w' := by
 have hb : ∀ k, k < w.heap.size → w'.heap[k]? = w.heap[k]? := fun k hk => by
  have h1 : (Base.of w).mem k = some w.heap[k] := by simp [Base.of, hk]
  rw [ok.sat.imm k _ (hle.mem k _ h1)]
  simp [hk]
 refine ⟨ok.os.trans hle.os, ok.tape.trans hle.tape, ok.output.trans hle.output, ?_, hb⟩
 by_cases h0 : w.heap.size = 0
 ·omega
 ·have h1 := hb (w.heap.size - 1) (by omega)
  have h2 : w.heap[w.heap.size - 1]? = some (w.heap[w.heap.size - 1]'(by omega)) := Array.getElem?_eq_getElem _
  have := (Array.getElem?_eq_some_iff.1 (h1.trans h2)).1
  show w.heap.size ≤ w'.heap.size
  omega

theorem calls_of {P : Program} {f : FuncId} {args : List Value} {w : World} (hx : Tr P f args (Base.of w) [] (fun u h' H' => u = .bool true ∧ H' = [])) :
  Calls P f args.toArray w (fun e w' => e = .returned (.bool true) ∧ Below w.heap.size w w') := by
 refine (hx [] w (Ok.of w)).mono fun e w' hq => ?_
 obtain ⟨v, rfl, h', H', hle, ⟨rfl, rfl⟩, ok⟩ := hq
 exact ⟨rfl, below_of hle ok⟩

theorem cel_of {W : World} {b o : Nat} {v : Value} (hc : W.cell? ⟨b, o, none⟩ = some v) : Cel (Base.of W) [] b o v := ⟨fun w hw => by
 have key : ∀ ob, W.heap[b]? = some ob → w.heap[b]? = W.heap[b]? := fun ob ho => by rw [ho]; exact hw.imm b ob ho
 unfold World.cell? at hc ⊢
 cases ho : W.heap[b]? with
 | none => simp [ho] at hc
 | some ob => rw [key ob ho]; exact hc⟩
theorem wcels_of {W : World} {b : Nat} : ∀ (cs : List Value) (o : Nat), (∀ i, i < cs.length → W.cell? ⟨b, o + i, none⟩ = cs[i]?) → Cels (Base.of W) [] b o cs
 | [], _, _ => trivial
 | c :: r, o, hx => ⟨cel_of (by simpa using hx 0 (by simp)), wcels_of r (o + 1) fun i hi => by
   have := hx (i + 1) (by simpa using hi)
   rw [show o + (i + 1) = o + 1 + i from by omega] at this
   simpa using this⟩

theorem list_of {σ : Type} {p : Nat → σ → Prop} : ∀ (n : Nat), (∀ i, i < n → ∃ x, p i x) → ∃ l : List σ, l.length = n ∧ ∀ i (hi : i < l.length), p i l[i]
 | 0, _ => ⟨[], rfl, fun i hi => by simp at hi⟩
 | n + 1, hx => by
  obtain ⟨l, hl, hp⟩ := list_of n fun i hi => hx i (by omega)
  obtain ⟨x, hx'⟩ := hx n (by omega)
  refine ⟨l ++ [x], by simp [hl], fun i hi => ?_⟩
  rw [List.getElem_append]
  split
  ·exact hp i _
  ·simp at hi
   obtain rfl : i = n := by omega
   simpa using hx'

section
variable {H : Type} {enc : TypeId × Value → H} {P : Program} {W : World} {base : Nat} {spare : Nat → Bool} {held : Bool}
theorem sl_of {σ : Type} {f : σ → List Value} {wf : σ → Prop} {t e : TypeId} {sz : Nat} {fuel : Nat} {v : Value} {x : DataW H × List MemPlace} (ht : P.underlying t = some (.slice e)) (hsz : P.cellsOf e = sz) (hpos : 0 < sz)
  (hr : ∀ cs n y, DataW.trod enc P W base spare held n e cs = some y → ∃ i : σ, cs = f i ∧ wf i) (hf : ∀ i, (f i).length = sz) (h : DataW.trod enc P W base spare held fuel t v.cells.toList = some x) (hv : ∃ a l c, v = .slice a l c) :
  ∃ l : List σ, SL (Base.of W) sz v (l.map f) ∧ (∀ i ∈ l, wf i) ∧ l.length ≤ maxLen := by
 obtain ⟨av, lv, cv, rfl⟩ := hv
 rcases Go.Deep.open_slice ht h with ⟨hcs, _⟩ | ⟨a, len, cap, m, n, D, Pl, hcs, hb, hl, hm, hmm, _, hx⟩
 ·simp [Value.cells] at hcs
  obtain ⟨rfl, rfl, rfl⟩ := hcs
  exact ⟨[], .inl ⟨_, _, rfl, rfl⟩, by simp, by simp⟩
 ·simp [Value.cells] at hcs
  obtain ⟨rfl, rfl, rfl⟩ := hcs
  subst hsz
  have hlm : lv ≤ m := by rw [hmm]; split <;> omega
  obtain ⟨l, hll, hp⟩ := list_of (p := fun i (y : σ) => W.cells? base (a.add (i * P.cellsOf e)) (P.cellsOf e) = some (f y) ∧ wf y) lv fun i hi => by
   obtain ⟨cs', h1, h2⟩ := hx i (by omega)
   obtain ⟨y, rfl, hw⟩ := hr _ _ _ h2
   exact ⟨y, h1, hw⟩
  refine ⟨l, ?_, fun i hi => ?_, by omega⟩
  ·by_cases h0 : lv = 0
   ·subst h0
    obtain rfl := List.length_eq_zero_iff.1 hll
    exact .inl ⟨_, _, rfl, rfl⟩
   ·obtain ⟨b, off, spot⟩ := a
    have hc := (World.cells?_some (hp 0 (by omega)).1).2.2 0 hpos
    have hspot : spot = none := by
     have h1 : ∃ u, W.cell? ⟨b, off, spot⟩ = some u := ⟨_, by simpa [Addr.add, List.getElem?_eq_getElem (show 0 < (f (l[0]'(by omega))).length by rw [hf]; exact hpos)] using hc⟩
     obtain ⟨u, hu⟩ := h1
     simpa using World.cell?_spot hu
    subst hspot
    refine .inr ⟨b, off, cv, by simp [hll], by simp [hll]; omega, fun j hj => ⟨by simp [hf], ?_⟩⟩
    have hj' : j < l.length := by simpa using hj
    refine wcels_of _ _ fun i hi => ?_
    have hi' : i < P.cellsOf e := by simpa [hf] using hi
    have := (World.cells?_some (hp j hj').1).2.2 i hi'
    rw [show (Addr.add (Addr.add ⟨b, off, none⟩ (j * P.cellsOf e)) i) = ⟨b, off + j * P.cellsOf e + i, none⟩ from by unfold Addr.add; split <;> split <;> simp_all] at this
    simpa using this
  ·obtain ⟨k, hk, rfl⟩ := List.getElem_of_mem hi
   exact (hp k hk).2

theorem byte_of {e : TypeId} (he : P.underlying e = some (.int .u8)) (cs : List Value) (n : Nat) (y : DataW H × List MemPlace) (h : DataW.trod enc P W base spare held n e cs = some y) : ∃ c : UInt8, cs = [u8 c] ∧ True := by
 obtain ⟨k, rfl, _, w⟩ := DataW.trod_int he h
 have hb : 0 ≤ k ∧ k ≤ 255 := by simpa [Lit.wf, IntKind.min, IntKind.max, IntKind.signed, IntKind.bits] using w
 refine ⟨UInt8.ofNat k.toNat, ?_, trivial⟩
 have : k.toNat < 256 := by omega
 simp only [u8, UInt8.toNat_ofNat']
 rw [Nat.mod_eq_of_lt this, Int.toNat_of_nonneg hb.1]
theorem bv_of {t e : TypeId} {fuel : Nat} {v : Value} {x : DataW H × List MemPlace} (ht : P.underlying t = some (.slice e)) (he : P.underlying e = some (.int .u8)) (hsz : P.cellsOf e = 1)
  (h : DataW.trod enc P W base spare held fuel t v.cells.toList = some x) (hv : ∃ a l c, v = .slice a l c) : ∃ l : List UInt8, BV (Base.of W) v l ∧ l.length ≤ maxLen := by
 obtain ⟨l, hs, _, hl⟩ := sl_of (f := fun c => [u8 c]) (wf := fun _ => True) ht hsz (by decide) (byte_of he) (fun _ => rfl) h hv
 refine ⟨l, ?_, hl⟩
 rcases hs with ⟨ao, c, rfl, h0⟩ | ⟨b, o, c, rfl, hc, hcs⟩
 ·exact .inl ⟨ao, c, rfl, by simpa using h0⟩
 ·refine .inr ⟨b, o, c, by simp, by simpa using hc, cels_of fun j u hj => ?_⟩
  have hlt : j < l.length := by have := (List.getElem?_eq_some_iff.1 hj).1; simpa using this
  have h1 := (hcs j (by simpa using hlt)).2
  simp at h1
  have h2 : u = u8 l[j] := by simpa [hlt] using hj.symm
  rw [h2]
  exact h1.1
end
end Go.K
