/-
  K1: a separation logic over the model: frames as association lists, a persistent base heap, a list of owned assertions. Generic over the program: no seat's numbers stand here. Conditions: none.
-/
import Derived.OrdersHeld
import Derived.Tactics
import Derived.WalkKit
namespace Go.K
set_option linter.unusedVariables false

/-! ## Frames -/
abbrev Env := List (Nat × Value)

def lk : Env → Nat → Option Value
  | [], _ => none
  | (k, v) :: E, t => match Nat.beq k t with
    | true => some v
    | false => lk E t

theorem lk_cons (k : Nat) (v : Value) (E : Env) (t : Nat) : lk ((k, v) :: E) t = if k = t then some v else lk E t := by
  by_cases h : k = t
  · subst h; simp [lk, Nat.beq_refl]
  · have : Nat.beq k t = false := by
      cases hb : Nat.beq k t with
      | false => rfl
      | true => exact absurd (Nat.eq_of_beq_eq_true hb) h
    simp [lk, this, h]

structure Fr (n : Nat) (E : Env) (a : Act) : Prop where
  size : a.tmps.size = n
  defers : a.defers = []
  get : ∀ t v, lk E t = some v → a.tmps[t]? = some v

def lkO (E : Env) : Operand → Option Value
  | .tmp t => lk E t
  | .const v => some v
  | .global g => some (.pointer (some ⟨g, 0, none⟩))
  | .func f => some (.func (.func f) #[] #[])

theorem Fr.eval {n : Nat} {E : Env} {a : Act} (h : Fr n E a) {x : Operand} {v : Value} (hx : lkO E x = some v) : a.eval x = v := by
  cases x with
  | tmp t => have := h.get t v hx; simp [Act.eval, Array.getD_eq_getD_getElem?, this]
  | const u => simpa [lkO, Act.eval] using hx
  | global g => simpa [lkO, Act.eval] using hx
  | func f => simpa [lkO, Act.eval] using hx

theorem Fr.put {n : Nat} {E : Env} {a : Act} (h : Fr n E a) {d : Nat} (v : Value) (hd : Nat.blt d n = true) : Fr n ((d, v) :: E) (a.put (some d) v) := by
  have hdn : d < n := by simpa [Nat.blt_eq] using hd
  refine ⟨by simp [Act.put, h.size], by simp [Act.put, h.defers], fun t u hu => ?_⟩
  rw [lk_cons] at hu
  by_cases hk : d = t
  · subst hk
    simp at hu
    subst hu
    have : d < a.tmps.size := by rw [h.size]; exact hdn
    simp [Act.put, this]
  · rw [if_neg hk] at hu
    have := h.get t u hu
    simp [Act.put, hk, this]

theorem Fr.put_none {n : Nat} {E : Env} {a : Act} (h : Fr n E a) (v : Value) : Fr n E (a.put none v) := h

/-- Whatever stands in E' stands in E. -/
def Sub (E E' : Env) : Prop := ∀ t v, lk E' t = some v → lk E t = some v
theorem Sub.refl (E : Env) : Sub E E := fun _ _ h => h
theorem Sub.nil (E : Env) : Sub E [] := fun _ _ h => by simp [lk] at h
theorem Sub.cons {E E' : Env} {t : Nat} {v : Value} (h : lk E t = some v) (h' : Sub E E') : Sub E ((t, v) :: E') := fun u x hx => by
  rw [lk_cons] at hx
  by_cases hk : t = u
  · subst hk; rw [if_pos rfl] at hx; rw [h]; exact hx
  · rw [if_neg hk] at hx; exact h' u x hx
theorem Fr.sub {n : Nat} {E E' : Env} {a : Act} (h : Fr n E a) (hs : Sub E E') : Fr n E' a := ⟨h.size, h.defers, fun t v ht => h.get t v (hs t v ht)⟩

/-- The frame at a function's entry. -/
def args0 : Nat → List Value → Env
  | _, [] => []
  | k, v :: r => (k, v) :: args0 (k + 1) r

theorem lk_args0 : ∀ (l : List Value) (k t : Nat) (v : Value), lk (args0 k l) t = some v → k ≤ t ∧ l[t - k]? = some v
  | [], _, _, _, h => by simp [args0, lk] at h
  | x :: r, k, t, v, h => by
    rw [args0, lk_cons] at h
    by_cases hk : k = t
    · subst hk; simp at h; simp [h]
    · rw [if_neg hk] at h
      obtain ⟨h1, h2⟩ := lk_args0 r (k + 1) t v h
      refine ⟨by omega, ?_⟩
      have : t - k = (t - (k + 1)) + 1 := by omega
      rw [this, List.getElem?_cons_succ]; exact h2

theorem Fr.enter (n : Nat) (l : List Value) (hn : l.length ≤ n) : Fr n (args0 0 l) { tmps := l.toArray ++ Array.replicate (n - l.toArray.size) undef, defers := [] } := by
  refine ⟨by simp; omega, rfl, fun t v h => ?_⟩
  obtain ⟨_, h2⟩ := lk_args0 l 0 t v h
  simp at h2
  have hlt : t < l.length := by
    rcases Nat.lt_or_ge t l.length with h' | h'
    · exact h'
    · simp [List.getElem?_eq_none h'] at h2
  rw [Array.getElem?_append_left (by simpa using hlt)]
  simpa using h2

/-! ## The heap -/
structure Base where
  os : Os
  tape : Nat → Question → Nat
  output : Array (Nat × ByteArray)
  mem : Nat → Option Obj

structure Base.le (h h' : Base) : Prop where
  os : h'.os = h.os
  tape : h'.tape = h.tape
  output : h'.output = h.output
  mem : ∀ b o, h.mem b = some o → h'.mem b = some o
theorem Base.le.refl (h : Base) : h.le h := ⟨rfl, rfl, rfl, fun _ _ x => x⟩
theorem Base.le.trans {a b c : Base} (h : a.le b) (k : b.le c) : a.le c :=
  ⟨k.os.trans h.os, k.tape.trans h.tape, k.output.trans h.output, fun x o hx => k.mem x o (h.mem x o hx)⟩

structure Asrt where
  ids : List Nat
  holds : World → Prop
  live : ∀ w, holds w → ∀ b ∈ ids, b < w.heap.size
  loc : ∀ w w', (∀ b ∈ ids, w'.heap[b]? = w.heap[b]?) → holds w → holds w'

def idsOf (H : List Asrt) : List Nat := H.flatMap (·.ids)

structure Sat (h : Base) (H : List Asrt) (w : World) : Prop where
  imm : ∀ b o, h.mem b = some o → w.heap[b]? = some o
  own : ∀ A ∈ H, A.holds w

structure Ok (h : Base) (H : List Asrt) (w : World) : Prop where
  os : w.os = h.os
  tape : w.tape = h.tape
  output : w.output = h.output
  sat : Sat h H w
  nd : (idsOf H).Nodup
  dj : ∀ b ∈ idsOf H, h.mem b = none

theorem Ok.drew {h : Base} {H : List Asrt} {w w' : World} (hk : Ok h H w) (e : w'.heap = w.heap) (e1 : w'.os = w.os) (e2 : w'.tape = w.tape) (e3 : w'.output = w.output) : Ok h H w' :=
  ⟨e1.trans hk.os, e2.trans hk.tape, e3.trans hk.output, ⟨fun b o hb => by rw [e]; exact hk.sat.imm b o hb, fun A hA => A.loc w w' (fun b _ => by rw [e]) (hk.sat.own A hA)⟩, hk.nd, hk.dj⟩

theorem Sat.sub {h : Base} {H K : List Asrt} {w : World} (hs : Sat h H w) (hk : ∀ A ∈ K, A ∈ H) : Sat h K w := ⟨hs.imm, fun A hA => hs.own A (hk A hA)⟩

theorem Ok.live {h : Base} {H : List Asrt} {w : World} (hk : Ok h H w) : ∀ b ∈ idsOf H, b < w.heap.size := fun b hb => by
  obtain ⟨A, hA, hb'⟩ := List.mem_flatMap.1 hb
  exact A.live w (hk.sat.own A hA) b hb'

theorem perm3 {α : Type} (a b c : α) (r : List α) : (a :: b :: c :: r).Perm (b :: c :: a :: r) := (List.Perm.swap b a _).trans ((List.Perm.swap c a r).cons b)
theorem Ok.perm {h : Base} {H H' : List Asrt} {w : World} (hk : Ok h H w) (hp : H.Perm H') : Ok h H' w :=
  ⟨hk.os, hk.tape, hk.output, ⟨hk.sat.imm, fun A hA => hk.sat.own A (hp.mem_iff.2 hA)⟩, (hp.flatMap_right _).nodup_iff.1 hk.nd, fun b hb => hk.dj b ((hp.flatMap_right _).mem_iff.2 hb)⟩

/-- Assertions may be forgotten. -/
theorem Ok.drop {h : Base} {A : Asrt} {H : List Asrt} {w : World} (hk : Ok h (A :: H) w) : Ok h H w := by
  refine ⟨hk.os, hk.tape, hk.output, ⟨hk.sat.imm, fun B hB => hk.sat.own B (List.mem_cons_of_mem _ hB)⟩, ?_, fun b hb => hk.dj b ?_⟩
  · have := hk.nd; simp only [idsOf, List.flatMap_cons] at this; exact (List.nodup_append.1 this).2.1
  · simp only [idsOf, List.flatMap_cons]; exact List.mem_append_right _ hb
theorem Ok.drops {h : Base} {A H : List Asrt} {w : World} (hk : Ok h (A ++ H) w) : Ok h H w := by
  induction A with
  | nil => exact hk
  | cons x r ih => exact ih (Ok.drop hk)

/-- Several assertions as one. -/
def all (Hs : List Asrt) : Asrt where
  ids := idsOf Hs
  holds w := ∀ A ∈ Hs, A.holds w
  live w h b hb := by
    obtain ⟨A, hA, hb'⟩ := List.mem_flatMap.1 hb
    exact A.live w (h A hA) b hb'
  loc w w' hb h A hA := A.loc w w' (fun b hbA => hb b (List.mem_flatMap.2 ⟨A, hA, hbA⟩)) (h A hA)
theorem Ok.all_iff {h : Base} {Hs F : List Asrt} {w : World} : Ok h (all Hs :: F) w ↔ Ok h (Hs ++ F) w := by
  have e : idsOf (all Hs :: F) = idsOf (Hs ++ F) := by simp [idsOf, all]
  constructor
  · intro ok
    refine ⟨ok.os, ok.tape, ok.output, ⟨ok.sat.imm, fun A hA => ?_⟩, e ▸ ok.nd, fun b hb => ok.dj b (e ▸ hb)⟩
    rcases List.mem_append.1 hA with hA | hA
    · exact ok.sat.own (all Hs) (List.mem_cons_self ..) A hA
    · exact ok.sat.own A (List.mem_cons_of_mem _ hA)
  · intro ok
    refine ⟨ok.os, ok.tape, ok.output, ⟨ok.sat.imm, fun A hA => ?_⟩, e ▸ ok.nd, fun b hb => ok.dj b (e ▸ hb)⟩
    rcases List.mem_cons.1 hA with e' | hA
    · subst e'; exact fun B hB => ok.sat.own B (List.mem_append_left _ hB)
    · exact ok.sat.own A (List.mem_append_right _ hA)

/-- One block of cells. -/
def blkF (b : Nat) (t : TypeId) (cs : List Value) (fz : Nat × Nat) : Asrt where
  ids := [b]
  holds w := w.heap[b]? = some (.cells cs.toArray t fz)
  live w h x hx := by
    simp at hx; subst hx
    rcases Nat.lt_or_ge x w.heap.size with h' | h'
    · exact h'
    · rw [Array.getElem?_eq_none h'] at h; cases h
  loc w w' hb h := by rw [hb b (by simp)]; exact h
abbrev blk (b : Nat) (t : TypeId) (cs : List Value) : Asrt := blkF b t cs (0, 0)

theorem heap_lt {w : World} {b : Nat} {o : Obj} (h : w.heap[b]? = some o) : b < w.heap.size := by
  rcases Nat.lt_or_ge b w.heap.size with h' | h'
  · exact h'
  · rw [Array.getElem?_eq_none h'] at h; cases h

theorem Ok.alloc {h : Base} {H : List Asrt} {w : World} (hk : Ok h H w) (cs : List Value) (t : TypeId) (fz : Nat × Nat) : Ok h (blkF w.heap.size t cs fz :: H) (w.alloc (.cells cs.toArray t fz)) := by
  have old : ∀ b, b < w.heap.size → (w.alloc (.cells cs.toArray t fz)).heap[b]? = w.heap[b]? := fun b hb => RowKit.Below.heap_alloc _ _ _ hb
  refine ⟨hk.os, hk.tape, hk.output, ⟨fun b o hb => ?_, fun A hA => ?_⟩, ?_, fun b hb => ?_⟩
  · have := hk.sat.imm b o hb
    rw [old b (heap_lt this)]; exact this
  · rcases List.mem_cons.1 hA with rfl | hA
    · show (w.heap.push _)[w.heap.size]? = _
      simp
    · exact A.loc w _ (fun b hb => old b (A.live w (hk.sat.own A hA) b hb)) (hk.sat.own A hA)
  · simp only [idsOf, List.flatMap_cons]
    show ([w.heap.size] ++ _).Nodup
    rw [List.singleton_append, List.nodup_cons]
    refine ⟨fun hb => ?_, hk.nd⟩
    have := hk.live _ hb
    omega
  · simp only [idsOf, List.flatMap_cons] at hb
    rcases List.mem_append.1 hb with hb | hb
    · have : b = w.heap.size := by simpa [blkF] using hb
      subst this
      cases hm : h.mem w.heap.size with
      | none => rfl
      | some o => have := heap_lt (hk.sat.imm _ _ hm); omega
    · exact hk.dj b hb

theorem nodup_mid {α : Type} {l1 l2 : List α} {b : α} (h : (l1 ++ b :: l2).Nodup) : b ∉ l1 ∧ b ∉ l2 := by
  rw [List.nodup_append] at h
  obtain ⟨h1, h2, h3⟩ := h
  rw [List.nodup_cons] at h2
  exact ⟨fun hb => h3 b hb b (by simp) rfl, h2.1⟩

/-- A write into an owned block. -/
theorem Ok.write {h : Base} {b : Nat} {t : TypeId} {cs : List Value} {fz : Nat × Nat} {H : List Asrt} {w w' : World} (hk : Ok h (blkF b t cs fz :: H) w) (t' : TypeId) (cs' : List Value) (fz' : Nat × Nat)
    (e1 : w'.os = w.os) (e2 : w'.tape = w.tape) (e3 : w'.output = w.output)
    (hb : w'.heap[b]? = some (.cells cs'.toArray t' fz')) (ho : ∀ x, x ≠ b → x < w.heap.size → w'.heap[x]? = w.heap[x]?) : Ok h (blkF b t' cs' fz' :: H) w' := by
  have hnd := hk.nd
  simp only [idsOf, List.flatMap_cons] at hnd
  have hnb : b ∉ idsOf H := by
    have : ([b] ++ idsOf H).Nodup := hnd
    rw [List.singleton_append, List.nodup_cons] at this
    exact this.1
  refine ⟨e1.trans hk.os, e2.trans hk.tape, e3.trans hk.output, ⟨fun x o hx => ?_, fun A hA => ?_⟩, hk.nd, hk.dj⟩
  · have hw := hk.sat.imm x o hx
    have : x ≠ b := fun e => by
      subst e
      have := hk.dj x (by simp [idsOf, blkF])
      rw [this] at hx; cases hx
    rw [ho x this (heap_lt hw)]; exact hw
  · rcases List.mem_cons.1 hA with e | hA'
    · rw [e]; exact hb
    · have hh := hk.sat.own A (List.mem_cons_of_mem _ hA')
      refine A.loc w w' (fun x hx => ho x (fun e => ?_) (A.live w hh x hx)) hh
      subst e
      exact hnb (List.mem_flatMap.2 ⟨A, hA', hx⟩)

/-- Freezing: an owned block becomes part of the base. -/
def Base.add (h : Base) (b : Nat) (o : Obj) : Base := { h with mem := fun x => if x = b then some o else h.mem x }
theorem Base.le_add (h : Base) (b : Nat) (o : Obj) (hb : h.mem b = none) : h.le (h.add b o) :=
  ⟨rfl, rfl, rfl, fun x u hx => by
    show (if x = b then some o else h.mem x) = some u
    by_cases e : x = b
    · subst e; rw [hb] at hx; cases hx
    · rw [if_neg e]; exact hx⟩
theorem Ok.freeze {h : Base} {b : Nat} {t : TypeId} {cs : List Value} {fz : Nat × Nat} {H : List Asrt} {w : World} (hk : Ok h (blkF b t cs fz :: H) w) :
    h.le (h.add b (.cells cs.toArray t fz)) ∧ (h.add b (.cells cs.toArray t fz)).mem b = some (.cells cs.toArray t fz) ∧ Ok (h.add b (.cells cs.toArray t fz)) H w := by
  have hnd := hk.nd
  simp only [idsOf, List.flatMap_cons] at hnd
  have hnb : b ∉ idsOf H := by
    have : ([b] ++ idsOf H).Nodup := hnd
    rw [List.singleton_append, List.nodup_cons] at this
    exact this.1
  refine ⟨Base.le_add _ _ _ (hk.dj b (by simp [idsOf, blkF])), by simp [Base.add], ⟨hk.os, hk.tape, hk.output, ⟨fun x o hx => ?_, fun A hA => hk.sat.own A (List.mem_cons_of_mem _ hA)⟩, hk.drop.nd, fun x hx => ?_⟩⟩
  · have hx' : (if x = b then some (Obj.cells cs.toArray t fz) else h.mem x) = some o := hx
    by_cases e : x = b
    · subst e; rw [if_pos rfl] at hx'; cases hx'
      exact hk.sat.own _ (List.mem_cons_self ..)
    · rw [if_neg e] at hx'; exact hk.sat.imm x o hx'
  · show (if x = b then some (Obj.cells cs.toArray t fz) else h.mem x) = none
    rw [if_neg (fun e : x = b => hnb (by rw [← e]; exact hx))]
    exact hk.drop.dj x hx

/-! ## The calculus -/
def NoPanic (Q : Exit → Act → World → Prop) : Prop := ∀ c a w, ¬ Q (.panic c) a w
theorem NoPanic.then {Q : Exit → Act → World → Prop} {K : Act → World → Prop} (h : NoPanic Q) : NoPanic (Exit.then K Q) := h
theorem NoPanic.inBlock {Q : Exit → Act → World → Prop} {id : Nat} (h : NoPanic Q) : NoPanic (Exit.inBlock id Q) := h

structure WL (P : Program) (n : Nat) (ops : Array Oper) (Q : Exit → Act → World → Prop) (l : List Oper) (E : Env) (h : Base) (H : List Asrt) : Prop where
  run : ∀ a w, Fr n E a → Ok h H w → wpList P ops Q l a w
structure WC (P : Program) (n : Nat) (c : Code) (Q : Exit → Act → World → Prop) (E : Env) (h : Base) (H : List Asrt) : Prop where
  run : ∀ a w, Fr n E a → Ok h H w → c.wp P Q a w
structure AT (P : Program) (n : Nat) (Q : Exit → Act → World → Prop) (e : Exit) (E : Env) (h : Base) (H : List Asrt) : Prop where
  run : ∀ a w, Fr n E a → Ok h H w → Q e a w

theorem wp_loop_ghost {P : Program} {c : Code} {Q : Exit → Act → World → Prop} {σ : Type} {I : σ → Act → World → Prop} (μ : σ → Nat)
    (round : ∀ s a w, I s a w → c.wp P (Exit.then (fun a' w' => ∃ s', I s' a' w' ∧ μ s' < μ s) Q) a w) : ∀ s a w, I s a w → (Code.loop c).wp P Q a w := by
  intro s a w hI b k cs
  have key : ∀ m s a w, μ s = m → I s a w → ∃ e a' w', Q e a' w' ∧ Arrives P (lone (b.at a (.code c :: .inLoop c :: k)) cs w) b k cs e a' w' := by
    intro m
    induction m using Nat.strongRecOn with
    | _ m ih =>
      intro s a w hm hI
      obtain ⟨e, a₁, w₁, hq, harr⟩ := round s a w hI b (.inLoop c :: k) cs
      cases e with
      | normal =>
        obtain ⟨s', hI', hlt⟩ := hq
        obtain ⟨e₂, a₂, w₂, hq₂, harr₂⟩ := ih (μ s') (hm ▸ hlt) s' a₁ w₁ rfl hI'
        exact ⟨e₂, a₂, w₂, hq₂, .of_steps (Steps.trans harr (.one step_inLoop)) harr₂⟩
      | exit id => exact ⟨_, a₁, w₁, hq, .pass (x := .inLoop c) rfl (fun _ _ => .inl (by simp)) harr⟩
      | goto l => exact ⟨_, a₁, w₁, hq, .pass (x := .inLoop c) rfl (fun _ _ => .inl (by simp)) harr⟩
      | ret => exact ⟨_, a₁, w₁, hq, .pass (x := .inLoop c) rfl (fun _ _ => .inl (by simp)) harr⟩
      | panic ch => exact ⟨_, a₁, w₁, hq, .pass (x := .inLoop c) rfl (fun _ _ => .inl (by simp)) harr⟩
      | outgrown => exact ⟨_, a₁, w₁, hq, .pass (x := .inLoop c) rfl (fun _ _ => .inl (by simp)) harr⟩
  obtain ⟨e, a', w', hq, harr⟩ := key _ s a w rfl hI
  exact ⟨e, a', w', hq, .of_steps (.one step_loop) harr⟩

section
variable {P : Program} {n : Nat} {Q : Exit → Act → World → Prop} {E : Env} {h : Base} {H : List Asrt}

theorem c_seq {x y : Code} (hx : WC P n x (Exit.then (y.wp P Q) Q) E h H) : WC P n (.seq x y) Q E h H := ⟨fun a w fa ok => wp_seq (hx.run a w fa ok)⟩
theorem c_block {id : Nat} {x : Code} (hx : WC P n x (Exit.inBlock id Q) E h H) : WC P n (.block id x) Q E h H := ⟨fun a w fa ok => wp_block (hx.run a w fa ok)⟩
theorem c_skip (hx : AT P n Q .normal E h H) : WC P n .skip Q E h H := ⟨fun a w fa ok => wp_skip (hx.run a w fa ok)⟩
theorem c_ret (hx : AT P n Q .ret E h H) : WC P n .ret Q E h H := ⟨fun a w fa ok => wp_ret (hx.run a w fa ok)⟩
theorem c_exit {id : Nat} (hx : AT P n Q (.exit id) E h H) : WC P n (.exit id) Q E h H := ⟨fun a w fa ok => wp_exit (hx.run a w fa ok)⟩
theorem c_cond {c : Operand} {x y : Code} {b : Bool} (hl : lkO E c = some (.bool b)) (ht : b = true → WC P n x Q E h H) (hf : b = false → WC P n y Q E h H) : WC P n (.cond c x y) Q E h H :=
  ⟨fun a w fa ok => by
    have he := fa.eval hl
    cases b with
    | true => exact wp_cond_true he ((ht rfl).run a w fa ok)
    | false => exact wp_cond_false he ((hf rfl).run a w fa ok)⟩
theorem c_condT {c : Operand} {x y : Code} (hl : lkO E c = some (.bool true)) (ht : WC P n x Q E h H) : WC P n (.cond c x y) Q E h H := c_cond hl (fun _ => ht) (fun e => by cases e)
theorem c_condF {c : Operand} {x y : Code} (hl : lkO E c = some (.bool false)) (hf : WC P n y Q E h H) : WC P n (.cond c x y) Q E h H := c_cond hl (fun e => by cases e) (fun _ => hf)
theorem c_condD {c : Operand} {x y : Code} {p : Prop} [Decidable p] (hl : lkO E c = some (.bool (decide p))) (ht : p → WC P n x Q E h H) (hf : ¬ p → WC P n y Q E h H) : WC P n (.cond c x y) Q E h H :=
  c_cond hl (fun e => ht (of_decide_eq_true e)) (fun e => hf (of_decide_eq_false e))
theorem c_region {id : Nat} {l : List Oper} (hx : WL P n l.toArray Q l E h H) : WC P n (.region id l.toArray false) Q E h H := ⟨fun a w fa ok => wp_region_lit (hx.run a w fa ok)⟩
theorem l_nil {ops : Array Oper} (hx : AT P n Q .normal E h H) : WL P n ops Q [] E h H := ⟨fun a w fa ok => wpList_nil (hx.run a w fa ok)⟩

theorem a_then {y : Code} {Q : Exit → Act → World → Prop} (hx : WC P n y Q E h H) : AT P n (Exit.then (y.wp P Q) Q) .normal E h H := ⟨hx.run⟩
theorem a_then_ret {K : Act → World → Prop} (hx : AT P n Q .ret E h H) : AT P n (Exit.then K Q) .ret E h H := ⟨hx.run⟩
theorem a_then_exit {K : Act → World → Prop} {id : Nat} (hx : AT P n Q (.exit id) E h H) : AT P n (Exit.then K Q) (.exit id) E h H := ⟨hx.run⟩
theorem a_block {id : Nat} (hx : AT P n Q .normal E h H) : AT P n (Exit.inBlock id Q) .normal E h H := ⟨hx.run⟩
theorem a_block_ret {id : Nat} (hx : AT P n Q .ret E h H) : AT P n (Exit.inBlock id Q) .ret E h H := ⟨hx.run⟩
theorem a_block_exit {id : Nat} (hx : AT P n Q .normal E h H) : AT P n (Exit.inBlock id Q) (.exit id) E h H := ⟨fun a w fa ok => by simpa [Exit.inBlock] using hx.run a w fa ok⟩
theorem a_block_exit_ne {id i : Nat} (hne : Nat.beq i id = false) (hx : AT P n Q (.exit i) E h H) : AT P n (Exit.inBlock id Q) (.exit i) E h H := ⟨fun a w fa ok => by
  have : i ≠ id := fun e => by subst e; simp [Nat.beq_refl] at hne
  simpa [Exit.inBlock, this] using hx.run a w fa ok⟩

/-- What a function hands back. -/
def Ret (P : Program) (f : FuncId) (args : List Value) (w : World) (R : Value → World → Prop) : Prop := Calls P f args.toArray w fun e w' => ∃ v, e = .returned v ∧ R v w'
def post (P : Program) (fn : Func) (R : Value → World → Prop) : Exit → Act → World → Prop := bodyPost P fn fun e w' => ∃ v, e = .returned v ∧ R v w'
theorem post_noPanic (fn : Func) (R : Value → World → Prop) : NoPanic (post P fn R) := fun c a w hq => by
  obtain ⟨_, v, he, _⟩ := hq
  cases he

/-- The triple: a function from a state to a state; what is not named stays. -/
def Tr (P : Program) (f : FuncId) (args : List Value) (h : Base) (Pre : List Asrt) (Post : Value → Base → List Asrt → Prop) : Prop :=
  ∀ F w, Ok h (Pre ++ F) w → Ret P f args w fun v w' => ∃ h' H', h.le h' ∧ Post v h' H' ∧ Ok h' (H' ++ F) w'

theorem enter {f : FuncId} {args : List Value} {fn : Func} {c : Code} {Pre : List Asrt} {Post : Value → Base → List Asrt → Prop} (hf : P.funcs[f]? = some fn) (hb : fn.body = some c) (hn : args.length ≤ fn.ntmps)
    (hx : ∀ F, WC P fn.ntmps c (post P fn fun v w' => ∃ h' H', h.le h' ∧ Post v h' H' ∧ Ok h' (H' ++ F) w') (args0 0 args) h (Pre ++ F)) : Tr P f args h Pre Post :=
  fun F w ok => calls_of_wp hf hb ((hx F).run _ w (Fr.enter _ _ hn) ok)

/-- The return: the values of the result slots. -/
def resV (E : Env) : List ResultVar → Option (List Value)
  | [] => some []
  | .tmp t :: r => match lk E t, resV E r with
    | some v, some vs => some (v :: vs)
    | _, _ => none
  | .cell _ _ :: _ => none
def packV : List Value → Value
  | [v] => v
  | vs => .tuple vs.toArray

theorem mapM_results {a : Act} {w : World} (fa : Fr n E a) (f : ResultVar → Sem Value) (hf : ∀ t, f (.tmp t) = pure (a.tmps.getD t undef)) : ∀ (rs : List ResultVar) (vs : List Value), resV E rs = some vs →
    (rs.mapM f).run P w = .ok vs w
  | [], vs, hv => by simp [resV] at hv; subst hv; simp
  | .tmp t :: r, vs, hv => by
    simp only [resV] at hv
    cases h1 : lk E t with
    | none => simp [h1] at hv
    | some v =>
      cases h2 : resV E r with
      | none => simp [h1, h2] at hv
      | some us =>
        simp [h1, h2] at hv
        subst hv
        have := mapM_results (w := w) fa f hf r us h2
        have hg : a.tmps.getD t undef = v := by simp [Array.getD_eq_getD_getElem?, fa.get t v h1]
        simp only [List.mapM_cons, Sem.run_bind, hf, hg, Sem.run_pure, Result.andThen_ok, this]
  | .cell _ _ :: _, vs, hv => by simp [resV] at hv

theorem run_results {fn : Func} {a : Act} {w : World} {vs : List Value} (fa : Fr n E a) (hr : resV E fn.results.toList = some vs) : (results fn a.tmps).run P w = .ok (packV vs) w := by
  unfold results
  rw [Array.mapM_eq_mapM_toList]
  simp only [Sem.run_bind, Sem.run_map]
  rw [mapM_results (P := P) (w := w) fa _ (by intro t; rfl) _ vs hr]
  simp only [Result.andThen_ok, Sem.run_pure]
  match vs with
  | [] => rfl
  | [v] => rfl
  | v :: u :: r => rfl

theorem ret_post {fn : Func} {e : Exit} {R : Value → World → Prop} {vs : List Value} (he : e = .ret ∨ e = .normal) (hr : resV E fn.results.toList = some vs) (hR : ∀ w, Ok h H w → R (packV vs) w) : AT P n (post P fn R) e E h H :=
  ⟨fun a w fa ok => by
    rcases he with rfl | rfl <;> exact ⟨fa.defers, packV vs, run_results fa hr, _, rfl, hR w ok⟩⟩

/-- The end of a function that is told by a triple. -/
theorem done {fn : Func} {e : Exit} {F H' : List Asrt} {h0 : Base} {Post : Value → Base → List Asrt → Prop} {vs : List Value} (he : e = .ret ∨ e = .normal) (hr : resV E fn.results.toList = some vs)
    (hle : h0.le h) (hH : H = H' ++ F) (hP : Post (packV vs) h H') : AT P n (post P fn fun v w' => ∃ h' H', h0.le h' ∧ Post v h' H' ∧ Ok h' (H' ++ F) w') e E h H :=
  ret_post he hr fun w ok => ⟨h, H', hle, hP, hH ▸ ok⟩

/-! ### Weakening -/
theorem WC.perm {c : Code} {H' : List Asrt} (hp : H.Perm H') (hx : WC P n c Q E h H') : WC P n c Q E h H := ⟨fun a w fa ok => hx.run a w fa (ok.perm hp)⟩
theorem WL.perm {ops : Array Oper} {l : List Oper} {H' : List Asrt} (hp : H.Perm H') (hx : WL P n ops Q l E h H') : WL P n ops Q l E h H := ⟨fun a w fa ok => hx.run a w fa (ok.perm hp)⟩
theorem WL.sub {ops : Array Oper} {l : List Oper} {E' : Env} (hs : Sub E E') (hx : WL P n ops Q l E' h H) : WL P n ops Q l E h H := ⟨fun a w fa ok => hx.run a w (fa.sub hs) ok⟩
theorem WC.sub {c : Code} {E' : Env} (hs : Sub E E') (hx : WC P n c Q E' h H) : WC P n c Q E h H := ⟨fun a w fa ok => hx.run a w (fa.sub hs) ok⟩
theorem AT.perm {e : Exit} {H' : List Asrt} (hp : H.Perm H') (hx : AT P n Q e E h H') : AT P n Q e E h H := ⟨fun a w fa ok => hx.run a w fa (ok.perm hp)⟩
theorem AT.drops {e : Exit} {A : List Asrt} (hx : AT P n Q e E h H) : AT P n Q e E h (A ++ H) := ⟨fun a w fa ok => hx.run a w fa ok.drops⟩
theorem AT.drop {e : Exit} {A : Asrt} (hx : AT P n Q e E h H) : AT P n Q e E h (A :: H) := ⟨fun a w fa ok => hx.run a w fa ok.drop⟩
theorem WC.drop {c : Code} {A : Asrt} (hx : WC P n c Q E h H) : WC P n c Q E h (A :: H) := ⟨fun a w fa ok => hx.run a w fa ok.drop⟩

theorem WC.open {c : Code} {Hs F : List Asrt} (hx : WC P n c Q E h (Hs ++ F)) : WC P n c Q E h (all Hs :: F) := ⟨fun a w fa ok => hx.run a w fa (Ok.all_iff.1 ok)⟩
theorem WC.close {c : Code} (Hs : List Asrt) {F : List Asrt} (hx : WC P n c Q E h (all Hs :: F)) : WC P n c Q E h (Hs ++ F) := ⟨fun a w fa ok => hx.run a w fa (Ok.all_iff.2 ok)⟩
theorem WL.open {ops : Array Oper} {l : List Oper} {Hs F : List Asrt} (hx : WL P n ops Q l E h (Hs ++ F)) : WL P n ops Q l E h (all Hs :: F) := ⟨fun a w fa ok => hx.run a w fa (Ok.all_iff.1 ok)⟩
theorem WL.close {ops : Array Oper} {l : List Oper} (Hs : List Asrt) {F : List Asrt} (hx : WL P n ops Q l E h (all Hs :: F)) : WL P n ops Q l E h (Hs ++ F) := ⟨fun a w fa ok => hx.run a w fa (Ok.all_iff.2 ok)⟩
theorem AT.close {e : Exit} (Hs : List Asrt) {F : List Asrt} (hx : AT P n Q e E h (all Hs :: F)) : AT P n Q e E h (Hs ++ F) := ⟨fun a w fa ok => hx.run a w fa (Ok.all_iff.2 ok)⟩
theorem AT.open {e : Exit} {Hs F : List Asrt} (hx : AT P n Q e E h (Hs ++ F)) : AT P n Q e E h (all Hs :: F) := ⟨fun a w fa ok => hx.run a w fa (Ok.all_iff.1 ok)⟩

/-! ### Cuts and loops -/
/-- A cut: whichever way is gone, the code behind begins in a state of the family. -/
theorem c_cut {x y : Code} {σ : Type} (EI : σ → Env) (BI : σ → Base) (HI : σ → List Asrt) (I : σ → Prop)
    (hy : ∀ s, I s → WC P n y Q (EI s) (BI s) (HI s))
    (hx : ∀ K : Act → World → Prop, (∀ s a w, I s → Fr n (EI s) a → Ok (BI s) (HI s) w → K a w) → WC P n x (Exit.then K Q) E h H) : WC P n (.seq x y) Q E h H :=
  c_seq (hx _ fun s a w hI fa ok => (hy s hI).run a w fa ok)
theorem a_cut {σ : Type} {EI : σ → Env} {BI : σ → Base} {HI : σ → List Asrt} {I : σ → Prop} {K : Act → World → Prop} (hK : ∀ s a w, I s → Fr n (EI s) a → Ok (BI s) (HI s) w → K a w) (s : σ) (hI : I s)
    (hE : Sub E (EI s)) (hB : BI s = h) (hH : HI s = H) : AT P n (Exit.then K Q) .normal E h H := ⟨fun a w fa ok => hK s a w hI (fa.sub hE) (by rw [hB, hH]; exact ok)⟩

theorem c_loop {c : Code} {σ : Type} (EI : σ → Env) (BI : σ → Base) (HI : σ → List Asrt) (I : σ → Prop) (μ : σ → Nat) (s0 : σ) (hI : I s0) (hE : Sub E (EI s0)) (hB : BI s0 = h) (hH : HI s0 = H)
    (round : ∀ s, I s → ∀ K : Act → World → Prop, (∀ s' a w, I s' → Fr n (EI s') a → Ok (BI s') (HI s') w → μ s' < μ s → K a w) → WC P n c (Exit.then K Q) (EI s) (BI s) (HI s)) : WC P n (.loop c) Q E h H :=
  ⟨fun a w fa ok => wp_loop_ghost (I := fun s a w => I s ∧ Fr n (EI s) a ∧ Ok (BI s) (HI s) w) μ
    (fun s a w hI => (round s hI.1 _ fun s' a' w' i' f' o' hlt => ⟨s', ⟨i', f', o'⟩, hlt⟩).run a w hI.2.1 hI.2.2) s0 a w ⟨hI, fa.sub hE, by rw [hB, hH]; exact ok⟩⟩
theorem a_round {σ : Type} {EI : σ → Env} {BI : σ → Base} {HI : σ → List Asrt} {I : σ → Prop} {μ : σ → Nat} {s : σ} {K : Act → World → Prop} (hK : ∀ s' a w, I s' → Fr n (EI s') a → Ok (BI s') (HI s') w → μ s' < μ s → K a w) (s' : σ) (hI : I s')
    (hE : Sub E (EI s')) (hB : BI s' = h) (hH : HI s' = H) (hlt : μ s' < μ s) : AT P n (Exit.then K Q) .normal E h H := ⟨fun a w fa ok => hK s' a w hI (fa.sub hE) (by rw [hB, hH]; exact ok) hlt⟩
end
end Go.K
