/-
  KR: a range over a function: code in a round's frame, calls of yield, what an iterator promises, the statement itself; functions that leave with a mark among their deferred calls. Conditions: each theorem's own.
-/
import Derived.RangeFuncLeaves
import Derived.RangeFuncSeq
import Derived.StillTail
import Derived.OrdersIn
import Derived.TacticsIn
import Derived.Test.YtahdbncfegedjaaKNa
namespace Go.K
open Go
set_option linter.unusedVariables false
set_option linter.unusedSimpArgs false

section
variable {P : Program} {n : NN} {Q : Exit → Act → World → Prop} {E : Env} {h h' h0 : Base} {H K R F : List Asrt} {ops : Array Oper} {rest : List Oper}
variable {op : Op} {t t' ty : TypeId} {ps : String} {af : Array Edge} {d i b : Nat} {v : Value} {x y : Operand} {dst : Option Nat} {g : Option (Nat × Bool)} {σ : Sch} {ro : Option Nat}

/-- The open fence, in a round or not. -/
def Wd (ro : Option Nat) : Fence := { Fence.wide with round := ro }
theorem callsIn_Wd {f : FuncId} {args : Array Value} {w : World} {X : Ending → World → Prop} (hc : Calls P f args w X) : CallsIn (Wd ro) 0 P f args w X := (callsIn_wide (n := 0)).2 hc
theorem rowsIn_Wd {row : String} {args : Array Value} {w : World} {X : Value → World → Prop} (hc : Rows P row args w X) : RowsIn (Wd ro) 0 P row args w X :=
  fun c cs _ => let ⟨v, w', r, s⟩ := hc c cs; ⟨v, w', r, stepsIn_wide.2 s⟩
theorem nodepth {p : Prop} : (Wd ro).depth.isSome = true → p := fun e => by simp [Wd, Fence.wide] at e

def plainOp (o : Oper) : Bool := match o.op with
  | .defer _ => false
  | _ => true
theorem plainOp_spec {o : Oper} (hp : plainOp o = true) : ∀ c, o.op ≠ .defer c := fun c e => by simp [plainOp, e] at hp

theorem opLift {o : Oper} {a : Act} {w : World} {KK : Act → World → Prop} {Q1 Q2 : Exit → Act → World → Prop} (ho : plainOp o = true) (hp : ∀ c a w, Q1 (.panic c) a w → Q2 (.panic c) a w) (hl : ∀ a w, ¬ Q1 .outgrown a w)
    (hx : o.wp P a w KK Q1 ∨ (o.asks P a w ∧ LetsOut Q1)) : o.wpIn (Wd ro) 0 P a w KK Q2 := by
  rcases hx with hx | ⟨_, a', w', hx⟩
  · refine ⟨fun _ _ => trivial, ?_⟩
    rw [Oper.semAt_eq _ _ _ (plainOp_spec ho)]
    unfold Oper.wp at hx
    generalize (execOp a.eval o).run P w = r at *
    cases r with
    | ok nx w' =>
      cases nx <;> simp only [Oper.upon, Oper.uponIn] at hx ⊢
      all_goals first
        | exact hx
        | exact ⟨nodepth, callsIn_Wd (Calls.mono hx (fun e w'' he => by cases e <;> first | exact he | exact hp _ _ _ he | (obtain ⟨_, _, he⟩ := he; exact absurd he (hl _ _))))⟩
        | exact ⟨nodepth, rowsIn_Wd (Rows.mono hx fun _ _ he => he)⟩
    | halt z w' => cases z <;> simp only [Oper.upon, Oper.uponIn] at hx ⊢ <;> first | exact hp _ _ _ hx | exact hx
  · exact absurd hx (hl _ _)

theorem listLift {l2 : List Oper} : ∀ (l1 : List Oper) (a : Act) (w : World), l1.all plainOp = true → (∀ a w, ¬ Q .outgrown a w) → wpList P ops (Exit.then (wpListIn (Wd ro) 0 P ops Q l2) Q) l1 a w → wpListIn (Wd ro) 0 P ops Q (l1 ++ l2) a w
  | [], a, w, _, _, hx => hx
  | o :: l, a, w, hp, hl, hx => by
    simp only [List.all_cons, Bool.and_eq_true] at hp
    unfold wpList at hx
    rw [List.cons_append]
    unfold wpListIn
    split
    · rename_i hw
      rw [if_pos hw] at hx
      exact Oper.wpIn_mono (fun a w x => listLift l a w hp.2 hl x) (opLift hp.1 (fun _ _ _ x => x) hl hx)
    · rename_i hw
      rw [if_neg hw] at hx
      exact ⟨fun _ _ => trivial, listLift l _ w hp.2 hl hx⟩

/-! ### Code in a round's frame -/
structure WR (P : Program) (n : NN) (ro : Option Nat) (c : Code) (Q : Exit → Act → World → Prop) (E : Env) (h : Base) (H : List Asrt) : Prop where
  run : ∀ a w, Fr n E a → Ok h H w → c.wpIn (Wd ro) 0 P Q a w
theorem r_seq {x y : Code} (hx : WR P n ro x (Exit.then (y.wpIn (Wd ro) 0 P Q) Q) E h H) : WR P n ro (.seq x y) Q E h H := ⟨fun a w fa ok => wpIn_seq (hx.run a w fa ok)⟩
theorem r_block {id : Nat} {x : Code} (hx : WR P n ro x (Exit.inBlock id Q) E h H) : WR P n ro (.block id x) Q E h H := ⟨fun a w fa ok => wpIn_block (hx.run a w fa ok)⟩
theorem r_skip (hx : AT P n Q .normal E h H) : WR P n ro .skip Q E h H := ⟨fun a w fa ok => wpIn_skip (hx.run a w fa ok)⟩
theorem r_ret (hx : AT P n Q .ret E h H) : WR P n ro .ret Q E h H := ⟨fun a w fa ok => wpIn_ret (hx.run a w fa ok)⟩
theorem r_exit {id : Nat} (hx : AT P n Q (.exit id) E h H) : WR P n ro (.exit id) Q E h H := ⟨fun a w fa ok => wpIn_exit (hx.run a w fa ok)⟩
theorem r_condT {c : Operand} {x y : Code} (hl : lkO E c = some (.bool true)) (ht : WR P n ro x Q E h H) : WR P n ro (.cond c x y) Q E h H := ⟨fun a w fa ok => wpIn_cond_true (fa.eval hl) (ht.run a w fa ok)⟩
theorem r_condF {c : Operand} {x y : Code} (hl : lkO E c = some (.bool false)) (ht : WR P n ro y Q E h H) : WR P n ro (.cond c x y) Q E h H := ⟨fun a w fa ok => wpIn_cond_false (fa.eval hl) (ht.run a w fa ok)⟩
theorem r_cond {c : Operand} {x y : Code} {b : Bool} (hl : lkO E c = some (.bool b)) (ht : b = true → WR P n ro x Q E h H) (hf : b = false → WR P n ro y Q E h H) : WR P n ro (.cond c x y) Q E h H := by
  cases b with
  | true => exact r_condT hl (ht rfl)
  | false => exact r_condF hl (hf rfl)
theorem r_condD {c : Operand} {x y : Code} {p : Prop} [Decidable p] (hl : lkO E c = some (.bool (decide p))) (ht : p → WR P n ro x Q E h H) (hf : ¬ p → WR P n ro y Q E h H) : WR P n ro (.cond c x y) Q E h H :=
  r_cond hl (fun e => ht (of_decide_eq_true e)) (fun e => hf (of_decide_eq_false e))
theorem then_nil {l : List Oper} {X : Exit → Act → World → Prop} (hX : X = Exit.then (wpListIn (Wd ro) 0 P ops Q []) Q) : X = Q := by
  subst hX
  funext e a w
  cases e <;> rfl
theorem r_region {id : Nat} {l : List Oper} (hp : l.all plainOp = true) (hl : ∀ a w, ¬ Q .outgrown a w) (hx : WL P n l.toArray Q l E h H) : WR P n ro (.region id l.toArray false) Q E h H :=
  ⟨fun a w fa ok => wpIn_region_lit (by
    have h1 := hx.run a w fa ok
    rw [← then_nil (l := l) (P := P) (ro := ro) (ops := l.toArray) (Q := Q) rfl] at h1
    have := listLift (ro := ro) (l2 := []) l a w hp hl h1
    simpa using this)⟩
theorem a_thenR {y : Code} {X : Exit → Act → World → Prop} (hx : WR P n ro y Q E h H) : AT P n (Exit.then (y.wpIn (Wd ro) 0 P Q) X) .normal E h H := ⟨hx.run⟩
theorem WR.sub {c : Code} {E' : Env} (hs : Sub E E') (hx : WR P n ro c Q E' h H) : WR P n ro c Q E h H := ⟨fun a w fa ok => hx.run a w (fa.sub hs) ok⟩
theorem WR.perm {c : Code} {H' : List Asrt} (hp : H.Perm H') (hx : WR P n ro c Q E h H') : WR P n ro c Q E h H := ⟨fun a w fa ok => hx.run a w fa (ok.perm hp)⟩
theorem WR.open {c : Code} {Hs F : List Asrt} (hx : WR P n ro c Q E h (Hs ++ F)) : WR P n ro c Q E h (all Hs :: F) := ⟨fun a w fa ok => hx.run a w fa (Ok.all_iff.1 ok)⟩

theorem pp2 (i j : Nat) {H r : List Asrt} {A B : Asrt} (e : pick [i, j] H = some ([B, A], r)) : H.Perm ([B] ++ A :: r) := pick_perm (p := [B, A]) e
/-! ### Calls of yield -/
theorem pp1 (j : Nat) {H r : List Asrt} {A : Asrt} (e : pick [j] H = some ([A], r)) : H.Perm (A :: r) := pick_perm e
def YieldK (P : Program) (l : Nat) {α : Type} (Enc : Base → α → List Value → Prop) (J Jx : List α → Base → Asrt → Prop) (xs : List α) : Prop :=
  ∀ pre x h args A R w, pre ++ [x] <+: xs → Enc h x args → J pre h A → Ok h (A :: R) w →
    YieldAt (Wd none) 0 P l args.toArray w fun e w' => ∃ h' A', h.le h' ∧ Ok h' (A' :: R) w' ∧ ((e = .returned (.bool true) ∧ J (pre ++ [x]) h' A') ∨ (e = .returned (.bool false) ∧ Jx (pre ++ [x]) h' A'))

theorem run_callY {args : List Operand} {vals : List Value} {ats : Array TypeId} {a : Act} {w : World} {l : Nat} (fa : Fr n E a) (hx : lkO E x = some (.func (.yield l) #[] #[])) (ha : evArgs E args = some vals) :
    (execOp a.eval ⟨dst, .call ⟨.value x, args.toArray, ats⟩, ty, ps, af, g⟩).run P w = (Instr.yield l vals.toArray).run P w := by
  have h1 := evArgs_eval fa args vals ha
  have h2 : args.toArray.map a.eval = vals.toArray := by rw [List.map_toArray, h1]
  simp only [execOp, resolve, fa.eval hx, Deferred.ofValue, h2, Sem.run_bind, Sem.run_pure, Result.andThen_ok, invoke, Array.empty_append, Array.append_empty]

theorem y_call {α : Type} {Enc : Base → α → List Value → Prop} {J Jx : List α → Base → Asrt → Prop} {xs pre : List α} {z : α} {A : Asrt} {args : List Operand} {vals : List Value} {ats : Array TypeId} {l : Nat} {l2 : List Oper} (hY : YieldK P l Enc J Jx xs)
    (hx : lkO E x = some (.func (.yield l) #[] #[])) (ha : evArgs E args = some vals) (hpre : pre ++ [z] <+: xs) (he : Enc h z vals) (hJ : J pre h A) (hp : H.Perm (A :: R)) (hd : Nat.blt d n = true) (hpl : l2.all plainOp = true) (hl : ∀ a w, ¬ Q .outgrown a w)
    (hk : ∀ (b : Bool) h' A', h.le h' → (b = true → J (pre ++ [z]) h' A') → (b = false → Jx (pre ++ [z]) h' A') → WL P n ops Q l2 ((d, .bool b) :: E) h' (A' :: R)) :
    AT P n (Exit.then (wpListIn (Wd none) 0 P ops Q (⟨some d, .call ⟨.value x, args.toArray, ats⟩, ty, ps, af, none⟩ :: l2)) Q) .normal E h H :=
  ⟨fun a w fa ok => wpListIn_plain rfl fun KK hK => by
    have go : ∀ (b : Bool) h' A' w', h.le h' → Ok h' (A' :: R) w' → (b = true → J (pre ++ [z]) h' A') → (b = false → Jx (pre ++ [z]) h' A') → KK (a.put (some d) (.bool b)) w' := fun b h' A' w' hle ok' h1 h2 => by
      refine hK _ _ ?_
      have h3 := (hk b h' A' hle h1 h2).run _ _ (fa.put (.bool b) hd) ok'
      rw [← then_nil (l := l2) (P := P) (ro := none) (ops := ops) (Q := Q) rfl] at h3
      have := listLift (ro := none) (l2 := []) l2 _ _ hpl hl h3
      simpa using this
    obtain ⟨fn, tmps, assign, body, hy, hR⟩ := hY pre z h vals A R w hpre he hJ (ok.perm hp)
    refine ⟨fun _ _ => trivial, ?_⟩
    have e0 : Oper.semAt (Wd none).round a.eval ⟨some d, .call ⟨.value x, args.toArray, ats⟩, ty, ps, af, none⟩ = execOp a.eval ⟨some d, .call ⟨.value x, args.toArray, ats⟩, ty, ps, af, none⟩ := rfl
    rw [e0, run_callY fa hx ha, hy, Oper.uponIn_round]
    refine ⟨nodepth, RoundIn.mono hR ?_⟩
    rintro e w' ⟨h', A', hle, ok', ⟨rfl, hj⟩ | ⟨rfl, hj⟩⟩
    · exact go true h' A' w' hle ok' (fun _ => hj) (fun e => by cases e)
    · exact go false h' A' w' hle ok' (fun e => by cases e) (fun _ => hj)⟩

theorem c_regionY {id : Nat} {l : List Oper} (k : Nat) (hp : (l.take k).all plainOp = true) (hl : ∀ a w, ¬ Q .outgrown a w)
    (hx : WL P n l.toArray (Exit.then (wpListIn (Wd none) 0 P l.toArray Q (l.drop k)) Q) (l.take k) E h H) : WC P n (.region id l.toArray false) Q E h H :=
  ⟨fun a w fa ok => (wpIn_wide (n := 0)).1 (wpIn_region_lit (by
    have := listLift (ro := none) (l2 := l.drop k) (l.take k) a w hp hl (hx.run a w fa ok)
    rw [List.take_append_drop] at this
    exact this))⟩

/-! ### A region that draws its order, with a call of yield behind all else -/
def backB (ops : Array Oper) (k : Nat) : Bool := (List.range k).all fun i => match ops[i]? with
  | some o => o.guard.isNone && plainOp o && o.after.all fun e => Nat.blt e.on i
  | none => false
def tailB (ops : Array Oper) (k : Nat) : Bool :=
  Nat.blt k ops.size && Region.sinkB .any ops k && Region.chainB .any ops k && backB ops k && Region.seqB .any ops (ops.size - k) k ((List.replicate k true ++ List.replicate (ops.size - k) false).toArray)

theorem anyIn_done {L : Array Bool} {a : Act} {w : World} (hr : Region.ready .any ops L = []) (hx : Q .normal a w) : ∀ fuel, wpAnyIn (Wd ro) 0 P .any ops Q fuel L a w
  | 0 => ⟨hr, hx⟩
  | _ + 1 => ⟨fun _ => hx, by rw [hr]; simp⟩
theorem anyIn_of_seq (f : Nat) : ∀ (l : List Oper) (k : Nat) (listed : Array Bool) (a : Act) (w : World), (∀ j, l[j]? = ops[k + j]?) →
    Region.seqB .any ops l.length k listed = true → wpListIn (Wd ro) 0 P ops Q l a w → wpAnyIn (Wd ro) 0 P .any ops Q (f + l.length) listed a w
  | [], _, _, _, _, _, hB, hx => anyIn_done (by simpa [Region.seqB] using hB) hx _
  | o :: l, k, listed, a, w, hl, hB, hx => by
    have h0 : ops[k]? = some o := by simpa using (hl 0).symm
    simp only [List.length_cons, Region.seqB, Bool.and_eq_true, decide_eq_true_eq] at hB
    refine ⟨fun h1 => (by rw [hB.1] at h1; cases h1), fun i hi => ?_⟩
    rw [hB.1] at hi
    have hik : i = k := by simpa using hi
    subst hik
    have hw : wpOpIn (Wd ro) 0 P ops Q i (wpListIn (Wd ro) 0 P ops Q l) a w := by unfold wpOpIn; simp only [h0]; exact hx
    exact wpOpIn_mono (fun a' w' h' => anyIn_of_seq f l (i + 1) _ a' w' (fun j => by have := hl (j + 1); simpa [Nat.add_assoc, Nat.add_comm 1 j] using this) hB.2 h') hw

theorem arr_bool {L : Array Bool} {k g : Nat} (hs : L.size = k + g) (h1 : ∀ i, i < k → L.getD i false = true) (h2 : ∀ i, k ≤ i → i < k + g → L.getD i true = false) : L = (List.replicate k true ++ List.replicate g false).toArray := by
  refine Array.ext (by simpa using hs) fun i hi hi' => ?_
  rcases Nat.lt_or_ge i k with hk | hk
  · have := h1 i hk
    simp only [List.getElem_toArray, List.getElem_append, List.length_replicate, hk, dite_true, List.getElem_replicate]
    simpa [hi] using this
  · have := h2 i hk (by omega)
    simp only [List.getElem_toArray, List.getElem_append, List.length_replicate, Nat.not_lt.2 hk, dite_false, List.getElem_replicate]
    simpa [hi] using this

theorem anyLift {l : List Oper} {k : Nat} (hB : tailB l.toArray k = true) (hl : ∀ a w, ¬ Q .outgrown a w) :
    ∀ (f : Nat) (L' L : Array Bool) (a : Act) (w : World), L'.size = k → HeadInv .any l.toArray k L → (∀ i, i < k → L.getD i false = L'.getD i false) →
      wpAny P .any (l.take k).toArray (Exit.then (wpListIn (Wd ro) 0 P l.toArray Q (l.drop k)) Q) f L' a w → wpAnyIn (Wd ro) 0 P .any l.toArray Q (f + (l.drop k).length) L a w := by
  simp only [tailB, Bool.and_eq_true] at hB
  obtain ⟨⟨⟨⟨hk, hs⟩, hc⟩, hb⟩, hq⟩ := hB
  have hk : k < l.toArray.size := Nat.blt_eq ▸ hk
  have hk' : k < l.length := by simpa using hk
  have hpre : ∀ j, j < k → (l.take k).toArray[j]? = l.toArray[j]? := fun j hj => by simp [hj]
  have hpsz : (l.take k).toArray.size = k := by simp; omega
  have hgl : (l.drop k).length = l.toArray.size - k := by simp
  have hbk : ∀ j, j < k → ∃ o, l.toArray[j]? = some o ∧ o.guard = none ∧ plainOp o = true ∧ ∀ e ∈ o.after, e.on < j := fun j hj => by
    have := List.all_eq_true.1 hb j (List.mem_range.2 hj)
    cases ho : l.toArray[j]? with
    | none => rw [ho] at this; cases this
    | some o =>
      rw [ho] at this
      simp only [Bool.and_eq_true, Option.isNone_iff_eq_none] at this
      refine ⟨o, rfl, this.1.1, this.1.2, fun e he => ?_⟩
      have := Array.all_eq_true'.1 this.2 e he
      exact Nat.blt_eq ▸ this
  have hrd : ∀ (L' L : Array Bool), L'.size = k → HeadInv .any l.toArray k L → (∀ i, i < k → L.getD i false = L'.getD i false) → ∀ j, j < k → (j ∈ Region.ready .any l.toArray L ↔ j ∈ Region.ready .any (l.take k).toArray L') := fun L' L hL' inv hag j hj => by
    obtain ⟨o, ho, _, _, hbo⟩ := hbk j hj
    have hLs : j < L.size := by rw [inv.size]; omega
    rw [mem_ready, mem_ready]
    constructor
    · rintro ⟨h1, o', ho', hall⟩
      refine ⟨getD_in (by omega) (by rw [← hag j hj]; exact getD_both h1), o', by rw [hpre j hj]; exact ho', fun e he hbd => ?_⟩
      rw [ho] at ho'; cases ho'
      rw [← hag _ (by have := hbo e he; omega)]; exact hall e he hbd
    · rintro ⟨h1, o', ho', hall⟩
      rw [hpre j hj] at ho'
      refine ⟨getD_in hLs (by rw [hag j hj]; exact getD_both h1), o', ho', fun e he hbd => ?_⟩
      rw [ho] at ho'; cases ho'
      rw [hag _ (by have := hbo e he; omega)]; exact hall e he hbd
  have least : ∀ (L : Array Bool), HeadInv .any l.toArray k L → (¬ ∀ j, j < k → L.getD j false = true) → ∃ j, j < k ∧ j ∈ Region.ready .any l.toArray L ∧ L.getD j true = false := fun L inv hD => by
    have hex : ∃ j, j < k ∧ L.getD j false = false := by
      refine Classical.byContradiction fun hn => hD fun j hj => ?_
      cases hc : L.getD j false with
      | true => rfl
      | false => exact absurd ⟨j, hj, hc⟩ hn
    obtain ⟨j, ⟨hj, hjf⟩, hmin⟩ : ∃ j, (j < k ∧ L.getD j false = false) ∧ ∀ i, i < j → ¬ (i < k ∧ L.getD i false = false) := by
      obtain ⟨j, hj⟩ := hex
      induction j using Nat.strongRecOn with
      | _ j ih =>
        by_cases hm : ∃ i, i < j ∧ (i < k ∧ L.getD i false = false)
        · obtain ⟨i, hi, hp⟩ := hm; exact ih i hi hp
        · exact ⟨j, hj, fun i hi hp => hm ⟨i, hi, hp⟩⟩
    obtain ⟨o, ho, _, _, hbo⟩ := hbk j hj
    have hju : L.getD j true = false := getD_in (by rw [inv.size]; omega) hjf
    refine ⟨j, hj, mem_ready.2 ⟨hju, o, ho, fun e he _ => ?_⟩, hju⟩
    have := hbo e he
    cases hc : L.getD e.on false with
    | true => rfl
    | false => exact absurd ⟨by omega, hc⟩ (hmin e.on this)
  intro f
  induction f with
  | zero =>
    intro L' L a w hL' inv hag hx
    by_cases hD : ∀ j, j < k → L.getD j false = true
    · have hLe := arr_bool (g := l.toArray.size - k) (by rw [inv.size]; omega) hD (fun j h1 h2 => inv.tail j h1 (by omega))
      exact anyIn_of_seq 0 (l.drop k) k L a w (fun j => by simp) (by rw [hgl, hLe]; exact hq) hx.2
    · obtain ⟨j, hj, hjr, _⟩ := least L inv hD
      have := (hrd L' L hL' inv hag j hj).1 hjr
      rw [hx.1] at this
      cases this
  | succ f ih =>
    intro L' L a w hL' inv hag hx
    by_cases hD : ∀ j, j < k → L.getD j false = true
    · have hLe := arr_bool (g := l.toArray.size - k) (by rw [inv.size]; omega) hD (fun j h1 h2 => inv.tail j h1 (by omega))
      have hr' : Region.ready .any (l.take k).toArray L' = [] := by
        refine List.eq_nil_iff_forall_not_mem.2 fun j hj => ?_
        obtain ⟨h1, o, ho, _⟩ := mem_ready.1 hj
        have hjk : j < k := by have := (Array.getElem?_eq_some_iff.1 ho).1; omega
        have := getD_both h1
        rw [← hag j hjk, hD j hjk] at this
        cases this
      exact anyIn_of_seq (f + 1) (l.drop k) k L a w (fun j => by simp) (by rw [hgl, hLe]; exact hq) (hx.1 hr')
    · obtain ⟨i, hi, hir, hiu⟩ := least L inv hD
      rw [show f + 1 + (l.drop k).length = (f + (l.drop k).length) + 1 by omega]
      refine ⟨fun e => (by rw [e] at hir; cases hir), fun j hj => ?_⟩
      have hjk : j < k := by
        rcases Nat.lt_or_ge j k with h1 | h1
        · exact h1
        · exact absurd hj (tail_waits hs hc hk inv _ i rfl hi hiu j h1)
      have hj' := (hrd L' L hL' inv hag j hjk).1 hj
      have h2 := hx.2 j hj'
      obtain ⟨o, ho, hg, hpl, hbo⟩ := hbk j hjk
      unfold wpOp at h2
      rw [hpre j hjk] at h2
      simp only [ho, Region.wanted, hg, if_true] at h2
      unfold wpOpIn
      simp only [ho, Region.wanted, hg, if_true]
      refine opLift hpl (fun _ _ _ x => x) hl ?_
      refine h2.imp (Oper.wp_mono fun a' w' hx' => ?_) id
      refine ih (L'.setIfInBounds j true) (L.setIfInBounds j true) a' w' (by simpa using hL') (inv.set hj hjk) (fun m hm => ?_) hx'
      by_cases hmj : j = m
      · subst hmj
        have h3 : j < L.size := by rw [inv.size]; omega
        have h4 : j < L'.size := by omega
        simp [h3, h4]
      · rw [getD_set_ne false hmj, getD_set_ne false hmj]; exact hag m hm

theorem draw_any {l : List Oper} (K : List Asrt) (cls : List Nat) (σ : Sch) (hQ : NoPanic Q) (hok : schedOk l.toArray cls σ = true) (hs : Suf K H) (hx : WS P n l.toArray Q h K σ E h H) :
    ∀ a w, Fr n E a → Ok h H w → wpAny P .any l.toArray Q l.toArray.size (Array.replicate l.toArray.size false) a w := fun a w fa ok => by
  simp only [schedOk, Bool.and_eq_true] at hok
  obtain ⟨⟨⟨h1, h2⟩, h3⟩, h4⟩ := hok
  refine wpAny_of_C (S := Sat h K) (cls := cls) _ _ _ _ ?_
  have hL := Nat.le_of_ble_eq_true h3
  exact (wpS_sound (P := P) (Q := Q) (cls := cls) h1 hQ h2 σ [] (Sat h K) l.toArray.size (Array.replicate l.toArray.size false) false a _ hL (by simp) h4
    (fun _ => ⟨sat_of ok (Base.le.refl _) hs, fun c _ => getD_replicate_false _ _⟩) (fun e => by cases e) (hx.run a w fa ok)).1 rfl

/-- The region: everything ahead of the call of yield in whatever order. -/
theorem c_drawY {id : Nat} {l : List Oper} (k : Nat) (K : List Asrt) (cls : List Nat) (σ : Sch) (hm : P.follows .mixedOrders = true) (hB : tailB l.toArray k = true) (hQ : NoPanic Q) (hl : ∀ a w, ¬ Q .outgrown a w)
    (hok : schedOk (l.take k).toArray cls σ = true) (hs : Suf K H) (hx : WS P n (l.take k).toArray (Exit.then (wpListIn (Wd none) 0 P l.toArray Q (l.drop k)) Q) h K σ E h H) : WC P n (.region id l.toArray true) Q E h H :=
  ⟨fun a w fa ok => (wpIn_wide (n := 0)).1 (wpIn_region_any hm (by
    have ok' : Ok h H { w with drawn := w.drawn + 1 } := ok.drew rfl rfl rfl rfl
    have h1 := draw_any K cls σ (NoPanic.then hQ) hok hs hx a _ fa ok'
    have hk : k < l.length := by
      simp only [tailB, Bool.and_eq_true] at hB
      have := Nat.blt_eq ▸ hB.1.1.1.1
      simpa using this
    have hz : (l.take k).toArray.size = k := by simp; omega
    rw [hz] at h1
    have h2 := anyLift (ro := none) hB hl k (Array.replicate k false) (Array.replicate l.toArray.size false) a _ (by simp)
      ⟨by simp, fun j oj _ he => (by rw [getD_replicate_false] at he; cases he), fun t _ ht => getD_in (by simpa using ht) (getD_replicate_false _ _)⟩ (fun i _ => by rw [getD_replicate_false, getD_replicate_false]) h1
    have h3 : k + (l.drop k).length = l.toArray.size := by simp; omega
    rw [h3] at h2
    exact h2))⟩

/-! ### What an iterator promises; the statement -/
def IterK (P : Program) (gf : Nat) (lb : List Value) {α : Type} (Enc : Base → α → List Value → Prop) (h0 : Base) (Pre : List Asrt) (xs : List α) : Prop :=
  ∀ (l : Nat) (J Jx : List α → Base → Asrt → Prop), (∀ pre h h' A, h.le h' → J pre h A → J pre h' A) → (∀ pre h h' A, h.le h' → Jx pre h A → Jx pre h' A) → YieldK P l Enc J Jx xs →
    ∀ F A w h, h0.le h → J [] h A → Ok h (Pre ++ A :: F) w →
      CallsIn (Wd none) 0 P gf (.func (.yield l) #[] #[] :: lb).toArray w fun e w' => (∃ v, e = .returned v) ∧ ∃ h' A', h.le h' ∧ Ok h' (Pre ++ A' :: F) w' ∧ (J xs h' A' ∨ ∃ pre, pre <+: xs ∧ Jx pre h' A')

theorem iter_enter {gf : Nat} {lb : List Value} {fn : Func} {c : Code} {l : Nat} {w : World} {X : World → Prop} (hf : P.funcs[gf]? = some fn) (hb : fn.body = some c) (hn : (Value.func (.yield l) #[] #[] :: lb).length ≤ fn.ntmps)
    (hx : WC P fn.ntmps c (post P fn fun _ w' => X w') (args0 0 (.func (.yield l) #[] #[] :: lb)) h H) (ok : Ok h H w) :
    CallsIn (Wd none) 0 P gf (.func (.yield l) #[] #[] :: lb).toArray w fun e w' => (∃ v, e = .returned v) ∧ X w' :=
  CallsIn.mono (callsIn_Wd (calls_of_wp hf hb (hx.run _ w (Fr.enter _ _ hn) ok))) fun e w' ⟨v, he, hX⟩ => ⟨⟨v, he⟩, hX⟩

def envP : List Nat → List Value → Env → Env
  | p :: ps, v :: vs, E => envP ps vs ((p, v) :: E)
  | _, _, E => E
theorem fr_params {m : NN} : ∀ (ps : List Nat) (vs : List Value) (E : Env) (a : Act), Fr m E a → (ps.all fun p => Nat.blt p m) = true →
    Fr m (envP ps vs E) { a with tmps := (ps.zip vs).foldl (fun t (p : Nat × Value) => t.setIfInBounds p.1 p.2) a.tmps }
  | [], vs, E, a, fa, _ => by cases vs <;> exact fa
  | p :: ps, [], E, a, fa, _ => fa
  | p :: ps, v :: vs, E, a, fa, hp => by
    simp only [List.all_cons, Bool.and_eq_true] at hp
    exact fr_params ps vs ((p, v) :: E) (a.put (some p) v) (fa.put v hp.1) hp.2

abbrev mark (D : Nat) : Deferred := { target := .collected D, args := #[] }
/-- How a round may be left. -/
def RP {α : Type} (J : List α → Base → Asrt → Prop) (Jx : Code → List α → Base → Asrt → Prop) (pre : List α) (h : Base) (R : List Asrt) : Exit → Act → World → Prop
  | .normal, _, w => ∃ h' A', h.le h' ∧ J pre h' A' ∧ Ok h' (A' :: R) w
  | .ret, _, w => ∃ h' A', h.le h' ∧ Jx .ret pre h' A' ∧ Ok h' (A' :: R) w
  | .exit id, _, w => ∃ h' A', h.le h' ∧ Jx (.exit id) pre h' A' ∧ Ok h' (A' :: R) w
  | .goto q, _, w => ∃ h' A', h.le h' ∧ Jx (.goto q) pre h' A' ∧ Ok h' (A' :: R) w
  | .panic _, _, _ => False
  | .outgrown, _, _ => False
/-- What is asked behind the assignment to the loop's left sides. -/
def AP (n : NN) (E : Env) (h : Base) (H : List Asrt) : Exit → Act → World → Prop := Exit.then (fun a w => Fr n E a ∧ Ok h H w) (fun _ _ _ => False)

theorem a_AP {E1 : Env} (hs : Sub E E1) : AT P n (AP n E1 h H) .normal E h H := ⟨fun a w fa ok => ⟨fa.sub hs, ok⟩⟩
theorem a_RP {α : Type} {J : List α → Base → Asrt → Prop} {Jx : Code → List α → Base → Asrt → Prop} {pre : List α} {A : Asrt} (hle : h0.le h) (hj : J pre h A) (hp : H.Perm (A :: R)) : AT P n (RP J Jx pre h0 R) .normal E h H :=
  ⟨fun a w fa ok => ⟨h, A, hle, hj, ok.perm hp⟩⟩
theorem a_RPx {α : Type} {J : List α → Base → Asrt → Prop} {Jx : Code → List α → Base → Asrt → Prop} {pre : List α} {A : Asrt} (hle : h0.le h) (hj : Jx .ret pre h A) (hp : H.Perm (A :: R)) : AT P n (RP J Jx pre h0 R) .ret E h H :=
  ⟨fun a w fa ok => ⟨h, A, hle, hj, ok.perm hp⟩⟩
theorem WL.opens {l : List Oper} {Hs F : List Asrt} (hx : WL P n ops Q l E h (Hs ++ F)) : WL P n ops Q l E h (all Hs :: F) := WL.open hx
theorem AT.closed {e : Exit} {Hs F : List Asrt} (hp : H.Perm (Hs ++ F)) (hx : AT P n Q e E h (all Hs :: F)) : AT P n Q e E h H := AT.perm hp (AT.close Hs hx)
theorem Ok.putO {o o' : Obj} {w : World} {l : Nat} (hk : Ok h (objA l o :: H) w) : Ok h (objA l o' :: H) (w.putObj l o') := by
  have hb : w.heap[l]? = some o := hk.sat.own (objA l o) (List.mem_cons_self ..)
  exact hk.writeO rfl rfl rfl (World.putObj_heap_same (heap_ltO hb)) fun x hx => World.putObj_heap_other hx

theorem c_range {α : Type} {g : Operand} {ps : Array Tmp} {assign body : Code} {gf : Nat} {lb : List Value} {Enc : Base → α → List Value → Prop} {Pre : List Asrt} {xs : List α} {A0 : Asrt}
    (J : List α → Base → Asrt → Prop) (Jx : Code → List α → Base → Asrt → Prop) (E1 : α → List Value → Env) (hit : IterK P gf lb Enc h Pre xs) (hg : lkO E g = some (.func (.func gf) #[] lb.toArray)) (hc : Callable P gf)
    (hps : ∀ h x args, Enc h x args → args.length = ps.size) (hpb : (ps.toList.all fun p => Nat.blt p n) = true) (hn : n.ds = [])
    (hJm : ∀ pre h h' A, h.le h' → J pre h A → J pre h' A) (hJxm : ∀ c pre h h' A, h.le h' → Jx c pre h A → Jx c pre h' A) (hp : H.Perm (Pre ++ A0 :: F)) (hJ0 : J [] h A0)
    (hassign : ∀ l x h' args A R, h.le h' → Enc h' x args → WR P ⟨n.n, []⟩ (some l) assign (AP ⟨n.n, []⟩ (E1 x args) h' (A :: R)) (envP ps.toList args E) h' (A :: R))
    (hbody : ∀ l pre x h' args A R, h.le h' → pre ++ [x] <+: xs → Enc h' x args → J pre h' A → WR P ⟨n.n, []⟩ (some l) body (RP J Jx (pre ++ [x]) h' R) (E1 x args) h' (A :: R))
    (hdone : ∀ D h' A', h.le h' → J xs h' A' → AT P ⟨n.n, [mark D]⟩ Q .normal E h' (objA D (.deferred (some [])) :: (Pre ++ A' :: F)))
    (hstop : ∀ D c pre h' A', h.le h' → pre <+: xs → Jx c pre h' A' → WC P ⟨n.n, [mark D]⟩ c Q E h' (objA D (.deferred (some [])) :: (Pre ++ A' :: F))) :
    WC P n (.rangeFunc g ps assign body) Q E h H :=
  ⟨fun a w fa ok => (wpIn_wide (n := 0)).1 (wpIn_rangeFunc fun fn hfn => by
    obtain ⟨rec, hrec⟩ : ∃ rec : LoopState → Option Code → Loop, rec = fun st pe => { state := st, pending := pe, fn, tmps := a.tmps, params := ps, assign, body, defers := w.heap.size } := ⟨_, rfl⟩
    have ok1 : Ok h (objA (w.heap.size + 1) (.loop (rec .ready none)) :: objA w.heap.size (.deferred (some [])) :: (Pre ++ A0 :: F)) ((w.alloc (.deferred (some []))).alloc (.loop (rec .ready none))) := by
      have := ((ok.perm hp).allocO (.deferred (some []))).allocO (.loop (rec .ready none))
      rwa [World.size_alloc] at this
    generalize hW1 : (w.alloc (.deferred (some []))).alloc (.loop (rec .ready none)) = W1 at ok1
    generalize hD : w.heap.size = D at ok1
    have hev := fa.eval hg
    refine ⟨D + 1, [mark D], W1, { target := .fn (.func gf) lb.toArray, args := #[.func (.yield (D + 1)) #[] #[]] }, W1, gf, (.func (.yield (D + 1)) #[] #[] :: lb).toArray, W1, ?_, ?_, ?_, ?_, ?_, ?_⟩
    · rw [← hW1, hrec, ← hD]; exact run_enterLoop_outer _ _ _ _ _
    · simp only [resolve, hev]
      simp [go_sem]
    · intro f' _; trivial
    · have e1 : (#[.func (.yield (D + 1)) #[] #[]] : Array Value) ++ lb.toArray = (.func (.yield (D + 1)) #[] #[] :: lb).toArray := by simp
      simp only [invoke, go_sem]
      rw [← e1]
      exact hc _ _
    · intro e; simp [Fence.wide] at e
    · let J1 : List α → Base → Asrt → Prop := fun pre h1 A => ∃ A', h.le h1 ∧ J pre h1 A' ∧ A = all [A', objA (D + 1) (.loop (rec .ready none)), objA D (.deferred (some []))]
      let Jx1 : List α → Base → Asrt → Prop := fun pre h1 A => ∃ A' c, h.le h1 ∧ Jx c pre h1 A' ∧ A = all [A', objA (D + 1) (.loop (rec .done (some c))), objA D (.deferred (some []))]
      have hY : YieldK P (D + 1) Enc J1 Jx1 xs := by
        rintro pre x h1 args A R w2 hpre henc ⟨A', hle1, hj, rfl⟩ ok2
        have ok2 : Ok h1 (A' :: objA (D + 1) (.loop (rec .ready none)) :: objA D (.deferred (some [])) :: R) w2 := Ok.all_iff.1 ok2
        have hl : w2.heap[D + 1]? = some (.loop (rec .ready none)) := ok2.sat.own (objA (D + 1) _) (by simp)
        have hy := run_yield (P := P) (args := args.toArray) hl (by rw [hrec]; simpa using hps _ _ _ henc)
        rw [hrec] at hy
        refine ⟨fn, _, assign, body, hy, roundIn_of_wpIn hfn ?_⟩
        have fa0 : Fr ⟨n.n, []⟩ E { a with defers := [] } := ⟨fa.size, rfl, fa.get⟩
        have fa1 := fr_params (m := ⟨n.n, []⟩) ps.toList args E _ fa0 hpb
        have e2 : (ps.zip args.toArray).foldl (fun tmps (t, a) => tmps.setIfInBounds t a) a.tmps = (ps.toList.zip args).foldl (fun t (p : Nat × Value) => t.setIfInBounds p.1 p.2) a.tmps := by
          rw [← Array.foldl_toList]
          simp
        have h3 := (hassign (D + 1) x h1 args A' _ hle1 henc).run _ w2 fa1 ok2
        simp only [] at h3 ⊢
        rw [e2]
        refine wpIn_mono h3 ?_
        rintro e a3 w3 hp3
        cases e with
        | normal =>
          obtain ⟨fa3, ok3⟩ := hp3
          have hl3 : w3.heap[D + 1]? = some (.loop (rec .ready none)) := ok3.sat.own (objA (D + 1) _) (by simp)
          refine ⟨_, run_beginRound hl3 (by rw [hrec]), ?_⟩
          have ok4 : Ok h1 (A' :: objA (D + 1) (.loop { rec .ready none with state := .busy }) :: objA D (.deferred (some [])) :: R) (w3.putObj (D + 1) (.loop { rec .ready none with state := .busy })) :=
            ((ok3.perm (List.Perm.swap _ _ _)).putO).perm (List.Perm.swap _ _ _)
          have fin : ∀ (jump : Option Code) (h5 : Base) (A5 : Asrt) (w5 : World), Ok h5 (A5 :: objA (D + 1) (.loop { rec .ready none with state := .busy }) :: objA D (.deferred (some [])) :: R) w5 →
              (Instr.endRound (D + 1) jump).run P w5 = .ok (.bool jump.isNone) (w5.putObj (D + 1) (.loop (rec (if jump.isNone then .ready else .done) jump))) ∧
              Ok h5 (all [A5, objA (D + 1) (.loop (rec (if jump.isNone then .ready else .done) jump)), objA D (.deferred (some []))] :: R) (w5.putObj (D + 1) (.loop (rec (if jump.isNone then .ready else .done) jump))) := fun jump h5 A5 w5 ok5 => by
            have hl5 : w5.heap[D + 1]? = some (.loop { rec .ready none with state := .busy }) := ok5.sat.own (objA (D + 1) _) (by simp)
            have hr := run_endRound (P := P) jump hl5
            have h6 := (((ok5.perm (List.Perm.swap _ _ _)).putO (o' := .loop { ({ rec .ready none with state := .busy } : Loop) with state := if jump.isNone then .ready else .done, pending := jump })).perm (List.Perm.swap _ _ _))
            rw [hrec] at hr h6 ⊢
            exact ⟨hr, Ok.all_iff.2 h6⟩
          refine wpIn_mono ((hbody (D + 1) pre x h1 args A' _ hle1 hpre henc hj).run a3 _ fa3 ok4) ?_
          rintro e a5 w5 hp5
          cases e with
          | normal =>
            obtain ⟨h5, A5, hle5, hj5, ok5⟩ := hp5
            obtain ⟨hr, ok6⟩ := fin none h5 A5 w5 ok5
            exact ⟨_, _, hr, h5, _, hle5, ok6, .inl ⟨rfl, A5, hle1.trans hle5, hj5, rfl⟩⟩
          | ret =>
            obtain ⟨h5, A5, hle5, hj5, ok5⟩ := hp5
            obtain ⟨hr, ok6⟩ := fin (some .ret) h5 A5 w5 ok5
            exact ⟨_, _, hr, h5, _, hle5, ok6, .inr ⟨rfl, A5, .ret, hle1.trans hle5, hj5, rfl⟩⟩
          | exit id =>
            obtain ⟨h5, A5, hle5, hj5, ok5⟩ := hp5
            obtain ⟨hr, ok6⟩ := fin (some (.exit id)) h5 A5 w5 ok5
            exact ⟨_, _, hr, h5, _, hle5, ok6, .inr ⟨rfl, A5, .exit id, hle1.trans hle5, hj5, rfl⟩⟩
          | goto q =>
            obtain ⟨h5, A5, hle5, hj5, ok5⟩ := hp5
            obtain ⟨hr, ok6⟩ := fin (some (.goto q)) h5 A5 w5 ok5
            exact ⟨_, _, hr, h5, _, hle5, ok6, .inr ⟨rfl, A5, .goto q, hle1.trans hle5, hj5, rfl⟩⟩
          | panic ch => exact hp5.elim
          | outgrown => exact hp5.elim
        | ret => exact hp3.elim
        | exit id => exact hp3.elim
        | goto q => exact hp3.elim
        | panic ch => exact hp3.elim
        | outgrown => exact hp3.elim
      have ok2 : Ok h (Pre ++ all [A0, objA (D + 1) (.loop (rec .ready none)), objA D (.deferred (some []))] :: F) W1 := by
        have h1 : Ok h (all [A0, objA (D + 1) (.loop (rec .ready none)), objA D (.deferred (some []))] :: (Pre ++ F)) W1 := by
          refine Ok.all_iff.2 (ok1.perm ?_)
          show List.Perm _ (A0 :: _ :: _ :: (Pre ++ F))
          exact (((List.perm_middle (l₁ := Pre) (a := A0) (l₂ := F)).cons _).cons _).trans (perm3 A0 _ _ (Pre ++ F)).symm
        exact h1.perm (List.perm_middle (l₁ := Pre)).symm
      refine CallsIn.mono (hit (D + 1) J1 Jx1 (fun pre h1 h2 A hl ⟨A', g1, g2, g3⟩ => ⟨A', g1.trans hl, hJm _ _ _ _ hl g2, g3⟩) (fun pre h1 h2 A hl ⟨A', c, g1, g2, g3⟩ => ⟨A', c, g1.trans hl, hJxm _ _ _ _ _ hl g2, g3⟩) hY F _ W1 h (Base.le.refl _) ⟨A0, Base.le.refl _, hJ0, rfl⟩ ok2) ?_
      have fa9 : Fr ⟨n.n, [mark D]⟩ E { a with defers := [mark D] ++ a.defers } := ⟨fa.size, by simp [fa.defers, hn], fa.get⟩
      have out : ∀ (o o' : Obj) (h' : Base) (A' : Asrt) (w' : World), Ok h' (Pre ++ all [A', objA (D + 1) o, objA D (.deferred (some []))] :: F) w' → w'.heap[D + 1]? = some o ∧ Ok h' (objA D (.deferred (some [])) :: (Pre ++ A' :: F)) (w'.putObj (D + 1) o') := fun o o' h' A' w' ok' => by
        have h1 : Ok h' (A' :: objA (D + 1) o :: objA D (.deferred (some [])) :: (Pre ++ F)) w' := Ok.all_iff.1 (ok'.perm (List.perm_middle (l₁ := Pre)))
        refine ⟨h1.sat.own (objA (D + 1) o) (by simp), ?_⟩
        have h2 := ((h1.perm (List.Perm.swap _ _ _)).putO (o' := o')).drop
        exact h2.perm ((List.Perm.swap _ _ _).trans ((List.perm_middle (l₁ := Pre)).symm.cons _))
      rintro e w' ⟨⟨v, rfl⟩, h', A', hle, ok', ⟨A2, g1, g2, rfl⟩ | ⟨pre, hpre, A2, c, g1, g2, rfl⟩⟩
      · obtain ⟨hl, ok9⟩ := out _ (.loop { rec .ready none with state := .exhausted }) h' A2 w' ok'
        refine ⟨none, _, ?_, (hdone D h' A2 g1 g2).run _ _ fa9 ok9⟩
        have := run_endLoop (P := P) hl (by rw [hrec]; simp)
        rw [hrec] at this ⊢
        exact this
      · obtain ⟨hl, ok9⟩ := out _ (.loop { rec .done (some c) with state := .exhausted }) h' A2 w' ok'
        refine ⟨some c, _, ?_, (wpIn_wide (n := 0)).2 ((hstop D c pre h' A2 g1 hpre g2).run _ _ fa9 ok9)⟩
        have := run_endLoop (P := P) hl (by rw [hrec]; simp)
        rw [hrec] at this ⊢
        exact this)⟩

/-! ### Functions that leave with a mark -/
def postM (P : Program) (fn : Func) (R : Value → World → Prop) : Exit → Act → World → Prop := bodyPostM Fence.wide 0 P fn fun e w' => ∃ v, e = .returned v ∧ R v w'
theorem enterM {f : FuncId} {args : List Value} {fn : Func} {c : Code} {Pre : List Asrt} {Post : Value → Base → List Asrt → Prop} (hf : P.funcs[f]? = some fn) (hb : fn.body = some c) (hn : args.length ≤ fn.ntmps)
    (hx : ∀ F, WC P fn.ntmps c (postM P fn fun v w' => ∃ h' H', h.le h' ∧ Post v h' H' ∧ Ok h' (H' ++ F) w') (args0 0 args) h (Pre ++ F)) : Tr P f args h Pre Post :=
  fun F w ok => callsIn_wide.1 (callsIn_of_wp_marks (n := 0) hf hb trivial (wpIn_wide.2 ((hx F).run _ w (Fr.enter _ _ hn) ok)))
/-- Out of the function ahead of the loop. -/
theorem doneM0 {fn : Func} {e : Exit} {F H' D : List Asrt} {h0 : Base} {Post : Value → Base → List Asrt → Prop} {vs : List Value} (he : e = .ret ∨ e = .normal) (hr : ResC P E h H fn.results.toList vs)
    (hle : h0.le h) (hH : H = D ++ (H' ++ F)) (hP : Post (packV vs) h H') (hn : n.ds = [] := by rfl) : AT P n (postM P fn fun v w' => ∃ h' H', h0.le h' ∧ Post v h' H' ∧ Ok h' (H' ++ F) w') e E h H :=
  ⟨fun a w fa ok => by
    have hk : ∃ h' H'', h0.le h' ∧ Post (packV vs) h' H'' ∧ Ok h' (H'' ++ F) w := ⟨h, H', hle, hP, (hH ▸ ok).drops⟩
    have : LeavesInM Fence.wide 0 P fn a.tmps (fun e w' => ∃ v, e = .returned v ∧ ∃ h' H', h0.le h' ∧ Post v h' H' ∧ Ok h' (H' ++ F) w') a.defers .returning w := by
      rw [fa.defers, hn]
      exact ⟨packV vs, run_resC fa ok.sat hr, _, rfl, hk⟩
    rcases he with rfl | rfl <;> exact this⟩
/-- Out of the function behind the loop. -/
theorem doneM {fn : Func} {e : Exit} {F H1 H' D : List Asrt} {h0 : Base} {r : Nat} {Post : Value → Base → List Asrt → Prop} {vs : List Value} (hn : n.ds = [mark r]) (he : e = .ret ∨ e = .normal) (hp : H.Perm (objA r (.deferred (some [])) :: H1)) (hr : ResC P E h H1 fn.results.toList vs)
    (hle : h0.le h) (hH : H1 = D ++ (H' ++ F)) (hP : Post (packV vs) h H') : AT P n (postM P fn fun v w' => ∃ h' H', h0.le h' ∧ Post v h' H' ∧ Ok h' (H' ++ F) w') e E h H :=
  ⟨fun a w fa ok => by
    have ok1 := ok.perm hp
    have hd : w.heap[r]? = some (.deferred (some [])) := ok1.sat.own (objA r _) (List.mem_cons_self ..)
    have ok2 := (ok1.putO (o' := .deferred none)).drop
    have hk : ∃ h' H'', h0.le h' ∧ Post (packV vs) h' H'' ∧ Ok h' (H'' ++ F) (w.putObj r (.deferred none)) := ⟨h, H', hle, hP, (hH ▸ ok2).drops⟩
    have : LeavesInM Fence.wide 0 P fn a.tmps (fun e w' => ∃ v, e = .returned v ∧ ∃ h' H', h0.le h' ∧ Post v h' H' ∧ Ok h' (H' ++ F) w') a.defers .returning w := by
      rw [fa.defers, hn]
      exact ⟨by simp, .inl ⟨r, _, rfl, run_takeDeferred hd, packV vs, run_resC fa ok2.sat hr, _, rfl, hk⟩⟩
    rcases he with rfl | rfl <;> exact this⟩
end
end Go.K
