/-
  K5: a region that draws its order: one walk along a schedule serves every order. What only computes, and loads that nothing before a closing operation can disturb, are taken first; what is left stands in one order. Generic over the program. Conditions: none.
-/
import Derived.Test.YtjgfgpdkcojnmaaK4
namespace Go.K
set_option linter.unusedVariables false
set_option linter.unusedSimpArgs false

/-- The ways of a scheduled operation: it computes alone; it reads what stays till a closing operation; it stands alone and keeps that; it closes; it stands with others that may come first, too. -/
inductive Sch where
  | nil
  | pu (i : Nat) (σ : Sch)
  | st (i : Nat) (σ : Sch)
  | on (i : Nat) (σ : Sch)
  | cl (i : Nat) (σ : Sch)
  | alt (i : Nat) (σ ρ : Sch)
def Sch.depth : Sch → Nat
  | .nil => 0
  | .pu _ σ | .st _ σ | .on _ σ | .cl _ σ => σ.depth + 1
  | .alt _ σ ρ => max (σ.depth + 1) ρ.depth

def waits (ops : Array Oper) (c i : Nat) : Bool := match ops[c]? with
  | some o => o.after.any fun e => Region.binds .any e && Nat.beq e.on i
  | none => false

def okSched (ops : Array Oper) (cls : List Nat) : Sch → List Nat → Array Bool → Bool → Bool
  | .nil, X, L, _ => X.isEmpty && (Region.ready .any ops L).isEmpty
  | .pu i σ, X, L, closed => X.isEmpty && (Region.free .any ops L i && (Region.ready .any ops L).contains i && !cls.contains i && okSched ops cls σ [] (L.setIfInBounds i true) closed)
  | .st i σ, X, L, closed => X.isEmpty && (!closed && Region.free .any ops L i && (Region.ready .any ops L).contains i && cls.all (fun c => waits ops c i) && !cls.contains i && okSched ops cls σ [] (L.setIfInBounds i true) closed)
  | .on i σ, X, L, closed => !closed && (Region.ready .any ops L == X ++ [i]) && !cls.contains i && okSched ops cls σ [] (L.setIfInBounds i true) closed
  | .cl i σ, X, L, closed => X.isEmpty && ((Region.ready .any ops L == [i]) && cls.contains i && okSched ops cls σ [] (L.setIfInBounds i true) true)
  | .alt i σ ρ, X, L, closed => !closed && !cls.contains i && okSched ops cls σ [] (L.setIfInBounds i true) closed && okSched ops cls ρ (X ++ [i]) L closed

section
variable {P : Program} {ops : Array Oper} {Q : Exit → Act → World → Prop}

/-- Whatever order is picked, and what is held is held as long as nothing has closed it. -/
def wpAnyC (P : Program) (ops : Array Oper) (Q : Exit → Act → World → Prop) (S : World → Prop) (cls : List Nat) : Nat → Array Bool → Act → World → Prop
  | 0, L, a, w => Region.ready .any ops L = [] ∧ Q .normal a w
  | fuel + 1, L, a, w =>
    (Region.ready .any ops L = [] → Q .normal a w) ∧
    ∀ i ∈ Region.ready .any ops L, wpOp P ops Q i (fun a' w' => ((∀ c ∈ cls, (L.setIfInBounds i true).getD c false = false) → S w') ∧ wpAnyC P ops Q S cls fuel (L.setIfInBounds i true) a' w') a w

theorem wpAny_of_C {S : World → Prop} {cls : List Nat} : ∀ (fuel : Nat) (L : Array Bool) (a : Act) (w : World), wpAnyC P ops Q S cls fuel L a w → wpAny P .any ops Q fuel L a w
  | 0, _, _, _, h => h
  | fuel + 1, _, _, _, h => ⟨h.1, fun i hi => wpOp_mono (fun a' w' h' => wpAny_of_C fuel _ a' w' h'.2) (h.2 i hi)⟩

theorem getD_of_ready {L : Array Bool} {i : Nat} (h : L.getD i true = false) : L.getD i false = false := by
  rcases Nat.lt_or_ge i L.size with h' | h'
  · simpa [Array.getD, h'] using h
  · simp [Array.getD, Nat.not_lt.2 h'] at h
theorem getD_set_ne' {L : Array Bool} {i j : Nat} (h : i ≠ j) : (L.setIfInBounds i true).getD j false = L.getD j false := getD_set_ne false h

/-- What waits for an operation that has not come up is not ready. -/
theorem not_ready_of_waits {c i : Nat} {L : Array Bool} (hw : waits ops c i = true) (hi : L.getD i true = false) (hc : c ∈ Region.ready .any ops L) : False := by
  obtain ⟨_, o, ho, hall⟩ := mem_ready.1 hc
  unfold waits at hw
  simp only [ho] at hw
  obtain ⟨e, he, hb⟩ := Array.any_eq_true'.1 hw
  simp only [Bool.and_eq_true] at hb
  have h1 := hall e he hb.1
  have h2 : e.on = i := Nat.eq_of_beq_eq_true hb.2
  rw [h2, getD_of_ready hi] at h1
  cases h1

/-- An operation that may come up now may be taken first. -/
theorem wpAnyC_first {S T : World → Prop} {cls : List Nat} {i : Nat} {oi : Oper} {v : Value} (hi : ops[i]? = some oi) (hsel : ∀ (j : Nat) (o : Oper) cs b, ops[j]? = some o → o.op ≠ .select cs b) (hQ : NoPanic Q) (hic : i ∉ cls) :
    ∀ (fuel : Nat) (L : Array Bool) (a : Act) (w : World),
      (∀ j oj, ops[j]? = some oj → j ≠ i → L.getD j true = false → (∀ e ∈ oj.after, Region.binds .any e = true → e.on ≠ i) → oi.apart ops oj = true) →
      i ∈ Region.ready .any ops L → YieldsIf P ops T oi v a →
      ((∀ w, T w) ∨ ((∀ w, S w → T w) ∧ (∀ c ∈ cls, waits ops c i = true) ∧ ∀ c ∈ cls, L.getD c false = false)) →
      ((∀ c ∈ cls, L.getD c false = false) → S w) →
      wpAnyC P ops Q S cls fuel (L.setIfInBounds i true) (a.put oi.dst v) w → wpAnyC P ops Q S cls (fuel + 1) L a w := by
  have down : ∀ (L : Array Bool) (i : Nat), (∀ c ∈ cls, (L.setIfInBounds i true).getD c false = false) → ∀ c ∈ cls, L.getD c false = false := fun L i hc c hm => by
    by_cases e : i = c
    · subst e
      have := hc i hm
      rcases Nat.lt_or_ge i L.size with h' | h'
      · simp [Array.getD, h'] at this
      · simp [Array.getD, Nat.not_lt.2 h']
    · have := hc c hm; rwa [getD_set_ne' e] at this
  have tw : ∀ {L : Array Bool} {w : World}, ((∀ w, T w) ∨ ((∀ w, S w → T w) ∧ (∀ c ∈ cls, waits ops c i = true) ∧ ∀ c ∈ cls, L.getD c false = false)) → ((∀ c ∈ cls, L.getD c false = false) → S w) → T w := fun hm hS => by
    rcases hm with hT | ⟨h1, _, h4⟩
    · exact hT _
    · exact h1 _ (hS h4)
  intro fuel
  induction fuel with
  | zero =>
    intro L a w _ hr hy hm hS H
    refine ⟨fun h => (by rw [h] at hr; cases hr), fun j hj => ?_⟩
    by_cases hji : j = i
    · subst hji
      exact hy.wpOp hi (tw hm hS) ⟨fun hc => hS (down _ _ hc), H⟩
    · have := ready_mono hj hji
      rw [H.1] at this
      cases this
  | succ fuel ih =>
    intro L a w hfree hr hy hm hS H
    refine ⟨fun h => (by rw [h] at hr; cases hr), fun j hj => ?_⟩
    by_cases hji : j = i
    · subst hji
      exact hy.wpOp hi (tw hm hS) ⟨fun hc => hS (down _ _ hc), H⟩
    · have h1 := H.2 j (ready_mono hj hji)
      obtain ⟨hjun, oj, hoj, hall⟩ := mem_ready.1 hj
      have hiun := (mem_ready.1 hr).1
      have hnot : ∀ e ∈ oj.after, Region.binds .any e = true → e.on ≠ i := fun e he hb heq => by
        have h1 := hall e he hb
        rw [heq, getD_of_ready hiun] at h1
        cases h1
      have h2 := wpOp_putIf hoj (hfree j oj hoj hji hjun hnot) (fun cs b => hsel i oi cs b hi) (fun cs b => hsel j oj cs b hoj) (fun c a w hq => absurd hq (hQ c _ _)) hy h1
      have hfree' : ∀ k ok, ops[k]? = some ok → k ≠ i → (L.setIfInBounds j true).getD k true = false →
          (∀ e ∈ ok.after, Region.binds .any e = true → e.on ≠ i) → oi.apart ops ok = true := fun k ok hk hki hun hno => by
        refine hfree k ok hk hki ?_ hno
        by_cases hjk : j = k
        · subst hjk; exact hjun
        · rw [getD_set_ne true hjk] at hun; exact hun
      have hm' : (∀ w, T w) ∨ ((∀ w, S w → T w) ∧ (∀ c ∈ cls, waits ops c i = true) ∧ ∀ c ∈ cls, (L.setIfInBounds j true).getD c false = false) := by
        rcases hm with hT | ⟨g1, g2, g4⟩
        · exact .inl hT
        · refine   .inr ⟨g1, g2, fun c hc => ?_⟩
          have hjc : j ≠ c := fun e => by
            subst e
            exact not_ready_of_waits (g2 j hc) hiun hj
          rw [getD_set_ne' hjc]; exact g4 c hc
      refine wpOp_mono (fun a' w' h3 => ?_) h2
      obtain ⟨hy', hS', H'⟩ := h3
      have hS1 : (∀ c ∈ cls, (L.setIfInBounds j true).getD c false = false) → S w' := fun hc => by
        refine hS' fun c hcm => ?_
        rw [Array.setIfInBounds_comm _ _ (Ne.symm hji)]
        rw [getD_set_ne' (fun e : i = c => hic (by rw [e]; exact hcm))]
        exact hc c hcm
      refine ⟨hS1, ih (L.setIfInBounds j true) a' w' hfree' (ready_mono hr (Ne.symm hji)) hy' hm' hS1 ?_⟩
      rw [Array.setIfInBounds_comm _ _ hji]
      exact H'

/-- The walk along a schedule. What is held may grow behind an operation that stands alone. -/
def wpS (P : Program) (ops : Array Oper) (Q : Exit → Act → World → Prop) : Sch → (World → Prop) → Act → World → Prop
  | .nil, _, a, w => Q .normal a w
  | .pu i σ, S, a, w => ∃ o v, ops[i]? = some o ∧ YieldsIf P ops (fun _ => True) o v a ∧ wpS P ops Q σ S (a.put o.dst v) w
  | .st i σ, S, a, w => ∃ o v, ops[i]? = some o ∧ YieldsIf P ops S o v a ∧ wpS P ops Q σ S (a.put o.dst v) w
  | .on i σ, S, a, w => wpOp P ops Q i (fun a' w' => ∃ S' : World → Prop, (∀ w, S' w → S w) ∧ S' w' ∧ wpS P ops Q σ S' a' w') a w
  | .cl i σ, S, a, w => wpOp P ops Q i (fun a' w' => wpS P ops Q σ S a' w') a w
  | .alt i σ ρ, S, a, w => wpOp P ops Q i (fun a' w' => ∃ S' : World → Prop, (∀ w, S' w → S w) ∧ S' w' ∧ wpS P ops Q σ S' a' w') a w ∧ wpS P ops Q ρ S a w

theorem wpAnyC_mono {S S' : World → Prop} {cls : List Nat} (hm : ∀ w, S' w → S w) : ∀ (fuel : Nat) (L : Array Bool) (a : Act) (w : World), wpAnyC P ops Q S' cls fuel L a w → wpAnyC P ops Q S cls fuel L a w
  | 0, _, _, _, h => h
  | fuel + 1, _, _, _, h => ⟨h.1, fun i hi => wpOp_mono (fun a' w' h' => ⟨fun hc => hm _ (h'.1 hc), wpAnyC_mono hm fuel _ a' w' h'.2⟩) (h.2 i hi)⟩

theorem wpAnyC_done {S : World → Prop} {cls : List Nat} {L : Array Bool} {a : Act} {w : World} (hr : Region.ready .any ops L = []) (h : Q .normal a w) : ∀ fuel, wpAnyC P ops Q S cls fuel L a w
  | 0 => ⟨hr, h⟩
  | _ + 1 => ⟨fun _ => h, by rw [hr]; simp⟩

theorem okSched_ready {cls : List Nat} : ∀ (σ : Sch) (X : List Nat) (L : Array Bool) (closed : Bool), okSched ops cls σ X L closed = true → X ≠ [] → ∃ k, k ∈ Region.ready .any ops L
  | .nil, X, L, closed, h, hX => by simp only [okSched, Bool.and_eq_true] at h; exact absurd (by simpa using h.1) hX
  | .pu i σ, X, L, closed, h, hX => by simp only [okSched, Bool.and_eq_true] at h; exact absurd (by simpa using h.1) hX
  | .st i σ, X, L, closed, h, hX => by simp only [okSched, Bool.and_eq_true] at h; exact absurd (by simpa using h.1) hX
  | .cl i σ, X, L, closed, h, hX => by simp only [okSched, Bool.and_eq_true] at h; exact absurd (by simpa using h.1) hX
  | .on i σ, X, L, closed, h, hX => by
    simp only [okSched, Bool.and_eq_true] at h
    have hr : Region.ready .any ops L = X ++ [i] := by simpa using h.1.1.2
    exact ⟨i, by rw [hr]; simp⟩
  | .alt i σ ρ, X, L, closed, h, hX => by
    simp only [okSched, Bool.and_eq_true] at h
    exact okSched_ready ρ _ _ _ h.2 (by simp)
/-- What is left of those that are ready. -/
def restG (P : Program) (ops : Array Oper) (Q : Exit → Act → World → Prop) (S : World → Prop) (cls : List Nat) (f : Nat) (X : List Nat) (L : Array Bool) (a : Act) (w : World) : Prop :=
  ∀ j ∈ Region.ready .any ops L, j ∉ X → wpOp P ops Q j (fun a' w' => ((∀ c ∈ cls, (L.setIfInBounds j true).getD c false = false) → S w') ∧ wpAnyC P ops Q S cls f (L.setIfInBounds j true) a' w') a w
theorem rest_any {S : World → Prop} {cls : List Nat} {f : Nat} {i : Nat} {L : Array Bool} {a : Act} {w : World} (hi : i ∈ Region.ready .any ops L) (h : restG P ops Q S cls f [] L a w) : wpAnyC P ops Q S cls (f + 1) L a w :=
  ⟨fun e => (by rw [e] at hi; cases hi), fun j hj => h j hj (by simp)⟩

theorem wpS_sound {cls : List Nat} (hs : Region.noSelect ops = true) (hQ : NoPanic Q) (hcls : cls.all (fun c => Nat.blt c ops.size) = true) : ∀ (σ : Sch) (X : List Nat) (S : World → Prop) (f : Nat) (L : Array Bool) (closed : Bool) (a : Act) (w : World),
    σ.depth ≤ f → L.size = ops.size → okSched ops cls σ X L closed = true → (closed = false → S w ∧ ∀ c ∈ cls, L.getD c false = false) → (closed = true → ∃ c ∈ cls, L.getD c false = true) → wpS P ops Q σ S a w →
    (X = [] → wpAnyC P ops Q S cls f L a w) ∧ (∀ g, f = g + 1 → X ≠ [] → restG P ops Q S cls g X L a w)
  | .nil, X, S, f, L, closed, a, w, hf, hL, hB, _, _, h => by
    simp only [okSched, Bool.and_eq_true] at hB
    obtain ⟨hX, hB⟩ := hB
    have hX : X = [] := by simpa using hX
    exact ⟨fun _ => wpAnyC_done (by simpa using hB) h _, fun _ _ e => absurd hX e⟩
  | .pu i σ, X, S, f, L, closed, a, w, hf, hL, hB, hc, hc', h => by
    simp only [okSched, Bool.and_eq_true] at hB
    obtain ⟨hX, ⟨⟨h1, h2⟩, h3⟩, h4⟩ := hB
    have hX : X = [] := by simpa using hX
    refine ⟨fun _ => ?_, fun _ _ e => absurd hX e⟩
    obtain ⟨o, v, ho, hy, hk⟩ := h
    have hic : i ∉ cls := by simpa using h3
    simp only [Sch.depth] at hf
    obtain ⟨f, rfl⟩ : ∃ g, f = g + 1 := ⟨f - 1, by omega⟩
    refine wpAnyC_first (T := fun _ => True) ho (Region.noSelect_spec hs) hQ hic _ L a w (Region.free_spec ho h1) (by simpa using h2) hy (.inl fun _ => trivial) (fun hcl => ?_)
      ((wpS_sound hs hQ hcls σ [] S f _ closed _ _ (by omega) (by simpa using hL) h4 (fun e => ⟨(hc e).1, fun c hcm => ?_⟩) (fun e => ?_) hk).1 rfl)
    · cases closed with
      | false => exact (hc rfl).1
      | true => obtain ⟨c, hcm, hct⟩ := hc' rfl; rw [hcl c hcm] at hct; cases hct
    · rw [getD_set_ne' (fun e' : i = c => hic (by rw [e']; exact hcm))]; exact (hc e).2 c hcm
    · obtain ⟨c, hcm, hct⟩ := hc' e
      exact ⟨c, hcm, by rw [getD_set_ne' (fun e' : i = c => hic (by rw [e']; exact hcm))]; exact hct⟩
  | .st i σ, X, S, f, L, closed, a, w, hf, hL, hB, hc, hc', h => by
    simp only [okSched, Bool.and_eq_true] at hB
    obtain ⟨hX, ⟨⟨⟨⟨h0, h1⟩, h2⟩, h5⟩, h3⟩, h4⟩ := hB
    have hX : X = [] := by simpa using hX
    refine ⟨fun _ => ?_, fun _ _ e => absurd hX e⟩
    obtain ⟨o, v, ho, hy, hk⟩ := h
    have hic : i ∉ cls := by simpa using h3
    have hcl0 : closed = false := by simpa using h0
    simp only [Sch.depth] at hf
    obtain ⟨f, rfl⟩ : ∃ g, f = g + 1 := ⟨f - 1, by omega⟩
    refine wpAnyC_first (T := S) ho (Region.noSelect_spec hs) hQ hic _ L a w (Region.free_spec ho h1) (by simpa using h2) hy (.inr ⟨fun _ h => h, fun c hcm => by simpa using List.all_eq_true.1 h5 c hcm, (hc hcl0).2⟩) (fun _ => (hc hcl0).1)
      ((wpS_sound hs hQ hcls σ [] S f _ closed _ _ (by omega) (by simpa using hL) h4 (fun e => ⟨(hc e).1, fun c hcm => ?_⟩) (fun e => by rw [hcl0] at e; cases e) hk).1 rfl)
    rw [getD_set_ne' (fun e' : i = c => hic (by rw [e']; exact hcm))]; exact (hc e).2 c hcm
  | .on i σ, X, S, f, L, closed, a, w, hf, hL, hB, hc, hc', h => by
    simp only [okSched, Bool.and_eq_true] at hB
    obtain ⟨⟨⟨h0, h1⟩, h3⟩, h4⟩ := hB
    have hic : i ∉ cls := by simpa using h3
    have hcl0 : closed = false := by simpa using h0
    have hr : Region.ready .any ops L = X ++ [i] := by simpa using h1
    simp only [Sch.depth] at hf
    obtain ⟨f, rfl⟩ : ∃ g, f = g + 1 := ⟨f - 1, by omega⟩
    have G : restG P ops Q S cls f X L a w := fun j hj hjX => by
      rw [hr] at hj
      have hji : j = i := by
        rcases List.mem_append.1 hj with e | e
        · exact absurd e hjX
        · exact List.mem_singleton.1 e
      subst hji
      refine wpOp_mono (fun a' w' ⟨S', hsub, hS', hk⟩ => ⟨fun _ => hsub _ hS', wpAnyC_mono hsub _ _ _ _ ((wpS_sound hs hQ hcls σ [] S' f _ closed _ _ (by omega) (by simpa using hL) h4 (fun e => ⟨hS', fun c hcm => ?_⟩) (fun e => by rw [hcl0] at e; cases e) hk).1 rfl)⟩) h
      rw [getD_set_ne' (fun e' : j = c => hic (by rw [e']; exact hcm))]; exact (hc e).2 c hcm
    refine ⟨fun e => rest_any (i := i) (by rw [hr]; simp) (by rw [e] at G; exact G), fun g e _ => ?_⟩
    obtain rfl : f = g := by omega
    exact G
  | .cl i σ, X, S, f, L, closed, a, w, hf, hL, hB, hc, hc', h => by
    simp only [okSched, Bool.and_eq_true] at hB
    obtain ⟨hX, ⟨h1, h3⟩, h4⟩ := hB
    have hX : X = [] := by simpa using hX
    refine ⟨fun _ => ?_, fun _ _ e => absurd hX e⟩
    have hic : i ∈ cls := by simpa using h3
    have hr : Region.ready .any ops L = [i] := by simpa using h1
    have hlt : i < L.size := by
      have := List.all_eq_true.1 hcls i hic
      rw [hL]; simpa [Nat.blt_eq] using this
    have hset : (L.setIfInBounds i true).getD i false = true := by simp [Array.getD, hlt]
    simp only [Sch.depth] at hf
    obtain ⟨f, rfl⟩ : ∃ g, f = g + 1 := ⟨f - 1, by omega⟩
    refine ⟨fun e => (by rw [hr] at e; cases e), fun j hj => ?_⟩
    rw [hr] at hj
    have hji : j = i := by simpa using hj
    subst hji
    exact wpOp_mono (fun a' w' hk => ⟨fun hcl => absurd (hcl j hic) (by rw [hset]; simp), (wpS_sound hs hQ hcls σ [] S f _ true _ _ (by omega) (by simpa using hL) h4 (fun e => by cases e) (fun _ => ⟨j, hic, hset⟩) hk).1 rfl⟩) h
  | .alt i σ ρ, X, S, f, L, closed, a, w, hf, hL, hB, hc, hc', h => by
    simp only [okSched, Bool.and_eq_true] at hB
    obtain ⟨⟨⟨h0, h3⟩, h4⟩, h5⟩ := hB
    have hic : i ∉ cls := by simpa using h3
    have hcl0 : closed = false := by simpa using h0
    simp only [Sch.depth] at hf
    obtain ⟨f, rfl⟩ : ∃ g, f = g + 1 := ⟨f - 1, by omega⟩
    have R := (wpS_sound hs hQ hcls ρ (X ++ [i]) S (f + 1) L closed a w (by omega) hL h5 hc hc' h.2).2 f rfl (by simp)
    have G : restG P ops Q S cls f X L a w := fun j hj hjX => by
      by_cases hji : j = i
      · subst hji
        refine wpOp_mono (fun a' w' ⟨S', hsub, hS', hk⟩ => ⟨fun _ => hsub _ hS', wpAnyC_mono hsub _ _ _ _ ((wpS_sound hs hQ hcls σ [] S' f _ closed _ _ (by omega) (by simpa using hL) h4 (fun e => ⟨hS', fun c hcm => ?_⟩) (fun e => by rw [hcl0] at e; cases e) hk).1 rfl)⟩) h.1
        rw [getD_set_ne' (fun e' : j = c => hic (by rw [e']; exact hcm))]; exact (hc e).2 c hcm
      · exact R j hj (by simp [hjX, hji])
    have hne : ∃ k, k ∈ Region.ready .any ops L := okSched_ready ρ _ _ _ h5 (by simp)
    obtain ⟨k, hk⟩ := hne
    refine ⟨fun e => rest_any (i := k) hk (by rw [e] at G; exact G), fun g e _ => ?_⟩
    obtain rfl : f = g := by omega
    exact G

def schedOk (ops : Array Oper) (cls : List Nat) (σ : Sch) : Bool :=
  Region.noSelect ops && cls.all (fun c => Nat.blt c ops.size) && Nat.ble σ.depth ops.size && okSched ops cls σ [] (Array.replicate ops.size false) false

/-- What the held assertions say. -/
structure Suf (K H : List Asrt) : Prop where
  sub : ∀ A ∈ K, A ∈ H
theorem suf_refl (K : List Asrt) : Suf K K := ⟨fun _ h => h⟩
theorem suf_cons {K H : List Asrt} {A : Asrt} (h : Suf K H) : Suf K (A :: H) := ⟨fun B hB => List.mem_cons_of_mem _ (h.sub B hB)⟩
theorem suf_nil {H : List Asrt} : Suf [] H := ⟨fun _ h => by cases h⟩
theorem suf_both {K H : List Asrt} {A : Asrt} (h : Suf K H) : Suf (A :: K) (A :: H) := ⟨fun B hB => by
  rcases List.mem_cons.1 hB with rfl | hB
  · exact List.mem_cons_self ..
  · exact List.mem_cons_of_mem _ (h.sub B hB)⟩

structure WS (P : Program) (n : Nat) (ops : Array Oper) (Q : Exit → Act → World → Prop) (h0 : Base) (K : List Asrt) (σ : Sch) (E : Env) (h : Base) (H : List Asrt) : Prop where
  run : ∀ a w, Fr n E a → Ok h H w → wpS P ops Q σ (Sat h0 K) a w

variable {n : Nat} {E : Env} {h h0 : Base} {H K : List Asrt} {l : List Oper}

theorem sat_of {w : World} (ok : Ok h H w) (hle : h0.le h) (hs : Suf K H) : Sat h0 K w := ⟨fun b o hb => ok.sat.imm b o (hle.mem b o hb), fun A hA => ok.sat.own A (hs.sub A hA)⟩

/-- The beginning. -/
theorem c_draw {id : Nat} (K : List Asrt) (cls : List Nat) (σ : Sch) (hm : P.follows .mixedOrders = true) (hQ : NoPanic Q) (hok : schedOk l.toArray cls σ = true) (hs : Suf K H) (hx : WS P n l.toArray Q h K σ E h H) :
    WC P n (.region id l.toArray true) Q E h H :=
  ⟨fun a w fa ok => by
    simp only [schedOk, Bool.and_eq_true] at hok
    obtain ⟨⟨⟨h1, h2⟩, h3⟩, h4⟩ := hok
    refine wp_region_any hm (wpAny_of_C (S := Sat h K) (cls := cls) _ _ _ _ ?_)
    have ok' : Ok h H { w with drawn := w.drawn + 1 } := ok.drew rfl rfl rfl rfl
    have hL := Nat.le_of_ble_eq_true h3
    have := (wpS_sound (P := P) (Q := Q) (cls := cls) h1 hQ h2 σ [] (Sat h K) l.toArray.size (Array.replicate l.toArray.size false) false a _ hL (by simp) h4
      (fun _ => ⟨sat_of ok' (Base.le.refl h) hs, fun c _ => by simp [Array.getD]⟩) (fun e => by cases e) (hx.run a _ fa ok')).1 rfl
    exact this⟩
theorem d_nil (hx : AT P n Q .normal E h H) : WS P n ops Q h0 K .nil E h H := ⟨fun a w fa ok => hx.run a w fa ok⟩

variable {σ : Sch} {i d : Nat} {op : Op} {ty : TypeId} {ps : String} {af : Array Edge} {v : Value}
theorem d_pu (ho : ops[i]? = some ⟨some d, op, ty, ps, af, none⟩) (hp : ∀ hh KK, Pu P n E hh KK ⟨some d, op, ty, ps, af, none⟩ v) (hd : Nat.blt d n = true) (hk : WS P n ops Q h0 K σ ((d, v) :: E) h H) : WS P n ops Q h0 K (.pu i σ) E h H :=
  ⟨fun a w fa ok => ⟨_, v, ho, .inl ⟨by simp [Region.wanted], fun w' _ => (hp { os := w'.os, tape := w'.tape, output := w'.output, mem := fun _ => none } []).run a w' fa ⟨fun b o hb => (by cases hb), fun A hA => (by cases hA)⟩⟩, hk.run _ _ (fa.put v hd) ok⟩⟩
theorem d_puG {j s : Nat} {want : Bool} (ho : ops[i]? = some ⟨some d, op, ty, ps, af, some (j, want)⟩) (hj : dstOf ops j = some s) (hl : lk E s = some (.bool want)) (hp : ∀ hh KK, Pu P n E hh KK ⟨some d, op, ty, ps, af, some (j, want)⟩ v) (hd : Nat.blt d n = true) (hk : WS P n ops Q h0 K σ ((d, v) :: E) h H) : WS P n ops Q h0 K (.pu i σ) E h H :=
  ⟨fun a w fa ok => ⟨_, v, ho, .inl ⟨by simp [Region.wanted, yielded_of fa hj hl], fun w' _ => (hp { os := w'.os, tape := w'.tape, output := w'.output, mem := fun _ => none } []).run a w' fa ⟨fun b o hb => (by cases hb), fun A hA => (by cases hA)⟩⟩, hk.run _ _ (fa.put v hd) ok⟩⟩
theorem d_skip {j s : Nat} {want : Bool} (ho : ops[i]? = some ⟨some d, op, ty, ps, af, some (j, want)⟩) (hj : dstOf ops j = some s) (hl : lk E s = some (.bool (!want))) (hd : Nat.blt d n = true) (hk : WS P n ops Q h0 K σ ((d, undef) :: E) h H) : WS P n ops Q h0 K (.pu i σ) E h H :=
  ⟨fun a w fa ok => ⟨_, undef, ho, .inr ⟨by simp [Region.wanted, yielded_of fa hj hl], rfl⟩, hk.run _ _ (fa.put undef hd) ok⟩⟩
theorem d_skipS {j s : Nat} {want : Bool} (ho : ops[i]? = some ⟨some d, op, ty, ps, af, some (j, want)⟩) (hj : dstOf ops j = some s) (hl : lk E s = some (.bool (!want))) (hd : Nat.blt d n = true) (hk : WS P n ops Q h0 K σ ((d, undef) :: E) h H) : WS P n ops Q h0 K (.st i σ) E h H :=
  ⟨fun a w fa ok => ⟨_, undef, ho, .inr ⟨by simp [Region.wanted, yielded_of fa hj hl], rfl⟩, hk.run _ _ (fa.put undef hd) ok⟩⟩
theorem d_st (ho : ops[i]? = some ⟨some d, op, ty, ps, af, none⟩) (hp : Pu P n E h0 K ⟨some d, op, ty, ps, af, none⟩ v) (hd : Nat.blt d n = true) (hk : WS P n ops Q h0 K σ ((d, v) :: E) h H) : WS P n ops Q h0 K (.st i σ) E h H :=
  ⟨fun a w fa ok => ⟨_, v, ho, .inl ⟨by simp [Region.wanted], fun w' hw' => hp.run a w' fa hw'⟩, hk.run _ _ (fa.put v hd) ok⟩⟩
theorem d_stG {j s : Nat} {want : Bool} (ho : ops[i]? = some ⟨some d, op, ty, ps, af, some (j, want)⟩) (hj : dstOf ops j = some s) (hl : lk E s = some (.bool want)) (hp : Pu P n E h0 K ⟨some d, op, ty, ps, af, some (j, want)⟩ v) (hd : Nat.blt d n = true) (hk : WS P n ops Q h0 K σ ((d, v) :: E) h H) : WS P n ops Q h0 K (.st i σ) E h H :=
  ⟨fun a w fa ok => ⟨_, v, ho, .inl ⟨by simp [Region.wanted, yielded_of fa hj hl], fun w' hw' => hp.run a w' fa hw'⟩, hk.run _ _ (fa.put v hd) ok⟩⟩

theorem wpOp_of_list {o : Oper} {K : Act → World → Prop} {a : Act} {w : World} (ho : ops[i]? = some o) (h : wpList P ops (Exit.then K Q) [o] a w) : wpOp P ops Q i K a w := by
  unfold wpOp
  simp only [ho]
  unfold wpList at h
  split
  · rename_i hw
    rw [if_pos hw] at h
    rcases h with h | ⟨h1, h2⟩
    · refine .inl ?_
      unfold Oper.wp at *
      generalize (execOp a.eval o).run P w = r at *
      cases r with
      | ok nx w' => cases nx <;> simp only [Oper.upon] at h ⊢ <;> first | exact h | exact Calls.mono h (fun e w'' he => by cases e <;> exact he) | exact Rows.mono h (fun _ _ he => he)
      | halt x w' => cases x <;> simp only [Oper.upon] at h ⊢ <;> exact h
    · exact .inr ⟨h1, h2⟩
  · rename_i hw
    rw [if_neg hw] at h
    exact h
/-- What goes on behind an operation that stands alone. -/
abbrev OnK (P : Program) (n : Nat) (ops : Array Oper) (Q : Exit → Act → World → Prop) (h0 : Base) (K : List Asrt) (σ : Sch) (KK : Act → World → Prop) : Prop :=
  ∀ E' h' H' h1 K1, h0.le h1 → Suf K K1 → h1.le h' → Suf K1 H' → WS P n ops Q h1 K1 σ E' h' H' → ∀ a w, Fr n E' a → Ok h' H' w → KK a w
theorem d_on {o : Oper} (ho : ops[i]? = some o) (hk : ∀ KK : Act → World → Prop, OnK P n ops Q h0 K σ KK → WL P n ops (Exit.then KK Q) [o] E h H) : WS P n ops Q h0 K (.on i σ) E h H :=
  ⟨fun a w fa ok => wpOp_of_list ho ((hk _ fun E' h' H' h1 K1 g1 g2 hle hs hx a' w' fa' ok' => ⟨Sat h1 K1, fun u hu => ⟨fun b o hb => hu.imm b o (g1.mem b o hb), fun A hA => hu.own A (g2.sub A hA)⟩, sat_of ok' hle hs, hx.run a' w' fa' ok'⟩).run a w fa ok)⟩
theorem d_cl {o : Oper} (ho : ops[i]? = some o) (hk : ∀ KK : Act → World → Prop, (∀ E' h' H', WS P n ops Q h0 K σ E' h' H' → ∀ a w, Fr n E' a → Ok h' H' w → KK a w) → WL P n ops (Exit.then KK Q) [o] E h H) : WS P n ops Q h0 K (.cl i σ) E h H :=
  ⟨fun a w fa ok => wpOp_of_list ho ((hk _ fun E' h' H' hx a' w' fa' ok' => hx.run a' w' fa' ok').run a w fa ok)⟩
theorem d_onE {KK : Act → World → Prop} (hK : OnK P n ops Q h0 K σ KK) (hle : h0.le h) (hs : Suf K H) (hx : WS P n ops Q h0 K σ E h H) : AT P n (Exit.then KK Q) .normal E h H :=
  ⟨fun a w fa ok => hK E h H h0 K (Base.le.refl _) (suf_refl _) hle hs hx a w fa ok⟩
/-- What is held grows. -/
theorem d_onS {KK : Act → World → Prop} (hK : OnK P n ops Q h0 K σ KK) (K1 : List Asrt) (hle : h0.le h) (h1 : Suf K K1) (hs : Suf K1 H) (hx : WS P n ops Q h K1 σ E h H) : AT P n (Exit.then KK Q) .normal E h H :=
  ⟨fun a w fa ok => hK E h H h K1 hle h1 (Base.le.refl _) hs hx a w fa ok⟩
theorem d_clE {KK : Act → World → Prop} (hK : ∀ E' h' H', WS P n ops Q h0 K σ E' h' H' → ∀ a w, Fr n E' a → Ok h' H' w → KK a w) (hx : WS P n ops Q h0 K σ E h H) : AT P n (Exit.then KK Q) .normal E h H :=
  ⟨fun a w fa ok => hK E h H hx a w fa ok⟩
theorem WS.perm {H' : List Asrt} (hp : H.Perm H') (hx : WS P n ops Q h0 K σ E h H') : WS P n ops Q h0 K σ E h H := ⟨fun a w fa ok => hx.run a w fa (ok.perm hp)⟩
/-- A Bool of the frame that is not known yet. -/
theorem d_split {s : Nat} {b : Bool} (hl : lk E s = some (.bool b)) (ht : b = true → WS P n ops Q h0 K σ ((s, .bool true) :: E) h H) (hf : b = false → WS P n ops Q h0 K σ ((s, .bool false) :: E) h H) : WS P n ops Q h0 K σ E h H := by
  cases b with
  | true => exact ⟨fun a w fa ok => (ht rfl).run a w (fa.sub (Sub.cons hl (Sub.refl E))) ok⟩
  | false => exact ⟨fun a w fa ok => (hf rfl).run a w (fa.sub (Sub.cons hl (Sub.refl E))) ok⟩
theorem d_splitD {s : Nat} {p : Prop} [Decidable p] (hl : lk E s = some (.bool (decide p))) (ht : p → WS P n ops Q h0 K σ ((s, .bool true) :: E) h H) (hf : ¬ p → WS P n ops Q h0 K σ ((s, .bool false) :: E) h H) : WS P n ops Q h0 K σ E h H :=
  d_split hl (fun e => ht (of_decide_eq_true e)) (fun e => hf (of_decide_eq_false e))
/-- Several may come first. -/
theorem d_alt {ρ : Sch} (h1 : WS P n ops Q h0 K (.on i σ) E h H) (h2 : WS P n ops Q h0 K ρ E h H) : WS P n ops Q h0 K (.alt i σ ρ) E h H := ⟨fun a w fa ok => ⟨h1.run a w fa ok, h2.run a w fa ok⟩⟩
/-- Where the ways of a region that draws meet. -/
def Jn {β : Type} (n : Nat) (Ej : β → Env) (hj : β → Base) (Hj : β → List Asrt) : Exit → Act → World → Prop := fun e a w => e = .normal ∧ ∃ b, Fr n (Ej b) a ∧ Ok (hj b) (Hj b) w
theorem joined {β : Type} {Ej : β → Env} {hj : β → Base} {Hj : β → List Asrt} (b : β) (hE : Sub E (Ej b)) (hB : hj b = h) (hH : Hj b = H) : AT P n (Jn n Ej hj Hj) .normal E h H := ⟨fun a w fa ok => ⟨rfl, b, fa.sub hE, by rw [hB, hH]; exact ok⟩⟩
theorem c_drawJ {β : Type} {id : Nat} {h : Base} {H : List Asrt} {E : Env} {K : List Asrt} {l : List Oper} {Ej : β → Env} {hj : β → Base} {Hj : β → List Asrt} (cls : List Nat) (σ : Sch) (hm : P.follows .mixedOrders = true) (hok : schedOk l.toArray cls σ = true) (hs : Suf K H)
    (hx : WS P n l.toArray (Jn n Ej hj Hj) h K σ E h H) (hk : ∀ b, AT P n Q .normal (Ej b) (hj b) (Hj b)) : WC P n (.region id l.toArray true) Q E h H :=
  ⟨fun a w fa ok => Code.wp_mono (fun e a' w' ⟨he, b, fb, ob⟩ => by subst he; exact (hk b).run a' w' fb ob) ((c_draw K cls σ hm (fun c a w e => by cases e.1) hok hs hx).run a w fa ok)⟩
end
end Go.K
