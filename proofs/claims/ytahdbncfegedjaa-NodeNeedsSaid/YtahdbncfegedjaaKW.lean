/-
  A queue: a slice of one's own that starts anywhere in its block; its head taken, an element put behind it. Generic over the program. And what becomes a queue, or is frozen out of one. Conditions: each theorem's own.
-/
import Derived.Test.YtahdbncfegedjaaKU

namespace Go.K
set_option linter.unusedVariables false
set_option linter.unusedSimpArgs false
def quV (a : Option Nat) (o m cap : Nat) : Value := .slice (a.map fun b => ⟨b, o, none⟩) m cap
/-- A slice of the call's own, elements of one cell, from anywhere in its block on. -/
def quA (T : TypeId) (a : Option Nat) (o m cap : Nat) (cs : List Value) : Asrt where
  ids := a.toList
  holds w := match a with
    | none => m = 0 ∧ cap = 0 ∧ cs = []
    | some b => ∃ pre sp post fz, w.heap[b]? = some (.cells (pre ++ cs ++ sp ++ post).toArray T fz) ∧ pre.length = o ∧ cs.length = m ∧ cs.length + sp.length = cap ∧ cap ≤ maxLen ∧ Free fz (o + cap)
  live w h x hx := by
    cases a with
    | none => simp at hx
    | some b =>
      simp at hx; subst hx
      obtain ⟨pre, sp, post, fz, h1, _⟩ := h
      exact heap_lt h1
  loc w w' hb h := by
    cases a with
    | none => exact h
    | some b =>
      obtain ⟨pre, sp, post, fz, h1, h2⟩ := h
      exact ⟨pre, sp, post, fz, by rw [hb b (by simp)]; exact h1, h2⟩
section
variable {P : Program} {n : NN} {Q : Exit → Act → World → Prop} {E : Env} {h : Base} {H R K : List Asrt} {ops : Array Oper} {rest : List Oper}
variable {t ty : TypeId} {ps : String} {af : Array Edge} {d : Nat} {v : Value} {x y : Operand} {dst : Option Nat} {g : Option (Nat × Bool)}
theorem WL.toQu {L : List Oper} {b T : Nat} {cs : List Value} (hl : cs.length ≤ maxLen) (hk : WL P n ops Q L E h (quA T (some b) 0 cs.length cs.length cs :: H)) : WL P n ops Q L E h (blk b T cs :: H) :=
  ⟨fun ac w fa ok => hk.run _ w fa ⟨ok.os, ok.tape, ok.output, ⟨ok.sat.imm, fun A hA => by
    rcases List.mem_cons.1 hA with rfl | hA'
    · refine ⟨[], [], [], (0, 0), ?_, rfl, rfl, Nat.add_zero _, hl, Free.zero _⟩
      have : w.heap[b]? = some (.cells cs.toArray T (0, 0)) := ok.own_head
      rw [this, List.nil_append, List.append_nil, List.append_nil]
    · exact ok.sat.own A (List.mem_cons_of_mem _ hA')⟩, ok.nd, ok.dj⟩⟩
theorem cel_qu {T b o m cap : Nat} {u : Value} {cs : List Value} (i : Nat) (hi : K[i]? = some (quA T (some b) o m cap (u :: cs))) : Cel h K b o u := ⟨fun w hs => by
  obtain ⟨pre, sp, post, fz, h1, h2, _⟩ := hs.own _ (List.mem_of_getElem? hi)
  simp only [World.cell?, h1]
  simp [← h2]⟩
theorem Ok.tailQu {T b o m cap : Nat} {u : Value} {cs : List Value} {w : World} (ok : Ok h (quA T (some b) o (m + 1) cap (u :: cs) :: H) w) : Ok h (quA T (some b) (if cap = 1 then o else o + 1) m (cap - 1) cs :: H) w :=
  ⟨ok.os, ok.tape, ok.output, ⟨ok.sat.imm, fun A hA => by
    rcases List.mem_cons.1 hA with rfl | hA'
    · obtain ⟨pre, sp, post, fz, h1, h2, h3, h4, h5, h6⟩ := ok.own_head
      rw [List.length_cons] at h3 h4
      by_cases hc : cap = 1
      · have hcs : cs = [] := List.length_eq_zero_iff.1 (by omega)
        have hsp : sp = [] := List.length_eq_zero_iff.1 (by omega)
        subst hcs hsp
        rw [if_pos hc]
        refine ⟨pre, [], u :: post, fz, ?_, h2, by simp at h3 ⊢; omega, by simp; omega, by omega, fun o ho => h6 o (by omega)⟩
        rw [h1]
        simp
      · rw [if_neg hc]
        refine ⟨pre ++ [u], sp, post, fz, ?_, by rw [List.length_append, h2]; rfl, by omega, by omega, by omega, fun o ho => h6 o (by omega)⟩
        rw [h1]
        simp
    · exact ok.sat.own A (List.mem_cons_of_mem _ hA')⟩, ok.nd, ok.dj⟩
theorem WL.tailQu {L : List Oper} {T b o m cap : Nat} {u : Value} {cs : List Value} (hk : WL P n ops Q L E h (quA T (some b) (if cap = 1 then o else o + 1) m (cap - 1) cs :: H)) : WL P n ops Q L E h (quA T (some b) o (m + 1) cap (u :: cs) :: H) :=
  ⟨fun ac w fa ok => hk.run _ w fa ok.tailQu⟩
theorem Ok.roomQu {T b o m cap : Nat} {cs : List Value} {w : World} (ok : Ok h (quA T (some b) o m cap cs :: H) w) : m ≤ cap ∧ cap ≤ maxLen := by
  obtain ⟨pre, sp, post, fz, h1, h2, h3, h4, h5, h6⟩ := ok.own_head
  omega
theorem WC.someQu {c : Code} {T : Nat} {a : Option Nat} {o m cap : Nat} {cs : List Value} (hm : 0 < m) (hk : ∀ b, a = some b → m ≤ cap → cap ≤ maxLen → WC P n c Q E h (quA T a o m cap cs :: H)) : WC P n c Q E h (quA T a o m cap cs :: H) :=
  ⟨fun ac w fa ok => by
    cases a with
    | none =>
      obtain ⟨e, _⟩ := ok.own_head
      omega
    | some b =>
      have := ok.roomQu
      exact (hk b rfl this.1 this.2).run _ w fa ok⟩
theorem run_appendQ {e bs sLen cap o : Nat} {a : Option Nat} {z : Value} {cs : List Value} {u xv : Value} {w : World} (hu : P.underlying t = some (.slice e))
    (hs : szOf P e = some 1) (hz : zrOf P e = some z) (hzs : z.cells.size = 1) (hb : byOf P e = some bs) (hx : Src P h R 1 xv 1 [u]) (hmax : sLen + 1 ≤ 9223372036854775807) (hby : (sLen + 1) * bs ≤ 140737488355328)
    (ok : Ok h (quA e a o sLen cap cs :: R) w) :
    ∃ a' o' cap' w', (Builtin.append_ #[t, t] ty #[quV a o sLen cap, xv]).run P w = .ok (quV a' o' (sLen + 1) cap') w' ∧ Ok h (quA e a' o' (sLen + 1) cap' (cs ++ [u]) :: R) w' := by
  obtain ⟨i, hi, hi1, hi2', hi3⟩ : ∃ i, P.info? e = some i ∧ i.size = 1 ∧ i.bytes = bs ∧ i.zero = some z := by
    unfold szOf at hs; unfold byOf at hb; unfold zrOf at hz
    cases hi : P.info? e with
    | none => simp [hi] at hs
    | some i => simp [hi] at hs hb hz; exact ⟨i, rfl, hs, hb, hz⟩
  have hsat : Sat h R w := ok.sat.sub fun A hA => List.mem_cons_of_mem _ hA
  have grow : ∀ (olds : List Value), olds.length = sLen → olds = cs → ∃ a' o' cap' w', Result.ok (Value.slice (some ⟨w.drew.heap.size, 0, none⟩) (sLen + 1) (grownCap w (sLen + 1) cap e)) (w.drew.alloc (.cells (olds.toArray ++ [u].toArray ++ Builtin.zeroCells z.cells (grownCap w (sLen + 1) cap e - (sLen + 1))) e)) = Result.ok (quV a' o' (sLen + 1) cap') w' ∧
      Ok h (quA e a' o' (sLen + 1) cap' (cs ++ [u]) :: R) w' := by
    intro olds hol hoc
    subst hoc
    have hge := grownCap_ge w (sLen + 1) cap e
    have hle := grownCap_le_maxLen w (sLen + 1) cap e (by unfold maxLen; omega)
    refine ⟨some w.drew.heap.size, 0, _, _, rfl, ?_⟩
    have okd : Ok h R w.drew := (ok.drop).drew rfl rfl rfl rfl
    have ok2 := okd.alloc (olds ++ [u] ++ (Builtin.zeroCells z.cells (grownCap w (sLen + 1) cap e - (sLen + 1))).toList) e (0, 0)
    have harr : (olds ++ [u] ++ (Builtin.zeroCells z.cells (grownCap w (sLen + 1) cap e - (sLen + 1))).toList).toArray = olds.toArray ++ [u].toArray ++ Builtin.zeroCells z.cells (grownCap w (sLen + 1) cap e - (sLen + 1)) := by
      apply Array.ext'; simp
    have hcells : (w.drew.alloc (.cells (olds.toArray ++ [u].toArray ++ Builtin.zeroCells z.cells (grownCap w (sLen + 1) cap e - (sLen + 1))) e)).heap[w.drew.heap.size]? = some (.cells ((olds ++ [u]) ++ (Builtin.zeroCells z.cells (grownCap w (sLen + 1) cap e - (sLen + 1))).toList).toArray e (0, 0)) := by
      rw [harr]
      exact Array.getElem?_push_size
    rw [harr] at ok2
    refine ⟨ok2.os, ok2.tape, ok2.output, ⟨ok2.sat.imm, fun A hA => ?_⟩, ok2.nd, ok2.dj⟩
    rcases List.mem_cons.1 hA with rfl | hA'
    · refine ⟨[], (Builtin.zeroCells z.cells (grownCap w (sLen + 1) cap e - (sLen + 1))).toList, [], (0, 0), ?_, rfl, ?_, ?_, hle, Free.zero _⟩
      · rw [hcells, List.nil_append, List.append_nil]
      · rw [List.length_append, hol]; rfl
      · rw [List.length_append, hol, zeroCells_len, hzs]
        simp only [List.length_singleton]
        omega
    · exact ok2.sat.own A (List.mem_cons_of_mem _ hA')
  have hfs : ∀ w', w'.heap = w.heap → (Builtin.firstCells 1 1 xv).run P w' = .ok [u].toArray w' := fun w' e => hx.get w' (hsat.heap e)
  have hown := ok.own_head
  cases a with
  | none =>
    obtain ⟨rfl, rfl, rfl⟩ := hown
    obtain ⟨a', o', cap', w', e1, e2⟩ := grow [] (by simp) rfl
    refine ⟨a', o', cap', w', ?_, e2⟩
    rw [← e1]
    have hfit : ¬ 281474976710656 < Builtin.nextslicecap 1 0 * i.bytes := by
      rw [nextslicecap_zero (by omega), hi2']; simp only [Nat.zero_add] at hby; omega
    have := hfs w.drew rfl
    simp only [Builtin.append_, quV, Option.map_none, Sem.run_bind, List.getElem?_toArray, List.getElem?_cons_zero, List.getElem?_cons_succ, run_underlying hu, Result.andThen_ok, run_sizeOf (P := P) (t := e) (s := 1) (by simp [szOf, hi, hi1])]
    simp [hx.len, typeInfo, hi, hfit, Question.forced, run_firstCells_none, this, zeroValue, hi3, newRow, grownCap, IntKind.max, IntKind.signed, IntKind.bits]
  | some b =>
    obtain ⟨pre, sp, post, fz, hh, hpl, hcl, hsl, hcm, hfr⟩ := hown
    have hmc : sLen ≤ cap := by omega
    by_cases hroom : sLen + 1 ≤ cap
    · obtain ⟨s0, sp, rfl⟩ : ∃ s0 sp', sp = s0 :: sp' := by
        cases sp with
        | nil => simp at hsl; omega
        | cons s0 sp => exact ⟨_, _, rfl⟩
      rw [List.length_cons] at hsl
      have ok0 : Ok h (blkF b e (pre ++ cs ++ s0 :: sp ++ post) fz :: R) w := by
        refine ⟨ok.os, ok.tape, ok.output, ⟨ok.sat.imm, fun A hA => ?_⟩, ok.nd, ok.dj⟩
        rcases List.mem_cons.1 hA with rfl | hA'
        · exact hh
        · exact ok.sat.own A (List.mem_cons_of_mem _ hA')
      have hu1 : oneCell u = true := hx.one u (by simp)
      have hst1 := run_store1 (P := P) hh (o := o + sLen) (by simp; omega) (hfr _ (by omega)) u hu1
      have ok1 := ok0.store (o := o + sLen) u
      have hset : (pre ++ cs ++ s0 :: sp ++ post).set (o + sLen) u = pre ++ (cs ++ [u]) ++ sp ++ post := by
        rw [List.append_assoc (pre ++ cs), List.set_append_right _ _ (by rw [List.length_append]; omega), List.length_append, hpl, hcl, Nat.sub_self]
        simp
      rw [hset] at ok1
      refine ⟨some b, o, cap, _, ?_, ⟨ok1.os, ok1.tape, ok1.output, ⟨ok1.sat.imm, fun A hA => ?_⟩, ok1.nd, ok1.dj⟩⟩
      · have := hfs w rfl
        simp only [Builtin.append_, quV, Option.map_some, Sem.run_bind, List.getElem?_toArray, List.getElem?_cons_zero, List.getElem?_cons_succ, run_underlying hu, Result.andThen_ok, run_sizeOf (P := P) (t := e) (s := 1) (by simp [szOf, hi, hi1])]
        simp [hx.len, hroom, this, add_none, storeCells, hst1]
      · rcases List.mem_cons.1 hA with rfl | hA'
        · refine ⟨pre, sp, post, fz, ok1.own_head, hpl, ?_, ?_, hcm, hfr⟩
          · rw [List.length_append, hcl]; rfl
          · rw [List.length_append]; simp only [List.length_singleton]; omega
        · exact ok1.sat.own A (List.mem_cons_of_mem _ hA')
    · obtain ⟨a', o', cap', w', e1, e2⟩ := grow cs hcl rfl
      refine ⟨a', o', cap', w', ?_, e2⟩
      rw [← e1]
      have hfit : ¬ 281474976710656 < Builtin.nextslicecap (sLen + 1) cap * i.bytes := by
        have := growslice_fits (need := sLen + 1) (old := cap) (bytes := i.bytes) (by omega) (by rw [hi2']; exact hby)
        omega
      have hold : (Builtin.firstCells 1 sLen (.slice (some ⟨b, o, none⟩) sLen cap)).run P w.drew = .ok cs.toArray w.drew := by
        have hl : (loadCells ⟨b, o, none⟩ cs.length).run P w.drew = .ok cs.toArray w.drew := run_loadCells_list w.drew _ _ fun j u hj => by
          rw [add_none]
          have hjl : j < cs.length := (List.getElem?_eq_some_iff.1 hj).1
          have : w.drew.heap[b]? = some (.cells (pre ++ cs ++ sp ++ post).toArray e fz) := hh
          simp only [World.cell?, this]
          rw [List.append_assoc pre, List.append_assoc pre]
          simp [← hpl, List.getElem?_append_right, List.getElem?_append_left hjl, hj]
        rw [hcl] at hl
        simp [Builtin.firstCells, hl]
      have := hfs w.drew rfl
      have hmm' : ¬ (9223372036854775807 < (sLen : Int) + 1 ∧ i.bytes = 0) := by omega
      simp only [Builtin.append_, quV, Option.map_some, Sem.run_bind, List.getElem?_toArray, List.getElem?_cons_zero, List.getElem?_cons_succ, run_underlying hu, Result.andThen_ok, run_sizeOf (P := P) (t := e) (s := 1) (by simp [szOf, hi, hi1])]
      simp [hx.len, hroom, hmm', typeInfo, hi, hfit, Question.forced, hold, this, zeroValue, hi3, newRow, grownCap, IntKind.max, IntKind.signed, IntKind.bits]
theorem l_appendQ {e bs sLen cap o : Nat} {a : Option Nat} {z : Value} {cs : List Value} {u xv : Value} (hu : P.underlying t = some (.slice e))
    (hs : szOf P e = some 1) (hz : zrOf P e = some z) (hzs : z.cells.size = 1) (hb : byOf P e = some bs) (hx : lkO E x = some (quV a o sLen cap)) (hy : lkO E y = some xv) (hsrc : Src P h R 1 xv 1 [u])
    (hmax : sLen + 1 ≤ 9223372036854775807) (hby : (sLen + 1) * bs ≤ 140737488355328) (hd : Nat.blt d n = true)
    (hk : ∀ a' o' cap', WL P n ops Q rest ((d, quV a' o' (sLen + 1) cap') :: E) h (quA e a' o' (sLen + 1) cap' (cs ++ [u]) :: R)) :
    WL P n ops Q (⟨some d, .call ⟨.builtin .append, #[x, y], #[t, t]⟩, ty, ps, af, none⟩ :: rest) E h (quA e a o sLen cap cs :: R) :=
  ⟨fun ac w fa ok => wpList_plain rfl fun K hK => by
    obtain ⟨a', o', cap', w', e1, e2⟩ := run_appendQ (ty := ty) hu hs hz hzs hb hsrc hmax hby ok
    unfold Oper.wp
    have : (execOp ac.eval ⟨some d, .call ⟨.builtin .append, #[x, y], #[t, t]⟩, ty, ps, af, none⟩).run P w = .ok (.value (quV a' o' (sLen + 1) cap')) w' := by
      rw [show (#[x, y] : Array Operand) = [x, y].toArray from rfl, run_builtin (vals := [quV a o sLen cap, xv]) fa (by simp [evArgs, hx, hy])]
      simp only [builtin, Sem.run_bind, e1, Result.andThen_ok, Sem.run_pure]
    rw [this, Oper.upon_value]
    exact hK _ _ ((hk a' o' cap').run _ _ (fa.put _ hd) e2)⟩
theorem Ok.bufQu {T b m cap : Nat} {cs : List Value} {w : World} (ok : Ok h (bufA T 1 (some b) m cap cs :: H) w) : Ok h (quA T (some b) 0 m cap cs :: H) w :=
  ⟨ok.os, ok.tape, ok.output, ⟨ok.sat.imm, fun A hA => by
    rcases List.mem_cons.1 hA with rfl | hA'
    · obtain ⟨sp, fz, h1, h2, h3, h4, h5, h6⟩ := ok.own_head
      refine ⟨[], sp, [], fz, by rw [h1]; simp, rfl, by omega, ?_, h5, by simpa using h6⟩
      rw [List.length_append] at h3; omega
    · exact ok.sat.own A (List.mem_cons_of_mem _ hA')⟩, ok.nd, ok.dj⟩
theorem WC.tailBuf {c : Code} {T b m cap : Nat} {u : Value} {cs : List Value} (hk : m + 1 ≤ cap → cap ≤ maxLen → WC P n c Q E h (quA T (some b) (if cap = 1 then 0 else 1) m (cap - 1) cs :: H)) : WC P n c Q E h (bufA T 1 (some b) (m + 1) cap (u :: cs) :: H) :=
  ⟨fun ac w fa ok => by
    have h1 := ok.bufQu.roomQu
    exact (hk h1.1 h1.2).run _ w fa (by have := ok.bufQu.tailQu; simpa using this)⟩
theorem Ok.freezeQu {T o m cap : Nat} {a : Option Nat} {l : List Value} {w : World} (ok : Ok h (quA T a o m cap l :: H) w) : ∃ h', h.le h' ∧ SL h' 1 (quV a o m cap) (l.map fun v => [v]) ∧ Ok h' H w := by
  have hown := ok.own_head
  cases a with
  | none =>
    obtain ⟨rfl, rfl, rfl⟩ := hown
    exact ⟨h, Base.le.refl h, .inl ⟨_, _, rfl, rfl⟩, ok.drop⟩
  | some b =>
    obtain ⟨pre, sp, post, fz, g1, g2, g3, g4, g5, g6⟩ := hown
    have ok2 : Ok h (blkF b T (pre ++ l ++ sp ++ post) fz :: H) w := by
      refine ⟨ok.os, ok.tape, ok.output, ⟨ok.sat.imm, fun A hA => ?_⟩, ok.nd, ok.dj⟩
      rcases List.mem_cons.1 hA with rfl | hA'
      · exact g1
      · exact ok.sat.own A (List.mem_cons_of_mem _ hA')
    obtain ⟨f1, f2, f3⟩ := ok2.freeze
    refine ⟨_, f1, .inr ⟨b, o, cap, by rw [List.length_map, g3]; rfl, by rw [List.length_map]; omega, fun j hj => ⟨by simp, ?_⟩⟩, f3⟩
    rw [List.length_map] at hj
    refine cels_of fun i u hu => ?_
    rw [List.getElem_map] at hu
    have hi0 : i = 0 := by
      have := (List.getElem?_eq_some_iff.1 hu).1
      simp at this; exact this
    subst hi0
    refine cel_mem f2 ?_
    simp only [List.getElem?_cons_zero, Option.some.injEq] at hu
    subst hu
    rw [Nat.add_zero, Nat.mul_one, List.append_assoc pre, List.append_assoc pre, List.getElem?_append_right (by omega), g2, Nat.add_sub_cancel_left, List.append_assoc, List.getElem?_append_left hj, List.getElem?_eq_getElem hj]
theorem WL.freezeQu {L : List Oper} {T o m cap : Nat} {a : Option Nat} {l : List Value} (hk : ∀ h', h.le h' → SL h' 1 (quV a o m cap) (l.map fun v => [v]) → WL P n ops Q L E h' H) : WL P n ops Q L E h (quA T a o m cap l :: H) :=
  ⟨fun ac w fa ok => by obtain ⟨h', h1, h2, h3⟩ := ok.freezeQu; exact (hk h' h1 h2).run _ w fa h3⟩
end
end Go.K
