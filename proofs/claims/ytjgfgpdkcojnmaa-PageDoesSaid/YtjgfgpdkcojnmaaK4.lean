/-
  K4: rows of the call's own: append, bytes and strings. Generic over the program. Conditions: none.
-/
import Derived.Test.YtjgfgpdkcojnmaaK3
namespace Go.K
set_option linter.unusedVariables false
set_option linter.unusedSimpArgs false

/-- A byte as a value. -/
def u8 (c : UInt8) : Value := .int .u8 c.toNat
theorem u8_one (c : UInt8) : oneCell (u8 c) = true := rfl

/-- No cell is frozen. -/
def Free (fz : Nat × Nat) (k : Nat) : Prop := ∀ o, o < k → (decide (fz.1 ≤ o) && decide (o < fz.2)) = false
theorem Free.zero (k : Nat) : Free (0, 0) k := fun o _ => by simp
theorem Free.past (k m : Nat) : Free (k, m) k := fun o ho => by simp; omega

def bufV (a : Option Nat) (m cap : Nat) : Value := .slice (a.map fun b => ⟨b, 0, none⟩) m cap

/-- A slice of the call's own: m elements of s cells each, in a block whose first cells are cs; or nil. -/
def bufA (T s : Nat) (a : Option Nat) (m cap : Nat) (cs : List Value) : Asrt where
  ids := a.toList
  holds w := match a with
    | none => m = 0 ∧ cap = 0 ∧ cs = []
    | some b => ∃ sp fz, w.heap[b]? = some (.cells (cs ++ sp).toArray T fz) ∧ cs.length = m * s ∧ (cs ++ sp).length = cap * s ∧ m ≤ cap ∧ cap ≤ maxLen ∧ Free fz (cap * s)
  live w h x hx := by
    cases a with
    | none => simp at hx
    | some b =>
      simp at hx; subst hx
      obtain ⟨sp, fz, h1, _⟩ := h
      exact heap_lt h1
  loc w w' hb h := by
    cases a with
    | none => exact h
    | some b =>
      obtain ⟨sp, fz, h1, h2⟩ := h
      exact ⟨sp, fz, by rw [hb b (by simp)]; exact h1, h2⟩

section
variable {P : Program} {n : Nat} {Q : Exit → Act → World → Prop} {E : Env} {h : Base} {H R : List Asrt} {ops : Array Oper} {rest : List Oper}
variable {t t' ty : TypeId} {ps : String} {af : Array Edge} {d : Nat} {v : Value} {x y : Operand} {K : List Asrt} {dst : Option Nat} {g : Option (Nat × Bool)}

/-- What is appended. -/
structure Src (P : Program) (h : Base) (K : List Asrt) (s : Nat) (xv : Value) (m : Nat) (xs : List Value) : Prop where
  len : ∀ w, (Builtin.lenOf xv).run P w = .ok m w
  size : xs.length = m * s
  one : ∀ u ∈ xs, oneCell u = true
  get : ∀ w, Sat h K w → (Builtin.firstCells s m xv).run P w = .ok xs.toArray w

theorem src_nil {s : Nat} : Src P h K s (.slice none 0 0) 0 [] := ⟨fun w => by simp [Builtin.lenOf], by simp, by simp, fun w _ => by simp [Builtin.firstCells]⟩
theorem src_empty {s c : Nat} {ao : Option Addr} : Src P h K s (.slice ao 0 c) 0 [] := ⟨fun w => by simp [Builtin.lenOf], by simp, by simp, fun w _ => by
  cases ao <;> simp [Builtin.firstCells, loadCells, loadCellsFrom]⟩
theorem src_cells {s b o m c : Nat} {xs : List Value} (hc : Cels h K b o xs) (hl : xs.length = m * s) (h1 : ∀ u ∈ xs, oneCell u = true) : Src P h K s (.slice (some ⟨b, o, none⟩) m c) m xs :=
  ⟨fun w => by simp [Builtin.lenOf], hl, h1, fun w hw => by
    have : (loadCells ⟨b, o, none⟩ xs.length).run P w = .ok xs.toArray w := run_loadCells_list w _ _ fun j u hj => by
      rw [add_none]; exact (hc.get j u hj).run w hw
    rw [hl] at this
    simp [Builtin.firstCells, this]⟩
theorem src_text {s : ByteArray} : Src P h K 1 (.string s) s.size (s.data.toList.map u8) :=
  ⟨fun w => by simp [Builtin.lenOf], by simp, by simp [u8_one], fun w _ => by
    have : s.extract 0 s.size = s := by apply ByteArray.ext; simp
    simp only [Builtin.firstCells, this, Sem.run_pure]
    congr 1
    apply Array.ext'
    simp [u8]⟩
theorem Src.sub {s m : Nat} {xs : List Value} {K' : List Asrt} (hs : Src P h K s v m xs) (hk : ∀ A ∈ K, A ∈ K') : Src P h K' s v m xs := ⟨hs.len, hs.size, hs.one, fun w hw => hs.get w (hw.sub hk)⟩

def okD2 : TypeDesc → Bool | .slice _ => true | .string => true | _ => false

theorem zeroCells_len (z : Array Value) (m : Nat) : (Builtin.zeroCells z m).toList.length = m * z.size := by simp [Builtin.zeroCells]

theorem Sat.heap {w w' : World} (hs : Sat h K w) (e : w'.heap = w.heap) : Sat h K w' :=
  ⟨fun b o hb => by rw [e]; exact hs.imm b o hb, fun A hA => A.loc w w' (fun b _ => by rw [e]) (hs.own A hA)⟩

/-- The run of an append to a slice of the call's own. -/
theorem run_append {e s bs m sLen cap : Nat} {a : Option Nat} {z : Value} {d2 : TypeDesc} {cs xs : List Value} {xv : Value} {w : World} (hu : P.underlying t = some (.slice e)) (hu2 : P.underlying t' = some d2) (hi2 : okD2 d2 = true)
    (hs : szOf P e = some s) (hz : zrOf P e = some z) (hzs : z.cells.size = s) (hb : byOf P e = some bs) (hx : Src P h R s xv m xs) (hmax : sLen + m ≤ 9223372036854775807) (hby : (sLen + m) * bs ≤ 140737488355328)
    (ok : Ok h (bufA e s a sLen cap cs :: R) w) :
    ∃ a' cap' w', (Builtin.append_ #[t, t'] ty #[bufV a sLen cap, xv]).run P w = .ok (bufV a' (sLen + m) cap') w' ∧ Ok h (bufA e s a' (sLen + m) cap' (cs ++ xs) :: R) w' := by
  obtain ⟨i, hi, hi1, hi2', hi3⟩ : ∃ i, P.info? e = some i ∧ i.size = s ∧ i.bytes = bs ∧ i.zero = some z := by
    unfold szOf at hs; unfold byOf at hb; unfold zrOf at hz
    cases hi : P.info? e with
    | none => simp [hi] at hs
    | some i => simp [hi] at hs hb hz; exact ⟨i, rfl, hs, hb, hz⟩
  have hsat : Sat h R w := ok.sat.sub fun A hA => List.mem_cons_of_mem _ hA
  -- what grows
  have grow : ∀ (olds : List Value), olds.length = sLen * s → olds = cs → ∃ a' cap' w', Result.ok (Value.slice (some ⟨w.drew.heap.size, 0, none⟩) (sLen + m) (grownCap w (sLen + m) cap e)) (w.drew.alloc (.cells (olds.toArray ++ xs.toArray ++ Builtin.zeroCells z.cells (grownCap w (sLen + m) cap e - (sLen + m))) e)) = .ok (bufV a' (sLen + m) cap') w' ∧
      Ok h (bufA e s a' (sLen + m) cap' (cs ++ xs) :: R) w' := by
    intro olds hol hoc
    subst hoc
    have hge := grownCap_ge w (sLen + m) cap e
    have hle := grownCap_le_maxLen w (sLen + m) cap e (by unfold maxLen; omega)
    refine ⟨some w.drew.heap.size, _, _, rfl, ?_⟩
    have okd : Ok h R w.drew := (ok.drop).drew rfl rfl rfl rfl
    have ok2 := okd.alloc (olds ++ xs ++ (Builtin.zeroCells z.cells (grownCap w (sLen + m) cap e - (sLen + m))).toList) e (0, 0)
    have harr : (olds ++ xs ++ (Builtin.zeroCells z.cells (grownCap w (sLen + m) cap e - (sLen + m))).toList).toArray = olds.toArray ++ xs.toArray ++ Builtin.zeroCells z.cells (grownCap w (sLen + m) cap e - (sLen + m)) := by
      apply Array.ext'; simp
    have hcells : (w.drew.alloc (.cells (olds.toArray ++ xs.toArray ++ Builtin.zeroCells z.cells (grownCap w (sLen + m) cap e - (sLen + m))) e)).heap[w.drew.heap.size]? = some (.cells ((olds ++ xs) ++ (Builtin.zeroCells z.cells (grownCap w (sLen + m) cap e - (sLen + m))).toList).toArray e (0, 0)) := by
      rw [harr]
      exact Array.getElem?_push_size
    rw [harr] at ok2
    refine ⟨ok2.os, ok2.tape, ok2.output, ⟨ok2.sat.imm, fun A hA => ?_⟩, ok2.nd, ok2.dj⟩
    rcases List.mem_cons.1 hA with rfl | hA'
    · refine ⟨_, (0, 0), hcells, ?_, ?_, hge, hle, Free.zero _⟩
      · rw [List.length_append, hol, hx.size, Nat.add_mul]
      · rw [List.length_append, List.length_append, hol, hx.size, zeroCells_len, hzs, ← Nat.add_mul, ← Nat.add_mul]
        congr 1; omega
    · exact ok2.sat.own A (List.mem_cons_of_mem _ hA')
  have hfs : ∀ w', w'.heap = w.heap → (Builtin.firstCells s m xv).run P w' = .ok xs.toArray w' := fun w' e => hx.get w' (hsat.heap e)
  have hown := ok.own_head
  cases d2 <;> simp only [okD2, Bool.false_eq_true] at hi2
  all_goals
    cases a with
    | none =>
      obtain ⟨rfl, rfl, rfl⟩ := hown
      by_cases hm : m = 0
      · subst hm
        have hxs : xs = [] := List.eq_nil_of_length_eq_zero (by simpa using hx.size)
        subst hxs
        refine ⟨none, 0, w, ?_, ok⟩
        have := hfs w rfl
        simp only [Builtin.append_, bufV, Option.map_none, Sem.run_bind, List.getElem?_toArray, List.getElem?_cons_zero, List.getElem?_cons_succ, run_underlying hu, run_underlying hu2, Result.andThen_ok, run_sizeOf (P := P) (t := e) (s := s) (by simp [szOf, hi, hi1])]
        simp [hx.len, this]
      · have h1 : ¬ ((m : Int) > IntKind.i64.max ∧ (False ∨ i.bytes = 0)) := by
          simp [IntKind.max, IntKind.signed, IntKind.bits]; omega
        obtain ⟨a', cap', w', e1, e2⟩ := grow [] (by simp) rfl
        refine ⟨a', cap', w', ?_, e2⟩
        rw [← e1]
        have hfit : ¬ 281474976710656 < Builtin.nextslicecap m 0 * i.bytes := by
          rw [nextslicecap_zero (by omega), hi2']; simp only [Nat.zero_add] at hby; omega
        have := hfs w.drew rfl
        have hmm : ¬ (9223372036854775807 < (m : Int) ∧ i.bytes = 0) := by omega
        simp only [Builtin.append_, bufV, Option.map_none, Sem.run_bind, List.getElem?_toArray, List.getElem?_cons_zero, List.getElem?_cons_succ, run_underlying hu, run_underlying hu2, Result.andThen_ok, run_sizeOf (P := P) (t := e) (s := s) (by simp [szOf, hi, hi1])]
        simp [hx.len, hm, hmm, typeInfo, hi, hfit, Question.forced, run_firstCells_none, this, zeroValue, hi3, newRow, grownCap, IntKind.max, IntKind.signed, IntKind.bits]
    | some b =>
      obtain ⟨sp, fz, hh, hcl, hsl, hmc, hcm, hfr⟩ := hown
      by_cases hroom : sLen + m ≤ cap
      · have hspl : m * s ≤ sp.length := by
          have : (sLen + m) * s ≤ cap * s := Nat.mul_le_mul_right _ hroom
          rw [List.length_append, hcl] at hsl
          rw [Nat.add_mul] at this
          omega
        have hst : ∀ (vs : List Value) (i : Nat) (cur : List Value) (w0 : World), w0.heap[b]? = some (.cells cur.toArray e fz) → cur.length = cap * s → sLen * s + i + vs.length ≤ cur.length → (∀ u ∈ vs, oneCell u = true) → Ok h (blkF b e cur fz :: R) w0 →
            ∃ w1, (storeCells ⟨b, sLen * s, none⟩ vs i).run P w0 = .ok () w1 ∧ Ok h (blkF b e (cur.take (sLen * s + i) ++ vs ++ cur.drop (sLen * s + i + vs.length)) fz :: R) w1 := by
          intro vs
          induction vs with
          | nil => intro i cur w0 _ _ _ _ ok0; exact ⟨w0, by simp [storeCells], by simpa using ok0⟩
          | cons u r ih =>
            intro i cur w0 hw0 hcl0 hle h1 ok0
            simp only [List.length_cons] at hle
            have hst1 := run_store1 (P := P) hw0 (o := sLen * s + i) (by omega) (hfr _ (by omega)) u (h1 u (by simp))
            have ok1 := ok0.store (o := sLen * s + i) u
            obtain ⟨w1, hr1, hok1⟩ := ih (i + 1) (cur.set (sLen * s + i) u) (w0.setCell ⟨b, sLen * s + i, none⟩ u) ok1.own_head (by simpa using hcl0) (by simp; omega) (fun x hx => h1 x (List.mem_cons_of_mem _ hx)) ok1
            refine ⟨w1, ?_, ?_⟩
            · simp only [storeCells, Sem.run_bind, add_none, hst1, Result.andThen_ok, hr1]
            · have : (cur.set (sLen * s + i) u).take (sLen * s + (i + 1)) ++ r ++ (cur.set (sLen * s + i) u).drop (sLen * s + (i + 1) + r.length) = cur.take (sLen * s + i) ++ (u :: r) ++ cur.drop (sLen * s + i + (r.length + 1)) := by
                rw [List.drop_set_of_lt (by omega), show sLen * s + (i + 1) + r.length = sLen * s + i + (r.length + 1) from by omega]
                rw [show sLen * s + (i + 1) = sLen * s + i + 1 from by omega, List.take_succ_eq_append_getElem (by simp; omega), List.take_set_of_le (Nat.le_refl _)]
                simp
              rw [List.length_cons, ← this]; exact hok1
        have ok0 : Ok h (blkF b e (cs ++ sp) fz :: R) w := by
          refine ⟨ok.os, ok.tape, ok.output, ⟨ok.sat.imm, fun A hA => ?_⟩, ok.nd, ok.dj⟩
          rcases List.mem_cons.1 hA with rfl | hA'
          · exact hh
          · exact ok.sat.own A (List.mem_cons_of_mem _ hA')
        obtain ⟨w1, hr1, hok1⟩ := hst xs 0 (cs ++ sp) w hh hsl (by rw [List.length_append, hcl, hx.size]; omega) hx.one ok0
        have hlist : (cs ++ sp).take (sLen * s + 0) ++ xs ++ (cs ++ sp).drop (sLen * s + 0 + xs.length) = (cs ++ xs) ++ sp.drop (m * s) := by
          rw [Nat.add_zero, ← hcl, List.take_left, List.drop_append, List.drop_of_length_le (by omega), hx.size]
          simp
        rw [hlist] at hok1
        refine ⟨some b, cap, w1, ?_, ?_⟩
        · have := hfs w rfl
          simp only [Builtin.append_, bufV, Option.map_some, Sem.run_bind, List.getElem?_toArray, List.getElem?_cons_zero, List.getElem?_cons_succ, run_underlying hu, run_underlying hu2, Result.andThen_ok, run_sizeOf (P := P) (t := e) (s := s) (by simp [szOf, hi, hi1])]
          simp [hx.len, hroom, this, add_none, hr1]
        · refine ⟨hok1.os, hok1.tape, hok1.output, ⟨hok1.sat.imm, fun A hA => ?_⟩, hok1.nd, hok1.dj⟩
          rcases List.mem_cons.1 hA with rfl | hA'
          · refine ⟨_, fz, hok1.own_head, ?_, ?_, hroom, hcm, hfr⟩
            · rw [List.length_append, hcl, hx.size, Nat.add_mul]
            · rw [List.length_append, List.length_append, List.length_drop, hx.size]
              rw [List.length_append] at hsl
              omega
          · exact hok1.sat.own A (List.mem_cons_of_mem _ hA')
      · obtain ⟨a', cap', w', e1, e2⟩ := grow cs hcl rfl
        refine ⟨a', cap', w', ?_, e2⟩
        rw [← e1]
        have hfit : ¬ 281474976710656 < Builtin.nextslicecap (sLen + m) cap * i.bytes := by
          have := growslice_fits (need := sLen + m) (old := cap) (bytes := i.bytes) (by omega) (by rw [hi2']; exact hby)
          omega
        have hold : (Builtin.firstCells s sLen (.slice (some ⟨b, 0, none⟩) sLen cap)).run P w.drew = .ok cs.toArray w.drew := by
          have hl : (loadCells ⟨b, 0, none⟩ cs.length).run P w.drew = .ok cs.toArray w.drew := run_loadCells_list w.drew _ _ fun j u hj => by
            rw [add_none, Nat.zero_add]
            have hjl : j < cs.length := (List.getElem?_eq_some_iff.1 hj).1
            have : w.drew.heap[b]? = some (.cells (cs ++ sp).toArray e fz) := hh
            simp only [World.cell?, this]
            simp [List.getElem?_append_left hjl, hj]
          rw [hcl] at hl
          simp [Builtin.firstCells, hl]
        have := hfs w.drew rfl
        have hmm : ¬ (9223372036854775807 < ((sLen + m : Nat) : Int) ∧ i.bytes = 0) := by omega
        have hmm' : ¬ (9223372036854775807 < (sLen : Int) + (m : Int) ∧ i.bytes = 0) := by omega
        simp only [Builtin.append_, bufV, Option.map_some, Sem.run_bind, List.getElem?_toArray, List.getElem?_cons_zero, List.getElem?_cons_succ, run_underlying hu, run_underlying hu2, Result.andThen_ok, run_sizeOf (P := P) (t := e) (s := s) (by simp [szOf, hi, hi1])]
        simp [hx.len, hroom, hmm', typeInfo, hi, hfit, Question.forced, hold, this, zeroValue, hi3, newRow, grownCap, IntKind.max, IntKind.signed, IntKind.bits]
        rw [← Array.append_assoc, show (cs ++ xs).toArray = cs.toArray ++ xs.toArray from by simp]

/-- append(s, x..), s the call's own, at the front of the state. -/
theorem l_append {t2 : TypeId} {e s bs m sLen cap : Nat} {a : Option Nat} {z : Value} {d2 : TypeDesc} {cs xs : List Value} {xv : Value} (hu : P.underlying t = some (.slice e)) (hu2 : P.underlying t2 = some d2) (hi2 : okD2 d2 = true)
    (hs : szOf P e = some s) (hz : zrOf P e = some z) (hzs : z.cells.size = s) (hb : byOf P e = some bs) (hx : lkO E x = some (bufV a sLen cap)) (hy : lkO E y = some xv) (hsrc : Src P h R s xv m xs)
    (hmax : sLen + m ≤ 9223372036854775807) (hby : (sLen + m) * bs ≤ 140737488355328) (hd : Nat.blt d n = true)
    (hk : ∀ a' cap', WL P n ops Q rest ((d, bufV a' (sLen + m) cap') :: E) h (bufA e s a' (sLen + m) cap' (cs ++ xs) :: R)) :
    WL P n ops Q (⟨some d, .call ⟨.builtin .append, #[x, y], #[t, t2]⟩, ty, ps, af, none⟩ :: rest) E h (bufA e s a sLen cap cs :: R) :=
  ⟨fun ac w fa ok => wpList_plain rfl fun K hK => by
    obtain ⟨a', cap', w', e1, e2⟩ := run_append (ty := ty) hu hu2 hi2 hs hz hzs hb hsrc hmax hby ok
    unfold Oper.wp
    have : (execOp ac.eval ⟨some d, .call ⟨.builtin .append, #[x, y], #[t, t2]⟩, ty, ps, af, none⟩).run P w = .ok (.value (bufV a' (sLen + m) cap')) w' := by
      rw [show (#[x, y] : Array Operand) = [x, y].toArray from rfl, run_builtin (vals := [bufV a sLen cap, xv]) fa (by simp [evArgs, hx, hy])]
      simp only [builtin, Sem.run_bind, e1, Result.andThen_ok, Sem.run_pure]
    rw [this, Oper.upon_value]
    exact hK _ _ ((hk a' cap').run _ _ (fa.put _ hd) e2)⟩

/-- The owned row is opened: nil, or a block. -/
theorem o_buf {l : List Oper} {T s : Nat} {a : Option Nat} {m cap : Nat} {cs : List Value} (h0 : a = none → m = 0 → cap = 0 → cs = [] → WL P n ops Q l E h R)
    (h1 : ∀ b sp fz, a = some b → cs.length = m * s → (cs ++ sp).length = cap * s → m ≤ cap → cap ≤ maxLen → Free fz (cap * s) → WL P n ops Q l E h (blkF b T (cs ++ sp) fz :: R)) : WL P n ops Q l E h (bufA T s a m cap cs :: R) :=
  ⟨fun ac w fa ok => by
    have hown := ok.own_head
    cases a with
    | none =>
      obtain ⟨e1, e2, e3⟩ := hown
      exact (h0 rfl e1 e2 e3).run _ _ fa ok.drop
    | some b =>
      obtain ⟨sp, fz, g1, g2, g3, g4, g5, g6⟩ := hown
      refine (h1 b sp fz rfl g2 g3 g4 g5 g6).run _ _ fa ⟨ok.os, ok.tape, ok.output, ⟨ok.sat.imm, fun A hA => ?_⟩, ok.nd, ok.dj⟩
      rcases List.mem_cons.1 hA with rfl | hA'
      · exact g1
      · exact ok.sat.own A (List.mem_cons_of_mem _ hA')⟩
theorem oc_buf {c : Code} {T s : Nat} {a : Option Nat} {m cap : Nat} {cs : List Value} (h0 : a = none → m = 0 → cap = 0 → cs = [] → WC P n c Q E h R)
    (h1 : ∀ b sp fz, a = some b → cs.length = m * s → (cs ++ sp).length = cap * s → m ≤ cap → cap ≤ maxLen → Free fz (cap * s) → WC P n c Q E h (blkF b T (cs ++ sp) fz :: R)) : WC P n c Q E h (bufA T s a m cap cs :: R) :=
  ⟨fun ac w fa ok => by
    have hown := ok.own_head
    cases a with
    | none =>
      obtain ⟨e1, e2, e3⟩ := hown
      exact (h0 rfl e1 e2 e3).run _ _ fa ok.drop
    | some b =>
      obtain ⟨sp, fz, g1, g2, g3, g4, g5, g6⟩ := hown
      refine (h1 b sp fz rfl g2 g3 g4 g5 g6).run _ _ fa ⟨ok.os, ok.tape, ok.output, ⟨ok.sat.imm, fun A hA => ?_⟩, ok.nd, ok.dj⟩
      rcases List.mem_cons.1 hA with rfl | hA'
      · exact g1
      · exact ok.sat.own A (List.mem_cons_of_mem _ hA')⟩
/-- Shut again. -/
theorem Ok.shut {T s b : Nat} {m cap : Nat} {cs sp : List Value} {fz : Nat × Nat} {w : World} (ok : Ok h (blkF b T (cs ++ sp) fz :: R) w) (g2 : cs.length = m * s) (g3 : (cs ++ sp).length = cap * s) (g4 : m ≤ cap) (g5 : cap ≤ maxLen) (g6 : Free fz (cap * s)) :
    Ok h (bufA T s (some b) m cap cs :: R) w := by
  refine ⟨ok.os, ok.tape, ok.output, ⟨ok.sat.imm, fun A hA => ?_⟩, ok.nd, ok.dj⟩
  rcases List.mem_cons.1 hA with rfl | hA'
  · exact ⟨sp, fz, ok.own_head, g2, g3, g4, g5, g6⟩
  · exact ok.sat.own A (List.mem_cons_of_mem _ hA')
theorem WL.shut {l : List Oper} {T s b : Nat} {m cap : Nat} {cs sp : List Value} {fz : Nat × Nat} (g2 : cs.length = m * s) (g3 : (cs ++ sp).length = cap * s) (g4 : m ≤ cap) (g5 : cap ≤ maxLen) (g6 : Free fz (cap * s))
    (hk : WL P n ops Q l E h (bufA T s (some b) m cap cs :: R)) : WL P n ops Q l E h (blkF b T (cs ++ sp) fz :: R) := ⟨fun a w fa ok => hk.run a w fa (ok.shut g2 g3 g4 g5 g6)⟩
theorem WC.shut {c : Code} {T s b : Nat} {m cap : Nat} {cs sp : List Value} {fz : Nat × Nat} (g2 : cs.length = m * s) (g3 : (cs ++ sp).length = cap * s) (g4 : m ≤ cap) (g5 : cap ≤ maxLen) (g6 : Free fz (cap * s))
    (hk : WC P n c Q E h (bufA T s (some b) m cap cs :: R)) : WC P n c Q E h (blkF b T (cs ++ sp) fz :: R) := ⟨fun a w fa ok => hk.run a w fa (ok.shut g2 g3 g4 g5 g6)⟩
theorem AT.shut {q : Exit} {T s b : Nat} {m cap : Nat} {cs sp : List Value} {fz : Nat × Nat} (g2 : cs.length = m * s) (g3 : (cs ++ sp).length = cap * s) (g4 : m ≤ cap) (g5 : cap ≤ maxLen) (g6 : Free fz (cap * s))
    (hk : AT P n Q q E h (bufA T s (some b) m cap cs :: R)) : AT P n Q q E h (blkF b T (cs ++ sp) fz :: R) := ⟨fun a w fa ok => hk.run a w fa (ok.shut g2 g3 g4 g5 g6)⟩
/-- A row of elements' cells, all of them known: as an owned slice. -/
theorem Ok.bufOf {T s b m : Nat} {cs : List Value} {w : World} (ok : Ok h (blk b T cs :: R) w) (g2 : cs.length = m * s) (g5 : m ≤ maxLen) : Ok h (bufA T s (some b) m m cs :: R) w := by
  have : Ok h (blkF b T (cs ++ []) (0, 0) :: R) w := by rw [List.append_nil]; exact ok
  exact this.shut g2 (by rw [List.append_nil]; exact g2) (Nat.le_refl _) g5 (Free.zero _)
theorem WL.bufOf {l : List Oper} {T s b m : Nat} {cs : List Value} (g2 : cs.length = m * s) (g5 : m ≤ maxLen) (hk : WL P n ops Q l E h (bufA T s (some b) m m cs :: R)) : WL P n ops Q l E h (blk b T cs :: R) := ⟨fun a w fa ok => hk.run a w fa (ok.bufOf g2 g5)⟩
/-- nil owns nothing. -/
theorem Ok.nilBuf {T s : Nat} {w : World} (ok : Ok h R w) : Ok h (bufA T s none 0 0 [] :: R) w := by
  refine ⟨ok.os, ok.tape, ok.output, ⟨ok.sat.imm, fun A hA => ?_⟩, ok.nd, ok.dj⟩
  rcases List.mem_cons.1 hA with rfl | hA'
  · exact ⟨rfl, rfl, rfl⟩
  · exact ok.sat.own A hA'
theorem WL.nilBuf {l : List Oper} (T s : Nat) (hk : WL P n ops Q l E h (bufA T s none 0 0 [] :: R)) : WL P n ops Q l E h R := ⟨fun a w fa ok => hk.run a w fa ok.nilBuf⟩
theorem AT.nilBuf {q : Exit} (T s : Nat) (hk : AT P n Q q E h (bufA T s none 0 0 [] :: R)) : AT P n Q q E h R := ⟨fun a w fa ok => hk.run a w fa ok.nilBuf⟩
theorem WC.nilBuf {c : Code} (T s : Nat) (hk : WC P n c Q E h (bufA T s none 0 0 [] :: R)) : WC P n c Q E h R := ⟨fun a w fa ok => hk.run a w fa ok.nilBuf⟩

/-! ### Bytes and strings -/
theorem Cels.append {b o : Nat} : ∀ {l1 l2 : List Value}, Cels h K b o (l1 ++ l2) ↔ Cels h K b o l1 ∧ Cels h K b (o + l1.length) l2
  | [], l2 => by simp [Cels]
  | x :: r, l2 => by
    have := Cels.append (b := b) (o := o + 1) (l1 := r) (l2 := l2)
    simp only [List.cons_append, Cels, this, List.length_cons, and_assoc]
    rw [show o + 1 + r.length = o + (r.length + 1) from by omega]
theorem cels_of {b : Nat} : ∀ {l : List Value} {o : Nat}, (∀ j u, l[j]? = some u → Cel h K b (o + j) u) → Cels h K b o l
  | [], _, _ => trivial
  | x :: r, o, hc => ⟨by simpa using hc 0 x (by simp), cels_of (b := b) fun j u hj => by
    have := hc (j + 1) u (by simpa using hj)
    rwa [show o + (j + 1) = o + 1 + j from by omega] at this⟩
/-- The head of an owned block. -/
theorem cels_own {b o : Nat} {T : TypeId} {pre cs post : List Value} {fz : Nat × Nat} (i : Nat) (hi : K[i]? = some (blkF b T (pre ++ cs ++ post) fz)) (ho : pre.length = o) : Cels h K b o cs :=
  cels_of (o := o) fun j u hj => cel_own i hi (by
    have hlt : j < cs.length := (List.getElem?_eq_some_iff.1 hj).1
    rw [List.append_assoc, List.getElem?_append_right (by omega), List.getElem?_append_left (by omega)]
    rw [← ho, Nat.add_sub_cancel_left]; exact hj)
theorem Cels.sub {b : Nat} {K' : List Asrt} : ∀ {l : List Value} {o : Nat}, Cels h K b o l → (∀ A ∈ K, A ∈ K') → Cels h K' b o l
  | [], _, _, _ => trivial
  | x :: r, o, hc, hs => ⟨hc.1.sub hs, Cels.sub hc.2 hs⟩

theorem p_toText {e : TypeId} {b o ca : Nat} {l : List UInt8} (hu : P.underlying t = some (.slice e)) (he : P.underlying e = some (.int .u8)) (hu2 : P.underlying t' = some .string) (hx : lkO E x = some (.slice (some ⟨b, o, none⟩) l.length ca))
    (hc : Cels h K b o (l.map u8)) : Pu P n E h K ⟨dst, .convert t t' x, ty, ps, af, g⟩ (.string ⟨l.toArray⟩) :=
  ⟨fun a w fa hs => by
    have := run_convert_bytes_back w t t' e ⟨b, o, none⟩ ca l hu he hu2 (fun j hj => by
      rw [add_none]
      have := (hc.get j (u8 l[j]) (by simp [List.getElem?_map, List.getElem?_eq_getElem hj])).run w hs
      rw [this]; rfl)
    simp [execOp, fa.eval hx, this]⟩
theorem p_toText0 {e : TypeId} {ao : Option Addr} {ca : Nat} (hu : P.underlying t = some (.slice e)) (he : P.underlying e = some (.int .u8)) (hu2 : P.underlying t' = some .string) (hx : lkO E x = some (.slice ao 0 ca)) :
    Pu P n E h K ⟨dst, .convert t t' x, ty, ps, af, g⟩ (.string ⟨#[]⟩) :=
  ⟨fun a w fa hs => by
    cases ao with
    | none => simp [execOp, fa.eval hx, convert, run_underlying hu, run_underlying he, run_underlying hu2, Conv.bytesToString]; rfl
    | some ad =>
      simp [execOp, fa.eval hx, convert, run_underlying hu, run_underlying he, run_underlying hu2, Conv.bytesToString, loadCells, loadCellsFrom]; rfl⟩
/-- The string of an owned row. -/
theorem p_toTextB {e : TypeId} {a : Option Nat} {m ca : Nat} {l : List UInt8} (i : Nat) (hi : K[i]? = some (bufA e 1 a m ca (l.map u8))) (hu : P.underlying t = some (.slice e)) (he : P.underlying e = some (.int .u8)) (hu2 : P.underlying t' = some .string) (hx : lkO E x = some (bufV a m ca)) :
    Pu P n E h K ⟨dst, .convert t t' x, ty, ps, af, g⟩ (.string ⟨l.toArray⟩) :=
  ⟨fun ac w fa hs => by
    have hown := hs.own _ (List.mem_of_getElem? hi)
    cases a with
    | none =>
      obtain ⟨e1, e2, e3⟩ := hown
      have : l = [] := by simpa using e3
      subst e1 e2 this
      have := (p_toText0 (h := h) (K := K) (E := E) (n := n) (dst := dst) (ty := ty) (ps := ps) (af := af) (g := g) hu he hu2 hx).run ac w fa hs
      exact this
    | some b =>
      obtain ⟨sp, fz, g1, g2, _⟩ := hown
      have hm : m = l.length := by simpa using g2.symm
      subst hm
      have := run_convert_bytes_back w t t' e ⟨b, 0, none⟩ ca l hu he hu2 (fun j hj => by
        rw [add_none, Nat.zero_add]
        simp only [World.cell?, g1]
        simp [List.getElem?_append_left (show j < (l.map u8).length by simpa using hj), List.getElem?_eq_getElem hj, u8])
      have hx' : lkO E x = some (.slice (some ⟨b, 0, none⟩) l.length ca) := hx
      simp [execOp, fa.eval hx', this]⟩
theorem l_toBytes {e : TypeId} {s : ByteArray} (hu : P.underlying t = some .string) (hu2 : P.underlying t' = some (.slice e)) (he : P.underlying e = some (.int .u8)) (hx : lkO E x = some (.string s)) (hsz : s.size ≤ maxLen) (hd : Nat.blt d n = true)
    (hk : ∀ B cap, WL P n ops Q rest ((d, bufV (some B) s.size cap) :: E) h (bufA e 1 (some B) s.size cap (s.data.toList.map u8) :: H)) :
    WL P n ops Q (⟨some d, .convert t t' x, ty, ps, af, none⟩ :: rest) E h H :=
  ⟨fun a w fa ok => wpList_plain rfl fun K hK => by
    unfold Oper.wp
    have hr := run_bytes_of_string w t t' e s hu hu2 he
    have : (execOp a.eval ⟨some d, .convert t t' x, ty, ps, af, none⟩).run P w = .ok (.value (bufV (some w.heap.size) s.size (grownCap w s.size 0 e))) (w.drew.alloc (.cells (bytesRow s (grownCap w s.size 0 e)) e ((bytesRow s (grownCap w s.size 0 e)).size, (bytesRow s (grownCap w s.size 0 e)).size + 1))) := by
      simp [execOp, fa.eval hx, hr, bufV]
    rw [this, Oper.upon_value]
    refine hK _ _ ((hk w.heap.size (grownCap w s.size 0 e)).run _ _ (fa.put _ hd) ?_)
    have hge := grownCap_ge w s.size 0 e
    have hle := grownCap_le_maxLen w s.size 0 e hsz
    have okd : Ok h H w.drew := ok.drew rfl rfl rfl rfl
    have hbr : bytesRow s (grownCap w s.size 0 e) = (s.data.toList.map u8 ++ List.replicate (grownCap w s.size 0 e - s.size) (Value.int .u8 0)).toArray := by
      apply Array.ext'; simp [bytesRow, u8]
    have hsz2 : (bytesRow s (grownCap w s.size 0 e)).size = grownCap w s.size 0 e := by simp [bytesRow]; omega
    rw [hsz2, hbr]
    have ok2 := okd.alloc (s.data.toList.map u8 ++ List.replicate (grownCap w s.size 0 e - s.size) (Value.int .u8 0)) e (grownCap w s.size 0 e, grownCap w s.size 0 e + 1)
    exact Ok.shut (b := w.heap.size) ok2 (by simp) (by simp; omega) hge hle (by rw [Nat.mul_one]; exact Free.past _ _)⟩

theorem src_one {b o c : Nat} {u : Value} (hc : Cel h K b o u) (h1 : oneCell u = true) : Src P h K 1 (.slice (some ⟨b, o, none⟩) 1 c) 1 [u] :=
  src_cells ⟨hc, trivial⟩ rfl fun x hx => by simp at hx; subst hx; exact h1
theorem src_buf {s m c : Nat} {a : Option Nat} {T : TypeId} {cs : List Value} (i : Nat) (hi : K[i]? = some (bufA T s a m c cs)) (h1 : ∀ u ∈ cs, oneCell u = true) (hl : cs.length = m * s) : Src P h K s (bufV a m c) m cs :=
  ⟨fun w => by simp [Builtin.lenOf, bufV], hl, h1, fun w hs => by
    have hown := hs.own _ (List.mem_of_getElem? hi)
    cases a with
    | none =>
      obtain ⟨e1, e2, e3⟩ := hown
      subst e1 e2 e3
      simp [bufV, Builtin.firstCells]
    | some b =>
      obtain ⟨sp, fz, g1, g2, _⟩ := hown
      have hl2 : (loadCells ⟨b, 0, none⟩ cs.length).run P w = .ok cs.toArray w := run_loadCells_list w _ _ fun j u hj => by
        rw [add_none, Nat.zero_add]
        have hjl : j < cs.length := (List.getElem?_eq_some_iff.1 hj).1
        simp only [World.cell?, g1]
        simp [List.getElem?_append_left hjl, hj]
      rw [hl] at hl2
      simp [bufV, Builtin.firstCells, hl2]⟩
/-- append where the owned row stands at place i. -/
theorem l_append_at {t2 : TypeId} {e s bs m sLen cap : Nat} {a : Option Nat} {z : Value} {d2 : TypeDesc} {cs xs : List Value} {xv : Value} (i : Nat) (hi : H[i]? = some (bufA e s a sLen cap cs)) (hu : P.underlying t = some (.slice e)) (hu2 : P.underlying t2 = some d2) (hi2 : okD2 d2 = true)
    (hs : szOf P e = some s) (hz : zrOf P e = some z) (hzs : z.cells.size = s) (hb : byOf P e = some bs) (hx : lkO E x = some (bufV a sLen cap)) (hy : lkO E y = some xv) (hsrc : Src P h (H.eraseIdx i) s xv m xs)
    (hmax : sLen + m ≤ 9223372036854775807) (hby : (sLen + m) * bs ≤ 140737488355328) (hd : Nat.blt d n = true)
    (hk : ∀ a' cap', WL P n ops Q rest ((d, bufV a' (sLen + m) cap') :: E) h (H.set i (bufA e s a' (sLen + m) cap' (cs ++ xs)))) :
    WL P n ops Q (⟨some d, .call ⟨.builtin .append, #[x, y], #[t, t2]⟩, ty, ps, af, none⟩ :: rest) E h H := by
  refine WL.perm (at_perm hi) (l_append hu hu2 hi2 hs hz hzs hb hx hy hsrc hmax hby hd fun a' cap' => ?_)
  refine WL.perm ?_ (hk a' cap')
  have hlt : i < H.length := by
    rcases Nat.lt_or_ge i H.length with h' | h'
    · exact h'
    · rw [List.getElem?_eq_none h'] at hi; cases hi
  have := at_perm (l := H.set i (bufA e s a' (sLen + m) cap' (cs ++ xs))) (i := i) (A := bufA e s a' (sLen + m) cap' (cs ++ xs)) (by rw [List.getElem?_set_self hlt])
  rw [List.eraseIdx_set_eq] at this
  exact this.symm
end
end Go.K
