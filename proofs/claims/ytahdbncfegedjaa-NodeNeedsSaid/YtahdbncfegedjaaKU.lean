/-
  KU: append of so many noughts, where there is no room. Generic over the program. Conditions: each theorem's own.
-/
import Derived.Test.YtahdbncfegedjaaKT
namespace Go.K
open Go
set_option linter.unusedVariables false
set_option linter.unusedSimpArgs false
set_option linter.unusedSectionVars false
section
variable {P : Program} {n : NN} {Q : Exit → Act → World → Prop} {E : Env} {h h' h0 : Base} {H K R F : List Asrt} {ops : Array Oper} {rest : List Oper}
variable {op : Op} {t t2 ty : TypeId} {ps : String} {af : Array Edge} {d : Nat} {v : Value} {x y : Operand} {dst : Option Nat}
theorem l_appendMake {e s bs i k cap b : Nat} {z : Value} {ik : IntKind} {old : List Value} (hu : P.underlying t = some (.slice e)) (hu2 : P.underlying t2 = some (.int ik)) (hs : szOf P e = some s) (hz : zrOf P e = some z) (hzs : z.cells.size = s) (hb : byOf P e = some bs) (hs0 : 0 < s)
    (hx : lkO E x = some (.slice (some ⟨b, 0, none⟩) i cap)) (hy : lkO E y = some (.int .i64 k)) (hold : Cels h H b 0 old) (hol : old.length = i * s) (hno : cap < i + k) (hk1 : 0 < k) (hk2 : (i + k) * bs ≤ 140737488355328) (hk3 : i + k ≤ 140737488355328) (hd : Nat.blt d n = true)
    (hk : ∀ B cap' more, i + k ≤ cap' → cap' ≤ maxLen → more.length = (cap' - i) * s → WL P n ops Q rest ((d, .slice (some ⟨B, 0, none⟩) (i + k) cap') :: E) h (blk B e (old ++ more) :: H)) :
    WL P n ops Q (⟨some d, .call ⟨.builtin .append, #[x, y], #[t, t2]⟩, ty, ps, af, none⟩ :: rest) E h H :=
  ⟨fun ac w fa ok => wpList_plain rfl fun KK hK => by
    obtain ⟨inf, hi, hi1, hi2, hi3⟩ : ∃ inf, P.info? e = some inf ∧ inf.size = s ∧ inf.bytes = bs ∧ inf.zero = some z := by
      unfold szOf at hs; unfold byOf at hb; unfold zrOf at hz
      cases hi : P.info? e with
      | none => simp [hi] at hs
      | some i => simp [hi] at hs hb hz; exact ⟨i, rfl, hs, hb, hz⟩
    have okd : Ok h H w.drew := ok.drew rfl rfl rfl rfl
    have hge := grownCap_ge w (i + k) cap e
    have hle := grownCap_le_maxLen w (i + k) cap e (by unfold maxLen; omega)
    have hfit : ¬ 281474976710656 < Builtin.nextslicecap (i + k) cap * inf.bytes := by
      have := growslice_fits (need := i + k) (old := cap) (bytes := inf.bytes) (by omega) (by rw [hi2]; exact hk2)
      omega
    have hld : (Builtin.firstCells s i (.slice (some ⟨b, 0, none⟩) i cap)).run P w.drew = .ok old.toArray w.drew := by
      have hl : (loadCells ⟨b, 0, none⟩ old.length).run P w.drew = .ok old.toArray w.drew := run_loadCells_list w.drew _ _ fun j u hj => by
        rw [add_none]; exact (hold.get j u hj).run _ okd.sat
      rw [hol] at hl
      simp [Builtin.firstCells, hl]
    have hwr : IntKind.i64.wrap (k : Int) = k := wr_i64 (by omega) (by omega)
    have hmm : ¬ (9223372036854775807 < (i : Int) + (k : Int)) := by omega
    have hkb : ¬ (281474976710656 < (k : Int) * (inf.bytes : Int)) := by
      rw [hi2]
      have h1 : k * bs ≤ (i + k) * bs := Nat.mul_le_mul_right _ (by omega)
      have h2 : ((k * bs : Nat) : Int) = (k : Int) * (bs : Int) := Int.natCast_mul ..
      rw [← h2]
      omega
    have hks : ¬ k * s = 0 := by
      have := Nat.mul_pos hk1 hs0
      omega
    obtain ⟨cap', hcap⟩ : ∃ c, c = grownCap w (i + k) cap e := ⟨_, rfl⟩
    have run : (Builtin.append_ #[t, t2] ty #[.slice (some ⟨b, 0, none⟩) i cap, .int .i64 k]).run P w = .ok (.slice (some ⟨w.drew.heap.size, 0, none⟩) (i + k) cap') (w.drew.alloc (.cells (old.toArray ++ Builtin.zeroCells z.cells k ++ Builtin.zeroCells z.cells (cap' - (i + k))) e)) := by
      simp only [Builtin.append_, Sem.run_bind, List.getElem?_toArray, List.getElem?_cons_zero, List.getElem?_cons_succ, run_underlying hu, run_underlying hu2, Result.andThen_ok, run_sizeOf (P := P) (t := e) (s := s) (by simp [szOf, hi, hi1])]
      have hno' : ¬ (i + k ≤ cap) := by omega
      have hneg : ¬ ((k : Int) < 0) := by omega
      have hk0 : ¬ k = 0 := by omega
      have hs00 : ¬ s = 0 := by omega
      simp [asInt, asIntOf, hwr, hneg, hk0, hs00, hmm, typeInfo, hi, hfit, hkb, hks, hno', Question.forced, hld, zeroValue, hi3, newRow, grownCap, IntKind.max, IntKind.signed, IntKind.bits, hcap]
    unfold Oper.wp
    have hrun : (execOp ac.eval ⟨some d, .call ⟨.builtin .append, #[x, y], #[t, t2]⟩, ty, ps, af, none⟩).run P w = .ok (.value (.slice (some ⟨w.drew.heap.size, 0, none⟩) (i + k) cap')) (w.drew.alloc (.cells (old.toArray ++ Builtin.zeroCells z.cells k ++ Builtin.zeroCells z.cells (cap' - (i + k))) e)) := by
      rw [show (#[x, y] : Array Operand) = [x, y].toArray from rfl, run_builtin (vals := [.slice (some ⟨b, 0, none⟩) i cap, .int .i64 k]) fa (by simp [evArgs, hx, hy])]
      simp only [builtin, Sem.run_bind, run, Result.andThen_ok, Sem.run_pure]
    rw [hrun, Oper.upon_value]
    have ok2 := okd.alloc (old ++ ((Builtin.zeroCells z.cells k).toList ++ (Builtin.zeroCells z.cells (cap' - (i + k))).toList)) e (0, 0)
    have harr : (old ++ ((Builtin.zeroCells z.cells k).toList ++ (Builtin.zeroCells z.cells (cap' - (i + k))).toList)).toArray = old.toArray ++ Builtin.zeroCells z.cells k ++ Builtin.zeroCells z.cells (cap' - (i + k)) := by
      apply Array.ext'; simp
    rw [harr] at ok2
    refine hK _ _ ((hk w.drew.heap.size cap' ((Builtin.zeroCells z.cells k).toList ++ (Builtin.zeroCells z.cells (cap' - (i + k))).toList) (hcap ▸ hge) (hcap ▸ hle) ?_).run _ _ (fa.put _ hd) ?_)
    · rw [List.length_append, zeroCells_len, zeroCells_len, hzs, ← Nat.add_mul]
      congr 1
      have := hcap ▸ hge
      omega
    · have e : (blk w.drew.heap.size e (old ++ ((Builtin.zeroCells z.cells k).toList ++ (Builtin.zeroCells z.cells (cap' - (i + k))).toList))) = blkF w.drew.heap.size e (old ++ ((Builtin.zeroCells z.cells k).toList ++ (Builtin.zeroCells z.cells (cap' - (i + k))).toList)) (0, 0) := rfl
      exact ok2⟩
theorem WL.capB {L : List Oper} {T s b m cap : Nat} {cs : List Value} (j : Nat) (hj : H[j]? = some (bufA T s (some b) m cap cs)) (hk : m ≤ cap → WL P n ops Q L E h H) : WL P n ops Q L E h H := ⟨fun a w fa ok => by
  have := ok.sat.own _ (List.mem_of_getElem? hj)
  obtain ⟨sp, fz, g1, g2, g3, g4, g5, g6⟩ := this
  exact (hk g4).run a w fa ok⟩
theorem p_slice3L {e sz : Nat} {es : List (List Value)} {zh zm : Operand} {k2 k3 : IntKind} {u : Nat} {g : Option (Nat × Bool)} (hb : SL h sz v es) (h0 : 0 < es.length) (hu : P.underlying t = some (.slice e)) (hs : szOf P e = some sz) (hx : lkO E x = some v)
    (hhi : lkO E zh = some (.int k2 (u : Int))) (hmx : lkO E zm = some (.int k3 (u : Int))) (h2 : u ≤ es.length) : ∃ v', Pu P n E h K ⟨dst, .slice t x none (some zh) (some zm), ty, ps, af, g⟩ v' ∧ SL h sz v' (es.take u) := by
  rcases hb with ⟨_, _, _, rfl⟩ | ⟨b, o, ca, rfl, hca, hcs⟩
  · exact absurd h0 (by simp)
  refine ⟨.slice (some ⟨b, o, none⟩) u u, ⟨fun a w fa _ => ?_⟩, ?_⟩
  · have hb : ∀ (y : Nat) (z : Nat) (k : IntKind) (c : BoundsCode), z ≤ y → (Instr.sliceBound (.int k z) y c).run P w = .ok z w := fun y z k c hz => by
      simp [Instr.sliceBound, asIntOf, hz]
    have key : (Instr.sliceBounds true es.length ca none (some (a.eval zh)) (some (a.eval zm))).run P w = .ok (0, u, u) w := by
      simp [Instr.sliceBounds, fa.eval hhi, fa.eval hmx, hb _ _ _ _ (Nat.le_refl u), hb _ _ _ _ (show u ≤ ca by omega)]
    simp only [execOp, fa.eval hx, Instr.sliceAt, Option.map_none, Sem.run_bind, run_underlying hu, Result.andThen_ok, Instr.slice, key, run_sizeOf hs, Sem.run_pure, Option.map_some, add_none, Nat.sub_zero, Nat.zero_mul, Nat.add_zero]
    split <;> rfl
  · have hl : (es.take u).length = u := by simp; omega
    refine .inr ⟨b, o, u, by rw [hl], by rw [hl]; exact Nat.le_refl _, fun j hj => ?_⟩
    rw [hl] at hj
    have e : (es.take u)[j]'(by rw [hl]; exact hj) = es[j]'(by omega) := by simp
    rw [e]
    exact hcs j (by omega)
end
end Go.K
