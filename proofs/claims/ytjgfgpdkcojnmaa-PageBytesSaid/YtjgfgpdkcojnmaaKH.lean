/-
  KH: capacities, cuts with three bounds, rows that do not overlap. Generic over the program. Conditions: none.
-/
import Derived.Test.YtjgfgpdkcojnmaaKE
namespace Go.K
set_option linter.unusedVariables false
set_option linter.unusedSimpArgs false
section
variable {P : Program} {n : Nat} {Q : Exit → Act → World → Prop} {E : Env} {h h' h0 : Base} {H K R F : List Asrt} {ops : Array Oper} {rest : List Oper}
variable {op : Op} {t t' ty : TypeId} {ps : String} {af : Array Edge} {d i : Nat} {v : Value} {x y : Operand} {dst : Option Nat} {g : Option (Nat × Bool)}
theorem p_capS {e : TypeId} {ao : Option Addr} {la ca : Nat} (hu : P.underlying t = some (.slice e)) (hx : lkO E x = some (.slice ao la ca)) : Pu P n E h K ⟨dst, .call ⟨.builtin .cap, #[x], #[t]⟩, ty, ps, af, g⟩ (.int .i64 ca) :=
  ⟨fun a w fa _ => by
    rw [show (#[x] : Array Operand) = [x].toArray from rfl, run_builtin (vals := [.slice ao la ca]) fa (by simp [evArgs, hx])]
    simp [builtin, Builtin.cap_, run_underlying hu, goInt]⟩
theorem p_slice3 {e : TypeId} {s b o la ca : Nat} {zl zh zm : Operand} {k1 k2 k3 : IntKind} {l u m : Nat} {ao : Option Addr} (hu : P.underlying t = some (.slice e)) (hs : szOf P e = some s) (hx : lkO E x = some (.slice (some ⟨b, o, none⟩) la ca))
    (hlo : lkO E zl = some (.int k1 (l : Int))) (hhi : lkO E zh = some (.int k2 (u : Int))) (hmx : lkO E zm = some (.int k3 (m : Int)))
    (h1 : l ≤ u) (h2 : u ≤ m) (h3 : m ≤ ca) (ha : (if m = l then some (⟨b, o, none⟩ : Addr) else some ⟨b, o + l * s, none⟩) = ao) : Pu P n E h K ⟨dst, .slice t x (some zl) (some zh) (some zm), ty, ps, af, g⟩ (.slice ao (u - l) (m - l)) :=
  ⟨fun a w fa _ => by
    have hb : ∀ (y : Nat) (z : Nat) (k : IntKind) (c : BoundsCode), z ≤ y → (Instr.sliceBound (.int k z) y c).run P w = .ok z w := fun y z k c hz => by
      simp [Instr.sliceBound, asIntOf, hz]
    subst ha
    have key : (Instr.sliceBounds true la ca (some (a.eval zl)) (some (a.eval zh)) (some (a.eval zm))).run P w = .ok (l, u, m) w := by
      simp [Instr.sliceBounds, fa.eval hlo, fa.eval hhi, fa.eval hmx, hb _ _ _ _ h1, hb _ _ _ _ h2, hb _ _ _ _ h3]
    simp only [execOp, fa.eval hx, Instr.sliceAt, Option.map_none, Sem.run_bind, run_underlying hu, Result.andThen_ok, Instr.slice, key, run_sizeOf hs, Sem.run_pure, Option.map_some, add_none]⟩
theorem l_overlaps {f : FuncId} {fn : Func} {tS tR e : TypeId} {s bA bB oB la ca lb cb TA TB : Nat} {args : List Operand} {ats : Array TypeId} {csA csB : List Value} {fz : Nat × Nat} (hf : P.funcs[f]? = some fn) (hname : (fn.name == "runtime.NumGoroutine") = false) (hb : fn.body.isNone = true) (hn : Extern.findNext fn = none)
    (he : Extern.find fn = some (Extern.SlicesOverlaps.overlaps #[tS, tS] #[tR])) (ht : P.underlying tS = some (.slice e)) (hs : szOf P e = some s) (ha : evArgs E args = some [.slice (some ⟨bA, 0, none⟩) la ca, .slice (some ⟨bB, oB, none⟩) lb cb]) (hc : 0 < csB.length) (hd : Nat.blt d n = true)
    (hk : WL P n ops Q rest ((d, .bool false) :: E) h (blkF bB TB csB fz :: blk bA TA csA :: R)) :
    WL P n ops Q (⟨some d, .call ⟨.value (.func f), args.toArray, ats⟩, ty, ps, af, none⟩ :: rest) E h (blkF bB TB csB fz :: blk bA TA csA :: R) :=
  ⟨fun a w fa ok => by
    have hnd := ok.nd
    simp only [idsOf, List.flatMap_cons, blkF, List.singleton_append, List.nodup_cons, List.mem_cons] at hnd
    have hne : bA ≠ bB := fun e => hnd.1 (.inl e.symm)
    have hA : w.heap[bA]? = some (.cells csA.toArray TA (0, 0)) := ok.sat.own (blk bA TA csA) (List.mem_cons_of_mem _ (List.mem_cons_self ..))
    have hB : w.heap[bB]? = some (.cells csB.toArray TB fz) := ok.sat.own (blkF bB TB csB fz) (List.mem_cons_self ..)
    have hr := Lib.run_overlaps_apart (P := P) w tS tR e ht s (fun w => run_sizeOf hs) ⟨bA, 0, none⟩ ⟨bB, oB, none⟩ la ca lb cb hne TA TB csA.length csB.length (by simp [World.shape?, hA]) (by simp [World.shape?, hB]) (by omega) (by simp [World.frozen?, hA]) (by simp [World.frozen?, hA])
    refine wpList_plain rfl fun KK hK => ?_
    have h1 := evArgs_eval fa args _ ha
    have h2 : args.toArray.map a.eval = [Value.slice (some ⟨bA, 0, none⟩) la ca, Value.slice (some ⟨bB, oB, none⟩) lb cb].toArray := by rw [List.map_toArray, h1]
    have hcall : (execOp a.eval ⟨some d, .call ⟨.value (.func f), args.toArray, ats⟩, ty, ps, af, none⟩).run P w = .ok (.value (.bool false)) w := by
      simp only [execOp, resolve, Act.eval, Deferred.ofValue, h2, Sem.run_bind, Sem.run_pure, Result.andThen_ok, invoke]
      simp only [Array.empty_append, Array.append_empty]
      rw [run_callFunc_extern hf hname hb hn he]
      show ((Extern.SlicesOverlaps.overlaps #[tS, tS] #[tR] #[.slice (some ⟨bA, 0, none⟩) la ca, .slice (some ⟨bB, oB, none⟩) lb cb]).run P w).andThen _ = _
      rw [hr]
      rfl
    unfold Oper.wp
    rw [hcall, Oper.upon_value]
    exact hK _ _ (hk.run _ _ (fa.put _ hd) ok)⟩
end
end Go.K
