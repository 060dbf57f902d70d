/-
  KJ: bytes of a constant text, as a row of the call's own. Generic over the program. Conditions: none.
-/
import Derived.Test.YtjgfgpdkcojnmaaKE
import Derived.Lib.SlBytesConst
namespace Go.K
set_option linter.unusedVariables false
set_option linter.unusedSimpArgs false

section
variable {P : Program} {n : Nat} {Q : Exit → Act → World → Prop} {E : Env} {h h' h0 : Base} {H K R F : List Asrt} {ops : Array Oper} {rest : List Oper}
variable {op : Op} {t t' ty : TypeId} {ps : String} {af : Array Edge} {d i : Nat} {v : Value} {x y : Operand} {dst : Option Nat} {g : Option (Nat × Bool)}
theorem run_mark (w : World) (t e : TypeId) (b m c : Nat) (cs : List Value) (ht : P.underlying t = some (.slice e)) (he : P.underlying e = some (.int .u8)) (hb : w.heap[b]? = some (.cells cs.toArray e (0, 0))) :
    ∃ w', (convert t t (.slice (some ⟨b, 0, none⟩) m c)).run P w = .ok (.slice (some ⟨b, 0, none⟩) m c) w' ∧ w'.os = w.os ∧ w'.tape = w.tape ∧ w'.output = w.output ∧ w'.heap[b]? = some (.cells cs.toArray e (cs.length, cs.length + 1)) ∧ ∀ x, x ≠ b → x < w.heap.size → w'.heap[x]? = w.heap[x]? := by
  have hsh : w.shape? b = some (e, cs.length) := by unfold World.shape?; rw [hb]; simp
  refine ⟨w.freeze ⟨b, cs.length, none⟩ 1, by simp [convert, run_underlying ht, run_underlying he, markStringish, hsh], ?_⟩
  unfold World.freeze
  rw [if_neg (by decide)]
  have hlt := heap_lt hb
  refine ⟨rfl, rfl, rfl, ?_, fun x hx hxl => ?_⟩
  · show (w.heap.modify b _)[b]? = _
    rw [Array.getElem?_eq_getElem (by simpa using hlt)]
    simp only [Array.getElem_modify, if_true]
    have : w.heap[b] = .cells cs.toArray e (0, 0) := by rw [Array.getElem?_eq_getElem hlt] at hb; exact Option.some.inj hb
    rw [this]; rfl
  · show (w.heap.modify b _)[x]? = _
    rw [Array.getElem?_eq_getElem (by simpa using hxl), Array.getElem?_eq_getElem hxl]
    simp only [Array.getElem_modify]
    rw [if_neg (fun e => hx e.symm)]
/-- A text's row is marked: as an owned slice. -/
theorem l_mark {e b m : Nat} {cs : List Value} (ht : P.underlying t = some (.slice e)) (he : P.underlying e = some (.int .u8)) (hx : lkO E x = some (.slice (some ⟨b, 0, none⟩) m m)) (hm : cs.length = m) (hmx : m ≤ maxLen) (hd : Nat.blt d n = true)
    (hk : WL P n ops Q rest ((d, bufV (some b) m m) :: E) h (bufA e 1 (some b) m m cs :: H)) : WL P n ops Q (⟨some d, .convert t t x, ty, ps, af, none⟩ :: rest) E h (blk b e cs :: H) :=
  ⟨fun a w fa ok => wpList_plain rfl fun KK hK => by
    subst hm
    obtain ⟨w', e1, q1, q2, q3, q4, q5⟩ := run_mark (P := P) w t e b cs.length cs.length cs ht he ok.own_head
    unfold Oper.wp
    have : (execOp a.eval ⟨some d, .convert t t x, ty, ps, af, none⟩).run P w = .ok (.value (.slice (some ⟨b, 0, none⟩) cs.length cs.length)) w' := by
      simp only [execOp, fa.eval hx, Sem.run_bind, e1, Result.andThen_ok, Sem.run_pure]
    rw [this, Oper.upon_value]
    have ok1 : Ok h (blkF b e cs (cs.length, cs.length + 1) :: H) w' := ok.write e cs (cs.length, cs.length + 1) q1 q2 q3 q4 q5
    have ok2 : Ok h (blkF b e (cs ++ []) (cs.length, cs.length + 1) :: H) w' := by rw [List.append_nil]; exact ok1
    refine hK _ _ (hk.run _ _ (fa.put _ hd) (ok2.shut (by simp) (by simp) (Nat.le_refl _) hmx (by rw [Nat.mul_one]; exact Free.past _ _)))⟩
/-! ### Ways that meet -/
/-- Whatever ways a code takes: what follows is walked once. -/
theorem c_join {c : Code} {β : Type} (Ej : β → Env) (hj : β → Base) (Hj : β → List Asrt) (I : β → Prop)
    (h1 : ∀ K : Act → World → Prop, (∀ b a w, I b → Fr n (Ej b) a → Ok (hj b) (Hj b) w → K a w) → WC P n c (Exit.then K Q) E h H) (h2 : ∀ b, I b → AT P n Q .normal (Ej b) (hj b) (Hj b)) : WC P n c Q E h H :=
  ⟨fun a w fa ok => Code.wp_mono (fun e a' w' hq => by
    cases e with
    | normal =>
      obtain ⟨b, i, fb, ob⟩ := hq
      exact (h2 b i).run a' w' fb ob
    | _ => exact hq) ((h1 (fun a w => ∃ b, I b ∧ Fr n (Ej b) a ∧ Ok (hj b) (Hj b) w) (fun b a w i f o => ⟨b, i, f, o⟩)).run a w fa ok)⟩
theorem a_join {β : Type} {Ej : β → Env} {hj : β → Base} {Hj : β → List Asrt} {I : β → Prop} {K : Act → World → Prop} (hK : ∀ b a w, I b → Fr n (Ej b) a → Ok (hj b) (Hj b) w → K a w) (b : β) (hI : I b)
    (hE : Sub E (Ej b)) (hB : hj b = h) (hH : Hj b = H) : AT P n (Exit.then K Q) .normal E h H := ⟨fun a w fa ok => hK b a w hI (fa.sub hE) (by rw [hB, hH]; exact ok)⟩
end
end Go.K
