/-
  The bytes of a page, by the document. Conditions: each theorem's own.
-/
import Derived.Test.YtkdngpiiecmpgaaGreatFo
import Derived.Test.YtkdngpiiecmpgaaGreatRa

namespace Go.Proofs.YtkdngpiiecmpgaaGreat.Pg
open Go Go.K Go.Proofs Go.Proofs.YtkdngpiiecmpgaaGreat Go.Proofs.YtkdngpiiecmpgaaGreat.Ra
set_option linter.unusedVariables false
set_option linter.unusedSimpArgs false
set_option maxRecDepth 10000

theorem two_u8 {k n : Nat} (hk : k < 256) (hn : n < 256) : [Value.int .u8 (k : Int), Value.int .u8 (n : Int)] = (lebs k 1 ++ lebs n 1).map u8 := by
  simp [lebs, u8, UInt8.toNat_ofNat', Nat.mod_eq_of_lt hk, Nat.mod_eq_of_lt hn]
theorem u8_ones (l : List UInt8) : ∀ u ∈ l.map u8, oneCell u = true := fun u hu => by
  obtain ⟨c, _, rfl⟩ := List.mem_map.1 hu
  rfl
section
variable {n : Nat} {Q : Exit → Act → World → Prop} {E : Env} {h : Base} {H R : List Asrt} {ops : Array Oper} {rest : List Oper} {t t2 ty : TypeId} {ps : String} {af : Array Edge} {d : Nat} {x y : Operand}
/-- Owned bytes appended to owned bytes; the appended ones' row goes. -/
theorem l_appBB {a a2 : Option Nat} {cap cap2 : Nat} {l l2 : List UInt8} (hu : Tryz.prog.underlying t = some (.slice 5)) (hu2 : Tryz.prog.underlying t2 = some (.slice 5)) (hx : lkO E x = some (bufV a l.length cap)) (hy : lkO E y = some (bufV a2 l2.length cap2))
    (hl : l.length + l2.length ≤ 1000000000) (hd : Nat.blt d n = true) (hk : ∀ a' cap', WL Tryz.prog n ops Q rest ((d, bufV a' (l ++ l2).length cap') :: E) h (bufA 5 1 a' (l ++ l2).length cap' ((l ++ l2).map u8) :: R)) :
    WL Tryz.prog n ops Q (⟨some d, .call ⟨.builtin .append, #[x, y], #[t, t2]⟩, ty, ps, af, none⟩ :: rest) E h (bufA 5 1 a2 l2.length cap2 (l2.map u8) :: bufA 5 1 a l.length cap (l.map u8) :: R) := by
  refine K.l_append_at (e := 5) 1 rfl hu hu2 rfl (Fx.sz rfl) (Fx.zr rfl) rfl (Fx.byt rfl) hx hy (K.src_buf 0 rfl (u8_ones l2) (by simp)) (by omega) (by omega) hd (fun a' cap' => ?_)
  simp only [List.set_cons_zero, List.set_cons_succ, List.eraseIdx_cons_zero, List.eraseIdx_cons_succ, List.cons_append, List.nil_append]
  refine K.WL.drop ?_
  have := hk a' cap'
  rw [List.length_append, List.map_append] at this
  exact this
/-- Bytes of the base appended to owned bytes. -/
theorem l_appBV {a : Option Nat} {cap : Nat} {l l2 : List UInt8} {v : Value} (hb : BV h v l2) (hu : Tryz.prog.underlying t = some (.slice 5)) (hu2 : Tryz.prog.underlying t2 = some (.slice 5)) (hx : lkO E x = some (bufV a l.length cap)) (hy : lkO E y = some v)
    (hl : l.length + l2.length ≤ 1000000000) (hd : Nat.blt d n = true) (hk : ∀ a' cap', WL Tryz.prog n ops Q rest ((d, bufV a' (l ++ l2).length cap') :: E) h (bufA 5 1 a' (l ++ l2).length cap' ((l ++ l2).map u8) :: R)) :
    WL Tryz.prog n ops Q (⟨some d, .call ⟨.builtin .append, #[x, y], #[t, t2]⟩, ty, ps, af, none⟩ :: rest) E h (bufA 5 1 a l.length cap (l.map u8) :: R) := by
  refine K.l_append_at (e := 5) 0 rfl hu hu2 rfl (Fx.sz rfl) (Fx.zr rfl) rfl (Fx.byt rfl) hx hy hb.src (by omega) (by omega) hd (fun a' cap' => ?_)
  simp only [List.set_cons_zero, List.set_cons_succ, List.eraseIdx_cons_zero, List.eraseIdx_cons_succ, List.cons_append, List.nil_append]
  have := hk a' cap'
  rw [List.length_append, List.map_append] at this
  exact this
end
end Go.Proofs.YtkdngpiiecmpgaaGreat.Pg
