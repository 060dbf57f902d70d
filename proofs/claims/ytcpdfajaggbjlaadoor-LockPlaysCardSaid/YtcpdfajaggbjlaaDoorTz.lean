/-
  What the statements' arguments read as: acts; what the laid variables hold. Conditions: each theorem's own.
-/
import Derived.Test.YtcpdfajaggbjlaaDoorRows
import Derived.Test.YtcpdfajaggbjlaaDoorTy
import Derived.SizedLaws
import Derived.Lib.LaidTab
import Derived.OpenShut
import Derived.Stop.LaidErr
namespace Go.Proofs.YtcpdfajaggbjlaaDoor.Rd
open Go Go.K Go.Proofs Go.Proofs.YtcpdfajaggbjlaaDoor Go.Proofs.YtcpdfajaggbjlaaDoor.Lk
open Go.ChangeShapes Go.WideShapes Go.ChangeAt Go.RowKit
set_option linter.unusedVariables false
set_option linter.unusedSimpArgs false
set_option maxRecDepth 10000

section
variable {H : Type} {enc : TypeId × Value → H} {P : Program} {W : World} {base : Nat} {spare : Nat → Bool} {held : Bool}
theorem thing_of (cs : List Value) (n : Nat) (y : DataW H × List MemPlace) (h : DataW.trod enc Tryd.prog W base spare held n 36 cs = some y) : ∃ i : PThing, cs = cT i ∧ wfT i := by
  obtain ⟨xs, k, rfl, rfl, hl, hlen, hf⟩ := DataW.trod_struct Tryd.underlying36 h
  have hl4 : cs.length = 4 := hl.trans (by kernel_rfl)
  have c4 : Tryd.prog.cellsOf 4 = 1 := by kernel_rfl
  have c9 : Tryd.prog.cellsOf 9 = 1 := by kernel_rfl
  have c34 : Tryd.prog.cellsOf 34 = 1 := by kernel_rfl
  match cs, hl4, xs, hlen with
  | [v0, v1, v2, v3], _, [x0, x1, x2, x3], _ =>
    have f0 := hf 0 _ rfl
    have f1 := hf 1 _ rfl
    have f2 := hf 2 _ rfl
    have f3 := hf 3 _ rfl
    simp [c4, c9, c34] at f0 f1 f2 f3
    obtain ⟨b0, e0, _⟩ := DataW.trod_bool Tryd.underlying4 f0
    obtain ⟨n1, e1, _, w1⟩ := DataW.trod_int Tryd.underlying34 f1
    obtain ⟨s2, e2, _, w2⟩ := DataW.trod_string Tryd.underlying9 f2
    obtain ⟨s3, e3, _, w3⟩ := DataW.trod_string Tryd.underlying9 f3
    simp at e0 e1 e2 e3
    subst e0 e1 e2 e3
    have b1 := bounds_u32 w1
    refine ⟨⟨b0, n1.toNat, s2, s3⟩, ?_, ⟨?_, w2, w3⟩⟩
    · show _ = [Value.bool b0, Value.int .u32 ((n1.toNat : Nat) : Int), Value.string s2, Value.string s3]
      rw [show ((n1.toNat : Nat) : Int) = n1 by omega]
    · show n1.toNat < 4294967296
      omega
theorem act_of (cs : List Value) (n : Nat) (y : DataW H × List MemPlace) (h : DataW.trod enc Tryd.prog W base spare held n 38 cs = some y) : ∃ i : PAct, cs = cA i ∧ wfA i := by
  obtain ⟨xs, k, rfl, rfl, hl, hlen, hf⟩ := DataW.trod_struct Tryd.underlying38 h
  have hl4 : cs.length = 7 := hl.trans (by kernel_rfl)
  have c3 : Tryd.prog.cellsOf 3 = 1 := by kernel_rfl
  have c34 : Tryd.prog.cellsOf 34 = 1 := by kernel_rfl
  have c36 : Tryd.prog.cellsOf 36 = 4 := by kernel_rfl
  match cs, hl4, xs, hlen with
  | [v0, v1, v2, v3, v4, v5, v6], _, [x0, x1, x2, x3], _ =>
    have f0 := hf 0 _ rfl
    have f1 := hf 1 _ rfl
    have f2 := hf 2 _ rfl
    have f3 := hf 3 _ rfl
    simp [c3, c34, c36] at f0 f1 f2 f3
    obtain ⟨n0, e0, _, w0⟩ := DataW.trod_int Tryd.underlying3 f0
    obtain ⟨n1, e1, _, w1⟩ := DataW.trod_int Tryd.underlying34 f1
    obtain ⟨th, e2, w2⟩ := thing_of _ _ _ f2
    obtain ⟨n3, e3, _, w3⟩ := DataW.trod_int Tryd.underlying3 f3
    simp [cT] at e0 e1 e2 e3
    obtain ⟨rfl, rfl, rfl, rfl⟩ := e2
    subst e0 e1 e3
    have b1 := bounds_u32 w1
    have b0 := bounds_i64 w0
    have b3 := bounds_i64 w3
    refine ⟨⟨n0, n1.toNat, th, n3⟩, ?_, ⟨b0, ?_, w2, b3⟩⟩
    · show _ = [Value.int .i64 n0, Value.int .u32 ((n1.toNat : Nat) : Int), Value.bool th.rng, .int .u32 th.id, .string th.frm, .string th.to, .int .i64 n3]
      rw [show ((n1.toNat : Nat) : Int) = n1 by omega]
    · show n1.toNat < 4294967296
      omega
theorem acts_of {fuel : Nat} {x : DataW H × List MemPlace} {a : Option Addr} {len cap : Nat} (h : DataW.trod enc Tryd.prog W base spare held fuel 22 [Value.slice a len cap] = some x) :
    ∃ l : List PAct, SL (Base.of W) 7 (.slice a len cap) (l.map cA) ∧ (∀ i ∈ l, wfA i) ∧ l.length ≤ 9223372036854775807 := by
  obtain ⟨l, h1, h2, h3⟩ := sl_of (sz := 7) (f := cA) (wf := wfA) (v := .slice a len cap) Tryd.underlying22 (by kernel_rfl) (by decide) act_of (fun _ => rfl) h ⟨_, _, _, rfl⟩
  exact ⟨l, h1, h2, by unfold maxLen at h3; omega⟩
end
theorem gHas : Tryd.prog.globalNamed "cadastre/lock.has" = some 0 := by kernel_rfl
theorem gConf : Tryd.prog.globalNamed "cadastre/lock.conflicts" = some 1 := by kernel_rfl
theorem gHasT : (Tryd.prog.globals[0]?).map (·.type) = some 76 := by kernel_rfl
theorem gConfT : (Tryd.prog.globals[1]?).map (·.type) = some 76 := by kernel_rfl
theorem tabCells : Tryd.prog.cellsOf 76 = 5 := by kernel_rfl
theorem numCells : Tryd.prog.cellsOf 5 = 1 := by kernel_rfl
theorem glob {W : World} (h : laidMet Tryd.prog [("cadastre/lock.conflicts", Rows.laid_cadastre_lock_conflicts), ("cadastre/lock.has", Rows.laid_cadastre_lock_has)] W) : Glob (Base.of W) := by
  have hc : Lib.TabIs Tryd.prog W "cadastre/lock.conflicts" .u8 [0, 16, 24, 20, 30] := Lib.tabIs_of_head gConf gConfT Tryd.underlying76 Tryd.underlying5 numCells tabCells h
  have hh : Lib.TabIs Tryd.prog W "cadastre/lock.has" .u8 [0, 2, 6, 10, 30] := Lib.tabIs_of_head gHas gHasT Tryd.underlying76 Tryd.underlying5 numCells tabCells (laidMet.tail h)
  exact ⟨⟨cel_of (hh.cell gHas 0 (by decide)), cel_of (hh.cell gHas 1 (by decide)), cel_of (hh.cell gHas 2 (by decide)), cel_of (hh.cell gHas 3 (by decide)), cel_of (hh.cell gHas 4 (by decide)), trivial⟩,
    ⟨cel_of (hc.cell gConf 0 (by decide)), cel_of (hc.cell gConf 1 (by decide)), cel_of (hc.cell gConf 2 (by decide)), cel_of (hc.cell gConf 3 (by decide)), cel_of (hc.cell gConf 4 (by decide)), trivial⟩⟩
/-- A world for the witness: the settled one, the two variables holding what their initialisers lay. -/
def laidCells (cs : Array Value) : Obj → Obj
  | .cells _ t frozen => .cells cs t frozen
  | o => o
noncomputable def laidWorld (os : Os) : World :=
  { World.holding Tryd.prog os ⟨#[], #[], []⟩ with heap := ((World.holding Tryd.prog os ⟨#[], #[], []⟩).heap.modify 1 (laidCells #[.int .u8 0, .int .u8 16, .int .u8 24, .int .u8 20, .int .u8 30])).modify 0 (laidCells #[.int .u8 0, .int .u8 2, .int .u8 6, .int .u8 10, .int .u8 30]) }
theorem laid_met (os : Os) (args : Array Value) : laidMet Tryd.prog [("cadastre/lock.conflicts", Rows.laid_cadastre_lock_conflicts), ("cadastre/lock.has", Rows.laid_cadastre_lock_has)] ((laidWorld os).forCall (fun _ _ => 0) ⟨#[], args, []⟩).memory :=
  laidMet_of_run' 8 (by kernel_rfl) (by kernel_rfl)
end Go.Proofs.YtcpdfajaggbjlaaDoor.Rd
