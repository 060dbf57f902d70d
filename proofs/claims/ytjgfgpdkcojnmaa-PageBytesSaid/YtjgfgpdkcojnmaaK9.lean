/-
  K9: from a world to a base; from a triple to what the statement's frame wants; what the arguments read as. Generic over the program. Conditions: none.
-/
import Derived.Test.YtjgfgpdkcojnmaaK8
import Derived.WalkKit
import Derived.ProofKit
import Derived.Below
import Derived.OpenShut
import Derived.ShutString
import Derived.ChangeOld
import Derived.Deep.Slices
namespace Go.K
set_option linter.unusedVariables false
set_option linter.unusedSimpArgs false
open Go.ChangeShapes Go.WideShapes Go.ChangeAt Go.RowKit

/-- The base of a world: all of its heap stays. -/
def Base.of (w : World) : Base := ⟨w.os, w.tape, w.output, fun b => w.heap[b]?⟩
theorem Ok.of (w : World) : Ok (Base.of w) [] w := ⟨rfl, rfl, rfl, ⟨fun _ _ h => h, fun _ hA => by simp at hA⟩, by simp [idsOf], fun b hb => by simp [idsOf] at hb⟩

theorem below_of {w w' : World} {h' : Base} {H : List Asrt} (hle : (Base.of w).le h') (ok : Ok h' H w') : Below w.heap.size w w' := by
  have hb : ∀ k, k < w.heap.size → w'.heap[k]? = w.heap[k]? := fun k hk => by
    have h1 : (Base.of w).mem k = some w.heap[k] := by simp [Base.of, hk]
    rw [ok.sat.imm k _ (hle.mem k _ h1)]
    simp [hk]
  refine ⟨ok.os.trans hle.os, ok.tape.trans hle.tape, ok.output.trans hle.output, ?_, hb⟩
  by_cases h0 : w.heap.size = 0
  · omega
  · have h1 := hb (w.heap.size - 1) (by omega)
    have h2 : w.heap[w.heap.size - 1]? = some (w.heap[w.heap.size - 1]'(by omega)) := Array.getElem?_eq_getElem _
    have := (Array.getElem?_eq_some_iff.1 (h1.trans h2)).1
    show w.heap.size ≤ w'.heap.size
    omega

/-- The statement's walk off a triple. -/
theorem calls_of {P : Program} {f : FuncId} {args : List Value} {w : World} (hx : Tr P f args (Base.of w) [] (fun u h' H' => u = .bool true ∧ H' = [])) :
    Calls P f args.toArray w (fun e w' => e = .returned (.bool true) ∧ Below w.heap.size w w') := by
  refine (hx [] w (Ok.of w)).mono fun e w' hq => ?_
  obtain ⟨v, rfl, h', H', hle, ⟨rfl, rfl⟩, ok⟩ := hq
  exact ⟨rfl, below_of hle ok⟩

theorem cel_of {W : World} {b o : Nat} {v : Value} (hc : W.cell? ⟨b, o, none⟩ = some v) : Cel (Base.of W) [] b o v := ⟨fun w hw => by
  have key : ∀ ob, W.heap[b]? = some ob → w.heap[b]? = W.heap[b]? := fun ob ho => by rw [ho]; exact hw.imm b ob ho
  unfold World.cell? at hc ⊢
  cases ho : W.heap[b]? with
  | none => simp [ho] at hc
  | some ob => rw [key ob ho]; exact hc⟩
theorem wcels_of {W : World} {b : Nat} : ∀ (cs : List Value) (o : Nat), (∀ i, i < cs.length → W.cell? ⟨b, o + i, none⟩ = cs[i]?) → Cels (Base.of W) [] b o cs
  | [], _, _ => trivial
  | c :: r, o, hx => ⟨cel_of (by simpa using hx 0 (by simp)), wcels_of r (o + 1) fun i hi => by
      have := hx (i + 1) (by simpa using hi)
      rw [show o + (i + 1) = o + 1 + i from by omega] at this
      simpa using this⟩

theorem list_of {σ : Type} {p : Nat → σ → Prop} : ∀ (n : Nat), (∀ i, i < n → ∃ x, p i x) → ∃ l : List σ, l.length = n ∧ ∀ i (hi : i < l.length), p i l[i]
  | 0, _ => ⟨[], rfl, fun i hi => by simp at hi⟩
  | n + 1, hx => by
    obtain ⟨l, hl, hp⟩ := list_of n fun i hi => hx i (by omega)
    obtain ⟨x, hx'⟩ := hx n (by omega)
    refine ⟨l ++ [x], by simp [hl], fun i hi => ?_⟩
    rw [List.getElem_append]
    split
    · exact hp i _
    · simp at hi
      obtain rfl : i = n := by omega
      simpa using hx'

section
variable {H : Type} {enc : TypeId × Value → H} {P : Program} {W : World} {base : Nat} {spare : Nat → Bool} {held : Bool}
/-- A slice of rows that came in. -/
theorem sl_of {σ : Type} {f : σ → List Value} {wf : σ → Prop} {t e : TypeId} {sz : Nat} {fuel : Nat} {v : Value} {x : DataW H × List MemPlace} (ht : P.underlying t = some (.slice e)) (hsz : P.cellsOf e = sz) (hpos : 0 < sz)
    (hr : ∀ cs n y, DataW.trod enc P W base spare held n e cs = some y → ∃ i : σ, cs = f i ∧ wf i) (hf : ∀ i, (f i).length = sz) (h : DataW.trod enc P W base spare held fuel t v.cells.toList = some x) (hv : ∃ a l c, v = .slice a l c) :
    ∃ l : List σ, SL (Base.of W) sz v (l.map f) ∧ (∀ i ∈ l, wf i) ∧ l.length ≤ maxLen := by
  obtain ⟨av, lv, cv, rfl⟩ := hv
  rcases Go.Deep.open_slice ht h with ⟨hcs, _⟩ | ⟨a, len, cap, m, n, D, Pl, hcs, hb, hl, hm, hmm, _, hx⟩
  · simp [Value.cells] at hcs
    obtain ⟨rfl, rfl, rfl⟩ := hcs
    exact ⟨[], .inl ⟨_, _, rfl, rfl⟩, by simp, by simp⟩
  · simp [Value.cells] at hcs
    obtain ⟨rfl, rfl, rfl⟩ := hcs
    subst hsz
    have hlm : lv ≤ m := by rw [hmm]; split <;> omega
    obtain ⟨l, hll, hp⟩ := list_of (p := fun i (y : σ) => W.cells? base (a.add (i * P.cellsOf e)) (P.cellsOf e) = some (f y) ∧ wf y) lv fun i hi => by
      obtain ⟨cs', h1, h2⟩ := hx i (by omega)
      obtain ⟨y, rfl, hw⟩ := hr _ _ _ h2
      exact ⟨y, h1, hw⟩
    refine ⟨l, ?_, fun i hi => ?_, by omega⟩
    · by_cases h0 : lv = 0
      · subst h0
        obtain rfl := List.length_eq_zero_iff.1 hll
        exact .inl ⟨_, _, rfl, rfl⟩
      · obtain ⟨b, off, spot⟩ := a
        have hc := (World.cells?_some (hp 0 (by omega)).1).2.2 0 hpos
        have hspot : spot = none := by
          have h1 : ∃ u, W.cell? ⟨b, off, spot⟩ = some u := ⟨_, by simpa [Addr.add, List.getElem?_eq_getElem (show 0 < (f (l[0]'(by omega))).length by rw [hf]; exact hpos)] using hc⟩
          obtain ⟨u, hu⟩ := h1
          simpa using World.cell?_spot hu
        subst hspot
        refine .inr ⟨b, off, cv, by simp [hll], by simp [hll]; omega, fun j hj => ⟨by simp [hf], ?_⟩⟩
        have hj' : j < l.length := by simpa using hj
        refine wcels_of _ _ fun i hi => ?_
        have hi' : i < P.cellsOf e := by simpa [hf] using hi
        have := (World.cells?_some (hp j hj').1).2.2 i hi'
        rw [show (Addr.add (Addr.add ⟨b, off, none⟩ (j * P.cellsOf e)) i) = ⟨b, off + j * P.cellsOf e + i, none⟩ from by unfold Addr.add; split <;> split <;> simp_all] at this
        simpa using this
    · obtain ⟨k, hk, rfl⟩ := List.getElem_of_mem hi
      exact (hp k hk).2

theorem byte_of {e : TypeId} (he : P.underlying e = some (.int .u8)) (cs : List Value) (n : Nat) (y : DataW H × List MemPlace) (h : DataW.trod enc P W base spare held n e cs = some y) : ∃ c : UInt8, cs = [u8 c] ∧ True := by
  obtain ⟨k, rfl, _, w⟩ := DataW.trod_int he h
  have hb : 0 ≤ k ∧ k ≤ 255 := by simpa [Lit.wf, IntKind.min, IntKind.max, IntKind.signed, IntKind.bits] using w
  refine ⟨UInt8.ofNat k.toNat, ?_, trivial⟩
  have : k.toNat < 256 := by omega
  simp only [u8, UInt8.toNat_ofNat']
  rw [Nat.mod_eq_of_lt this, Int.toNat_of_nonneg hb.1]
/-- A slice of bytes that came in. -/
theorem bv_of {t e : TypeId} {fuel : Nat} {v : Value} {x : DataW H × List MemPlace} (ht : P.underlying t = some (.slice e)) (he : P.underlying e = some (.int .u8)) (hsz : P.cellsOf e = 1)
    (h : DataW.trod enc P W base spare held fuel t v.cells.toList = some x) (hv : ∃ a l c, v = .slice a l c) : ∃ l : List UInt8, BV (Base.of W) v l ∧ l.length ≤ maxLen := by
  obtain ⟨l, hs, _, hl⟩ := sl_of (f := fun c => [u8 c]) (wf := fun _ => True) ht hsz (by decide) (byte_of he) (fun _ => rfl) h hv
  refine ⟨l, ?_, hl⟩
  rcases hs with ⟨ao, c, rfl, h0⟩ | ⟨b, o, c, rfl, hc, hcs⟩
  · exact .inl ⟨ao, c, rfl, by simpa using h0⟩
  · refine .inr ⟨b, o, c, by simp, by simpa using hc, cels_of fun j u hj => ?_⟩
    have hlt : j < l.length := by have := (List.getElem?_eq_some_iff.1 hj).1; simpa using this
    have h1 := (hcs j (by simpa using hlt)).2
    simp at h1
    have h2 : u = u8 l[j] := by simpa [hlt] using hj.symm
    rw [h2]
    exact h1.1
end
end Go.K
