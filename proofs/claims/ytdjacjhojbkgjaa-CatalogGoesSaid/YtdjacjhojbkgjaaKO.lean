/-
  KO: a row of one-cell elements, the call's own, under the kit's sort; what is compared may be read of the base. Generic over the program. Conditions: each theorem's own.
-/
import Derived.Test.YtdjacjhojbkgjaaKN
import Derived.Shelf.SlSortCmp.NoneTotal

namespace Go.K
open Go.Sort Go.Proofs Go.Lib
set_option linter.unusedVariables false
set_option linter.unusedSimpArgs false
section
variable {P : Program} {h : Base} {F : List Asrt} {α : Type} [Inhabited α]
theorem putRow_enc (enc : α → Value) (w : World) (b : Nat) (l : List α) : putRow enc w b 0 l.toArray = putRow id w b 0 (l.map enc).toArray := by
  have e : ∀ c : Array Value, putCells enc 0 l.toArray c = putCells id 0 (l.map enc).toArray c := fun c => by
    unfold putCells
    refine Array.ext (by simp) fun i h1 h2 => ?_
    simp only [Array.getElem_mapIdx, List.size_toArray, List.length_map, Nat.zero_le, true_and, Nat.zero_add, Nat.sub_zero, id_eq]
    by_cases hi : i < l.length
    · rw [if_pos hi, if_pos hi]
      simp [hi]
    · rw [if_neg hi, if_neg hi]
  unfold putRow
  rw [show putCells enc 0 l.toArray = putCells id 0 (l.map enc).toArray from funext e]
theorem holds_enc {enc : α → Value} {w : World} {b : Nat} {l : List α} (h : Holds id w b 0 (l.map enc).toArray) : Holds enc w b 0 l.toArray := fun j hj => by
  have hj' : j < l.length := by simpa using hj
  have := h j (by simpa using hj)
  rw [show (l.map enc).toArray[j]! = enc l.toArray[j]! by simp [hj']] at this
  exact this
theorem Tr.sort1 {f g : FuncId} {T : Nat} {a : Option Nat} {m cap : Nat} (enc : α → Value) (cf : α → α → Int) (l : List α) (hm : l.length = m) (hsz : m < 4611686018427387904)
    (hc : ∀ w x y, Sat h [] w → Calls P g #[enc x, enc y] w fun e w' => e = .returned (.int .i64 (cf x y)) ∧ ∃ q os', w' = grow (w.drewN q) os')
    (hS : ∀ (blk cap : Nat) (d : Array α) (w : World), CmpLays1 P g #[] enc cf blk 0 d.size w → Holds enc w blk 0 d → blk < w.heap.size → d.size < 4611686018427387904 → Calls P f #[.slice (some ⟨blk, 0, none⟩) d.size cap, .func (.func g) #[] #[]] w fun e w' => e = .returned (.tuple #[]) ∧ ∃ d' n os, PermIn 0 d.size d d' ∧ SortedIn (ltOf cf) 0 d.size d' ∧ w' = sortWorld enc w blk 0 n d' os)
    (hN : ∀ w, Calls P f #[.slice none 0 0, .func (.func g) #[] #[]] w fun e w' => e = .returned (.tuple #[]) ∧ w' = w) :
    Tr P f [bufV a m cap, .func (.func g) #[] #[]] h [bufA T 1 a m cap (l.map enc)]
      (fun u h' H' => h = h' ∧ u = .tuple #[] ∧ ∃ l' : List α, l'.Perm l ∧ (l'.Pairwise fun x y => ltOf cf y x = false) ∧ H' = [bufA T 1 a m cap (l'.map enc)]) := by
  intro F w ok
  subst hm
  cases a with
  | none =>
    obtain ⟨h1, h2, h3⟩ := ok.own_head
    obtain rfl : l = [] := List.eq_nil_of_length_eq_zero h1
    subst h2
    refine Calls.mono (hN w) fun e w' ⟨he, hw⟩ => ⟨_, he, h, _, .refl _, ⟨rfl, rfl, [], .refl _, .nil, rfl⟩, ?_⟩
    rw [hw]; exact ok
  | some b =>
    obtain ⟨hh, hb⟩ := ok.holds
    have go : ∀ (q : Nat) (os : Array Obj) (d : Array α), d.size = l.length → Ok h (bufA T 1 (some b) l.length cap (d.toList.map enc) :: F) (sortWorld enc w b 0 q d os) := fun q os d hd => by
      have := ok.sorted (q := q) (os := os) (cs' := d.toList.map enc) (by rw [List.length_map, List.length_map]; simpa using hd)
      have e := putRow_enc enc (Sort.ahead w q) b d.toList
      rw [show d.toList.toArray = d from by simp] at e
      unfold sortWorld
      rw [e]
      exact this
    refine Calls.mono (hS b cap l.toArray w (fun q os d hd x y => ?_) (holds_enc hh) hb hsz) fun e w' ⟨he, d', n, os, hp, hs, hw⟩ => ?_
    · exact hc _ x y (go q os d (by simpa using hd)).sat0
    · refine ⟨_, he, h, _, .refl _, ⟨rfl, rfl, d'.toList, perm_of hp, sorted_of hp.1 hs, rfl⟩, ?_⟩
      rw [hw]
      exact go n os d' (by have := hp.1; simpa using this)
end
end Go.K
