/-
  slices.Sort at numbers: where its bodies lie in this program; the row of a call's own, sorted. Conditions: each theorem's own.
-/
import Derived.Test.YtmkhejdamjibgaaChecked
import Derived.Shelf.Sort.Plain
import Derived.Shelf.Slices.In.SortNone
import Derived.Test.YtmkhejdamjibgaaEk

namespace Go.Proofs.Ytmkhejdamjibgaa.So
open Go Go.Proofs Go.Proofs.Ytmkhejdamjibgaa Go.Shelf
def sortInts_ren : Go.Shelf.Ren := ⟨fun | 125 => 31 | 128 => 48 | 129 => 49 | 189 => 16 | 215 => 74 | 216 => 45 | 257 => 30 | 294 => 39 | 295 => 40 | 296 => 41 | 297 => 42 | 298 => 43 | 299 => 44 | 300 => 46 | 301 => 47 | 328 => 69 | 329 => 70 | 330 => 71 | 331 => 72 | 332 => 73 | 343 => 87 | n => n, fun | 0 => 0 | 3 => 3 | 4 => 4 | 5 => 5 | 9 => 9 | 28 => 27 | 46 => 56 | 51 => 74 | 53 => 76 | 131 => 37 | 182 => 66 | 183 => 67 | 218 => 81 | 222 => 85 | 228 => 90 | 229 => 91 | n => n, fun | n => n⟩
theorem sortInts : Lays.n189 Try.prog sortInts_ren := {
  mixed := by kernel_rfl,
  f125 := Try.func31.trans (congrArg some (by kernel_rfl)),
  f128 := Try.func48.trans (congrArg some (by kernel_rfl)),
  f129 := Try.func49.trans (congrArg some (by kernel_rfl)),
  f189 := Try.func16.trans (congrArg some (by kernel_rfl)),
  f215 := Try.func74.trans (congrArg some (by kernel_rfl)),
  f216 := Try.func45.trans (congrArg some (by kernel_rfl)),
  f257 := Try.func30.trans (congrArg some (by kernel_rfl)),
  f294 := Try.func39.trans (congrArg some (by kernel_rfl)),
  f295 := Try.func40.trans (congrArg some (by kernel_rfl)),
  f296 := Try.func41.trans (congrArg some (by kernel_rfl)),
  f297 := Try.func42.trans (congrArg some (by kernel_rfl)),
  f298 := Try.func43.trans (congrArg some (by kernel_rfl)),
  f299 := Try.func44.trans (congrArg some (by kernel_rfl)),
  f300 := Try.func46.trans (congrArg some (by kernel_rfl)),
  f301 := Try.func47.trans (congrArg some (by kernel_rfl)),
  f328 := Try.func69.trans (congrArg some (by kernel_rfl)),
  f329 := Try.func70.trans (congrArg some (by kernel_rfl)),
  f330 := Try.func71.trans (congrArg some (by kernel_rfl)),
  f331 := Try.func72.trans (congrArg some (by kernel_rfl)),
  f332 := Try.func73.trans (congrArg some (by kernel_rfl)),
  f343 := Try.func87.trans (congrArg some (by kernel_rfl)),
  t0 := Try.underlying0,
  a0 := Try.isAgg0,
  z0 := Try.sizeOf0,
  v0 := Try.zeroValue0,
  t3 := Try.underlying3,
  a3 := Try.isAgg3,
  z3 := Try.sizeOf3,
  v3 := Try.zeroValue3,
  t4 := Try.underlying4,
  a4 := Try.isAgg4,
  z4 := Try.sizeOf4,
  v4 := Try.zeroValue4,
  t5 := Try.underlying5,
  a5 := Try.isAgg5,
  z5 := Try.sizeOf5,
  v5 := Try.zeroValue5,
  t9 := Try.underlying9,
  a9 := Try.isAgg9,
  z9 := Try.sizeOf9,
  v9 := Try.zeroValue9,
  t28 := Try.underlying27,
  a28 := Try.isAgg27,
  z28 := Try.sizeOf27,
  v28 := Try.zeroValue27,
  t46 := Try.underlying56,
  a46 := Try.isAgg56,
  z46 := Try.sizeOf56,
  v46 := Try.zeroValue56,
  t51 := Try.underlying74,
  a51 := Try.isAgg74,
  z51 := Try.sizeOf74,
  v51 := Try.zeroValue74,
  t53 := Try.underlying76,
  a53 := Try.isAgg76,
  z53 := Try.sizeOf76,
  v53 := Try.zeroValue76,
  t131 := Try.underlying37,
  a131 := Try.isAgg37,
  z131 := Try.sizeOf37,
  v131 := Try.zeroValue37,
  t182 := Try.underlying66,
  a182 := Try.isAgg66,
  z182 := Try.sizeOf66,
  v182 := Try.zeroValue66,
  t183 := Try.underlying67,
  a183 := Try.isAgg67,
  z183 := Try.sizeOf67,
  v183 := Try.zeroValue67,
  t218 := Try.underlying81,
  a218 := Try.isAgg81,
  z218 := Try.sizeOf81,
  v218 := Try.zeroValue81,
  t222 := Try.underlying85,
  a222 := Try.isAgg85,
  z222 := Try.sizeOf85,
  v222 := Try.zeroValue85,
  t228 := Try.underlying90,
  a228 := Try.isAgg90,
  z228 := Try.sizeOf90,
  v228 := Try.zeroValue90,
  t229 := Try.underlying91,
  a229 := Try.isAgg91,
  z229 := Try.sizeOf91,
  v229 := Try.zeroValue91 }
end Go.Proofs.Ytmkhejdamjibgaa.So
namespace Go.Proofs.Ytmkhejdamjibgaa.Rw
open Go Go.K Go.Proofs Go.Proofs.Ytmkhejdamjibgaa Go.Sort
set_option linter.unusedVariables false
set_option linter.unusedSimpArgs false
set_option maxRecDepth 10000

theorem putRow_id (w : World) (b : Nat) (l : List Int) : putRow (Value.int .i64) w b 0 l.toArray = putRow id w b 0 (l.map iV).toArray := by
  have e : ∀ c : Array Value, putCells (Value.int .i64) 0 l.toArray c = putCells id 0 (l.map iV).toArray c := fun c => by
    unfold putCells
    refine Array.ext (by simp) fun i h1 h2 => ?_
    simp only [Array.getElem_mapIdx, List.size_toArray, List.length_map, Nat.zero_le, true_and, Nat.zero_add, Nat.sub_zero, id_eq]
    by_cases hi : i < l.length
    · rw [if_pos hi, if_pos hi]
      simp [hi, iV]
    · rw [if_neg hi, if_neg hi]
  unfold putRow
  rw [show putCells (Value.int .i64) 0 l.toArray = putCells id 0 (l.map iV).toArray from funext e]
theorem holds_id {w : World} {b : Nat} {l : List Int} (h : Holds id w b 0 (l.map iV).toArray) : Holds (Value.int .i64) w b 0 l.toArray := fun j hj => by
  have hj' : j < l.length := by simpa using hj
  have := h j (by simpa using hj)
  rw [show (l.map iV).toArray[j]! = Value.int .i64 l.toArray[j]! by simp [hj', iV]] at this
  exact this
theorem SortI (h : Base) (a : Option Nat) (k : Nat) (l : List Int) (hl : l.length < 4611686018427387904) :
    Tr Try.prog 16 [bufV a l.length k] h [bufI a k l] (fun u h' H' => h = h' ∧ u = .tuple #[] ∧ ∃ l' : List Int, l'.Perm l ∧ (l'.Pairwise fun x y => x ≤ y) ∧ H' = [bufI a k l']) := by
  intro F w ok
  cases a with
  | none =>
    obtain ⟨h1, h2, h3⟩ := ok.own_head
    obtain rfl : l = [] := List.eq_nil_of_length_eq_zero h1
    subst h2
    refine Calls.mono (Any.slices_Sort_int_none So.sortInts none 0 w) fun e w' ⟨he, hw⟩ => ⟨_, he, h, _, .refl _, ⟨rfl, rfl, [], .refl _, .nil, rfl⟩, ?_⟩
    rw [hw]; exact ok
  | some b =>
    obtain ⟨hh, hb⟩ := ok.holds
    rw [rowI_map] at hh
    refine Calls.mono (Any.slices_Sort_int So.sortInts b 0 k l w (holds_id hh) hb hl) fun e w' ⟨he, n, os, hw⟩ => ?_
    have hp := List.mergeSort_perm l fun x y => decide (x ≤ y)
    have hs : (l.mergeSort fun x y => decide (x ≤ y)).Pairwise fun x y => x ≤ y :=
      (List.pairwise_mergeSort (fun a b c h1 h2 => by simp only [decide_eq_true_eq] at h1 h2 ⊢; omega) (fun a b => by simp only [Bool.or_eq_true, decide_eq_true_eq]; omega) l).imp fun h => of_decide_eq_true h
    refine ⟨_, he, h, _, .refl _, ⟨rfl, rfl, _, hp, hs, rfl⟩, ?_⟩
    generalize (l.mergeSort fun x y => decide (x ≤ y)) = l' at hw hp hs
    have hlen := hp.length_eq
    rw [putRow_id] at hw
    have := ok.sorted (q := n) (os := os) (cs' := (rowI l').flatten) (by rw [rowI_map, rowI_map, List.length_map, List.length_map, hlen])
    rw [rowI_map l'] at this
    rw [hw]
    show Ok h ([bufI (some b) k l'] ++ F) _
    rw [bufI, hlen, rowI_map]
    exact this
end Go.Proofs.Ytmkhejdamjibgaa.Rw
