/-
  Pairs sorted: the contract of the sort at this program. Conditions: each theorem's own.
-/
import Derived.Test.YtcpdfajaggbjlaaDoorChecked
import Derived.Shelf.SlSortCmp.NoneTotal
import Derived.Shelf.SlSortCmp.WholeK
import Derived.Test.YtcpdfajaggbjlaaDoorKN
import Derived.Test.YtcpdfajaggbjlaaDoorTo
import Derived.Test.YtcpdfajaggbjlaaDoorTu

/-! The sort's bodies at pairs: where they lie in this program. Conditions: none. -/
namespace Go.Proofs.YtcpdfajaggbjlaaDoor.So
open Go Go.Proofs Go.Proofs.YtcpdfajaggbjlaaDoor Go.Shelf
def sortPair_ren : Go.Shelf.Ren := ⟨fun | 6 => 32 | 15 => 57 | 14 => 56 | 28 => 69 | 29 => 70 | 20 => 61 | 21 => 62 | 22 => 63 | 23 => 64 | 24 => 65 | 25 => 66 | 26 => 67 | 27 => 68 | 46 => 71 | 47 => 72 | 48 => 73 | 49 => 74 | 50 => 75 | 57 => 76 | n => n, fun | 22 => 40 | 24 => 47 | 25 => 65 | 3 => 3 | 39 => 82 | 0 => 0 | 53 => 34 | 55 => 97 | 4 => 4 | 46 => 89 | 45 => 88 | 50 => 93 | 5 => 5 | 9 => 9 | 66 => 98 | 70 => 102 | 76 => 104 | 77 => 105 | n => n, fun | n => n⟩
theorem sortPair : Go.Proofs.SlLaysF0.n6 Tryd.prog sortPair_ren := {
  mixed := by kernel_rfl,
  f6 := ⟨Tryd.f32.name, by decide, Tryd.func32.trans (congrArg some (by kernel_rfl))⟩,
  f14 := ⟨Tryd.f56.name, by decide, Tryd.func56.trans (congrArg some (by kernel_rfl))⟩,
  f15 := Tryd.func57.trans (congrArg some (by kernel_rfl)),
  f20 := ⟨Tryd.f61.name, by decide, Tryd.func61.trans (congrArg some (by kernel_rfl))⟩,
  f21 := ⟨Tryd.f62.name, by decide, Tryd.func62.trans (congrArg some (by kernel_rfl))⟩,
  f22 := ⟨Tryd.f63.name, by decide, Tryd.func63.trans (congrArg some (by kernel_rfl))⟩,
  f23 := ⟨Tryd.f64.name, by decide, Tryd.func64.trans (congrArg some (by kernel_rfl))⟩,
  f24 := ⟨Tryd.f65.name, by decide, Tryd.func65.trans (congrArg some (by kernel_rfl))⟩,
  f25 := ⟨Tryd.f66.name, by decide, Tryd.func66.trans (congrArg some (by kernel_rfl))⟩,
  f26 := ⟨Tryd.f67.name, by decide, Tryd.func67.trans (congrArg some (by kernel_rfl))⟩,
  f27 := ⟨Tryd.f68.name, by decide, Tryd.func68.trans (congrArg some (by kernel_rfl))⟩,
  f28 := Tryd.func69.trans (congrArg some (by kernel_rfl)),
  f29 := Tryd.func70.trans (congrArg some (by kernel_rfl)),
  f46 := ⟨Tryd.f71.name, by decide, Tryd.func71.trans (congrArg some (by kernel_rfl))⟩,
  f47 := Tryd.func72.trans (congrArg some (by kernel_rfl)),
  f48 := Tryd.func73.trans (congrArg some (by kernel_rfl)),
  f49 := ⟨Tryd.f74.name, by decide, Tryd.func74.trans (congrArg some (by kernel_rfl))⟩,
  f50 := ⟨Tryd.f75.name, by decide, Tryd.func75.trans (congrArg some (by kernel_rfl))⟩,
  f57 := ⟨Tryd.f76.name, by decide, Tryd.func76.trans (congrArg some (by kernel_rfl))⟩,
  t0 := Tryd.underlying0,
  a0 := Tryd.isAgg0,
  z0 := Tryd.sizeOf0,
  v0 := Tryd.zeroValue0,
  t3 := Tryd.underlying3,
  a3 := Tryd.isAgg3,
  z3 := Tryd.sizeOf3,
  v3 := Tryd.zeroValue3,
  t4 := Tryd.underlying4,
  a4 := Tryd.isAgg4,
  z4 := Tryd.sizeOf4,
  v4 := Tryd.zeroValue4,
  t5 := Tryd.underlying5,
  a5 := Tryd.isAgg5,
  z5 := Tryd.sizeOf5,
  v5 := Tryd.zeroValue5,
  t9 := Tryd.underlying9,
  a9 := Tryd.isAgg9,
  z9 := Tryd.sizeOf9,
  v9 := Tryd.zeroValue9,
  t22 := Tryd.underlying40,
  a22 := Tryd.isAgg40,
  z22 := Tryd.sizeOf40,
  v22 := Tryd.zeroValue40,
  t25 := Tryd.underlying65,
  a25 := Tryd.isAgg65,
  z25 := Tryd.sizeOf65,
  v25 := Tryd.zeroValue65,
  t39 := Tryd.underlying82,
  a39 := Tryd.isAgg82,
  z39 := Tryd.sizeOf82,
  v39 := Tryd.zeroValue82,
  t45 := Tryd.underlying88,
  a45 := Tryd.isAgg88,
  z45 := Tryd.sizeOf88,
  v45 := Tryd.zeroValue88,
  t46 := Tryd.underlying89,
  a46 := Tryd.isAgg89,
  z46 := Tryd.sizeOf89,
  v46 := Tryd.zeroValue89,
  t50 := Tryd.underlying93,
  a50 := Tryd.isAgg93,
  z50 := Tryd.sizeOf93,
  v50 := Tryd.zeroValue93,
  t53 := Tryd.underlying34,
  a53 := Tryd.isAgg34,
  z53 := Tryd.sizeOf34,
  v53 := Tryd.zeroValue34,
  t55 := Tryd.underlying97,
  a55 := Tryd.isAgg97,
  z55 := Tryd.sizeOf97,
  v55 := Tryd.zeroValue97,
  t66 := Tryd.underlying98,
  a66 := Tryd.isAgg98,
  z66 := Tryd.sizeOf98,
  v66 := Tryd.zeroValue98,
  t70 := Tryd.underlying102,
  a70 := Tryd.isAgg102,
  z70 := Tryd.sizeOf102,
  v70 := Tryd.zeroValue102,
  t76 := Tryd.underlying104,
  a76 := Tryd.isAgg104,
  z76 := Tryd.sizeOf104,
  v76 := Tryd.zeroValue104,
  t77 := Tryd.underlying105,
  a77 := Tryd.isAgg105,
  z77 := Tryd.sizeOf105,
  v77 := Tryd.zeroValue105 }
end Go.Proofs.YtcpdfajaggbjlaaDoor.So
namespace Go.Proofs.YtcpdfajaggbjlaaDoor.Lk
open Go Go.K Go.Proofs Go.Proofs.YtcpdfajaggbjlaaDoor Go.Shelf Go.RowKit Go.Lib Go.Sort
set_option linter.unusedVariables false
set_option maxRecDepth 10000
def cmpW (x y : PW) : Int := if Lib.compareInt x.1 y.1 = 0 then Lib.compareInt x.2 y.2 else Lib.compareInt x.1 y.1
theorem cmpW_lt (x y : PW) : ltOf cmpW x y = decide (ltW x y) := by
  rw [Bool.eq_iff_iff, decide_eq_true_iff]
  unfold ltOf cmpW ltW Lib.compareInt
  by_cases h1 : (x.1 : Int) < y.1
  · simp [h1]
    omega
  · by_cases h2 : (y.1 : Int) < x.1
    · simp [h1, h2]
      omega
    · by_cases h3 : (x.2 : Int) < y.2
      · simp [h1, h2, h3]
        omega
      · by_cases h4 : (y.2 : Int) < x.2
        · simp [h1, h2, h3, h4]
          omega
        · simp [h1, h2, h3, h4]
          omega
theorem swoW : SWO (ltOf cmpW) where
  irrefl x := by rw [cmpW_lt]; exact decide_eq_false (ltW_irr x)
  trans x y z h1 h2 := by rw [cmpW_lt] at *; exact decide_eq_true (ltW_trans (of_decide_eq_true h1) (of_decide_eq_true h2))
  ntrans x y z h1 h2 := by
    rw [cmpW_lt] at *
    exact decide_eq_false (fun e => leW_trans (x := z) (y := y) (z := x) (of_decide_eq_false h2) (of_decide_eq_false h1) e)
theorem SortW (h : Base) (a : Option Nat) (m cap : Nat) (l : List PW) (hm : l.length = m) (hsz : m < 4611686018427387904) :
    Tr Tryd.prog 32 [bufV a m cap, .func (.func 33) #[] #[]] h [bufA 47 2 a m cap (l.flatMap cW)]
      (fun u h' H' => h = h' ∧ u = .tuple #[] ∧ ∃ l' : List PW, l'.Perm l ∧ (l'.Pairwise fun x y => ltOf cmpW y x = false) ∧ H' = [bufA 47 2 a m cap (l'.flatMap cW)]) := by
  refine K.Tr.sort cW (fun _ => rfl) _ l hm hsz (fun blk cap d w hH hblk hsz => ?_) (fun w => ?_)
  · have eg : ∀ args w, (callFunc 33 args).run Tryd.prog w = .ok (.enter 33 args) w := enters_of Tryd.func33 (by kernel_rfl) rfl
    have hcon := AnyQ.slices_SortFunc So.sortPair 2 Tryd.isAgg47 Tryd.sizeOf47 cW (fun _ => rfl) (fun x v hv => by simp [cW] at hv; rcases hv with rfl | rfl <;> rfl) cmpW swoW 33 #[] blk 0 cap d w eg (fun _ _ _ _ x y => So.cloW x.1 x.2 y.1 y.2 _) hH hblk hsz
    exact hcon
  · exact AnyF.slices_SortFunc_none So.sortPair none 0 _ w
end Go.Proofs.YtcpdfajaggbjlaaDoor.Lk
