/-
 N4: the texts SP KU SO in one. Conditions: each theorem's own.
-/
import Derived.Test.YtkdngpiiecmpgaaGreatChecked
import Derived.Shelf.SlSortCmp.NoneTotal
import Derived.Shelf.SlSortCmp.WholeK
import Derived.Lib.Small
import Derived.Lib.Walk
import Derived.Sort.Grow
import Derived.Deep.Draws
import Derived.Test.YtkdngpiiecmpgaaGreatQ23
import Derived.Test.YtkdngpiiecmpgaaGreatQ12
/-! The sort's bodies at live transactions and at dirty pages: where they lie in this program. Conditions: none. -/
namespace Go.Proofs.YtkdngpiiecmpgaaGreat.So
open Go Go.Proofs Go.Proofs.YtkdngpiiecmpgaaGreat Go.Shelf
def sortLive_ren : Go.Shelf.Ren := ⟨fun | 6 => 31 | 15 => 58 | 14 => 57 | 28 => 96 | 29 => 97 | 20 => 88 | 21 => 89 | 22 => 90 | 23 => 91 | 24 => 92 | 25 => 93 | 26 => 94 | 27 => 95 | 46 => 124 | 47 => 125 | 48 => 126 | 49 => 127 | 50 => 128 | 57 => 138 | n => n, fun | 22 => 27 | 24 => 38 | 25 => 79 | 3 => 3 | 39 => 101 | 0 => 0 | 53 => 29 | 55 => 23 | 4 => 4 | 46 => 126 | 45 => 125 | 50 => 109 | 5 => 5 | 9 => 9 | 66 => 151 | 70 => 155 | 76 => 169 | 77 => 170 | n => n, fun | n => n⟩
theorem sortLive : Go.Proofs.SlLaysF0.n6 Tryz.prog sortLive_ren := {
 mixed := by kernel_rfl,
 f6 := ⟨Tryz.f31.name, by decide, Tryz.func31.trans (congrArg some (by kernel_rfl))⟩,
 f14 := ⟨Tryz.f57.name, by decide, Tryz.func57.trans (congrArg some (by kernel_rfl))⟩,
 f15 := Tryz.func58.trans (congrArg some (by kernel_rfl)),
 f20 := ⟨Tryz.f88.name, by decide, Tryz.func88.trans (congrArg some (by kernel_rfl))⟩,
 f21 := ⟨Tryz.f89.name, by decide, Tryz.func89.trans (congrArg some (by kernel_rfl))⟩,
 f22 := ⟨Tryz.f90.name, by decide, Tryz.func90.trans (congrArg some (by kernel_rfl))⟩,
 f23 := ⟨Tryz.f91.name, by decide, Tryz.func91.trans (congrArg some (by kernel_rfl))⟩,
 f24 := ⟨Tryz.f92.name, by decide, Tryz.func92.trans (congrArg some (by kernel_rfl))⟩,
 f25 := ⟨Tryz.f93.name, by decide, Tryz.func93.trans (congrArg some (by kernel_rfl))⟩,
 f26 := ⟨Tryz.f94.name, by decide, Tryz.func94.trans (congrArg some (by kernel_rfl))⟩,
 f27 := ⟨Tryz.f95.name, by decide, Tryz.func95.trans (congrArg some (by kernel_rfl))⟩,
 f28 := Tryz.func96.trans (congrArg some (by kernel_rfl)),
 f29 := Tryz.func97.trans (congrArg some (by kernel_rfl)),
 f46 := ⟨Tryz.f124.name, by decide, Tryz.func124.trans (congrArg some (by kernel_rfl))⟩,
 f47 := Tryz.func125.trans (congrArg some (by kernel_rfl)),
 f48 := Tryz.func126.trans (congrArg some (by kernel_rfl)),
 f49 := ⟨Tryz.f127.name, by decide, Tryz.func127.trans (congrArg some (by kernel_rfl))⟩,
 f50 := ⟨Tryz.f128.name, by decide, Tryz.func128.trans (congrArg some (by kernel_rfl))⟩,
 f57 := ⟨Tryz.f138.name, by decide, Tryz.func138.trans (congrArg some (by kernel_rfl))⟩,
 t0 := Tryz.underlying0,
 a0 := Tryz.isAgg0,
 z0 := Tryz.sizeOf0,
 v0 := Tryz.zeroValue0,
 t3 := Tryz.underlying3,
 a3 := Tryz.isAgg3,
 z3 := Tryz.sizeOf3,
 v3 := Tryz.zeroValue3,
 t4 := Tryz.underlying4,
 a4 := Tryz.isAgg4,
 z4 := Tryz.sizeOf4,
 v4 := Tryz.zeroValue4,
 t5 := Tryz.underlying5,
 a5 := Tryz.isAgg5,
 z5 := Tryz.sizeOf5,
 v5 := Tryz.zeroValue5,
 t9 := Tryz.underlying9,
 a9 := Tryz.isAgg9,
 z9 := Tryz.sizeOf9,
 v9 := Tryz.zeroValue9,
 t22 := Tryz.underlying27,
 a22 := Tryz.isAgg27,
 z22 := Tryz.sizeOf27,
 v22 := Tryz.zeroValue27,
 t25 := Tryz.underlying79,
 a25 := Tryz.isAgg79,
 z25 := Tryz.sizeOf79,
 v25 := Tryz.zeroValue79,
 t39 := Tryz.underlying101,
 a39 := Tryz.isAgg101,
 z39 := Tryz.sizeOf101,
 v39 := Tryz.zeroValue101,
 t45 := Tryz.underlying125,
 a45 := Tryz.isAgg125,
 z45 := Tryz.sizeOf125,
 v45 := Tryz.zeroValue125,
 t46 := Tryz.underlying126,
 a46 := Tryz.isAgg126,
 z46 := Tryz.sizeOf126,
 v46 := Tryz.zeroValue126,
 t50 := Tryz.underlying109,
 a50 := Tryz.isAgg109,
 z50 := Tryz.sizeOf109,
 v50 := Tryz.zeroValue109,
 t53 := Tryz.underlying29,
 a53 := Tryz.isAgg29,
 z53 := Tryz.sizeOf29,
 v53 := Tryz.zeroValue29,
 t55 := Tryz.underlying23,
 a55 := Tryz.isAgg23,
 z55 := Tryz.sizeOf23,
 v55 := Tryz.zeroValue23,
 t66 := Tryz.underlying151,
 a66 := Tryz.isAgg151,
 z66 := Tryz.sizeOf151,
 v66 := Tryz.zeroValue151,
 t70 := Tryz.underlying155,
 a70 := Tryz.isAgg155,
 z70 := Tryz.sizeOf155,
 v70 := Tryz.zeroValue155,
 t76 := Tryz.underlying169,
 a76 := Tryz.isAgg169,
 z76 := Tryz.sizeOf169,
 v76 := Tryz.zeroValue169,
 t77 := Tryz.underlying170,
 a77 := Tryz.isAgg170,
 z77 := Tryz.sizeOf170,
 v77 := Tryz.zeroValue170 }
def sortDirty_ren : Go.Shelf.Ren := ⟨fun | 6 => 34 | 15 => 58 | 14 => 60 | 28 => 96 | 29 => 97 | 20 => 98 | 21 => 99 | 22 => 100 | 23 => 101 | 24 => 102 | 25 => 103 | 26 => 104 | 27 => 105 | 46 => 129 | 47 => 125 | 48 => 126 | 49 => 130 | 50 => 131 | 57 => 139 | n => n, fun | 22 => 28 | 24 => 40 | 25 => 81 | 3 => 3 | 39 => 101 | 0 => 0 | 53 => 29 | 55 => 23 | 4 => 4 | 46 => 126 | 45 => 125 | 50 => 109 | 5 => 5 | 9 => 9 | 66 => 151 | 70 => 155 | 76 => 169 | 77 => 170 | n => n, fun | n => n⟩
theorem sortDirty : Go.Proofs.SlLaysF0.n6 Tryz.prog sortDirty_ren := {
 mixed := by kernel_rfl,
 f6 := ⟨Tryz.f34.name, by decide, Tryz.func34.trans (congrArg some (by kernel_rfl))⟩,
 f14 := ⟨Tryz.f60.name, by decide, Tryz.func60.trans (congrArg some (by kernel_rfl))⟩,
 f15 := Tryz.func58.trans (congrArg some (by kernel_rfl)),
 f20 := ⟨Tryz.f98.name, by decide, Tryz.func98.trans (congrArg some (by kernel_rfl))⟩,
 f21 := ⟨Tryz.f99.name, by decide, Tryz.func99.trans (congrArg some (by kernel_rfl))⟩,
 f22 := ⟨Tryz.f100.name, by decide, Tryz.func100.trans (congrArg some (by kernel_rfl))⟩,
 f23 := ⟨Tryz.f101.name, by decide, Tryz.func101.trans (congrArg some (by kernel_rfl))⟩,
 f24 := ⟨Tryz.f102.name, by decide, Tryz.func102.trans (congrArg some (by kernel_rfl))⟩,
 f25 := ⟨Tryz.f103.name, by decide, Tryz.func103.trans (congrArg some (by kernel_rfl))⟩,
 f26 := ⟨Tryz.f104.name, by decide, Tryz.func104.trans (congrArg some (by kernel_rfl))⟩,
 f27 := ⟨Tryz.f105.name, by decide, Tryz.func105.trans (congrArg some (by kernel_rfl))⟩,
 f28 := Tryz.func96.trans (congrArg some (by kernel_rfl)),
 f29 := Tryz.func97.trans (congrArg some (by kernel_rfl)),
 f46 := ⟨Tryz.f129.name, by decide, Tryz.func129.trans (congrArg some (by kernel_rfl))⟩,
 f47 := Tryz.func125.trans (congrArg some (by kernel_rfl)),
 f48 := Tryz.func126.trans (congrArg some (by kernel_rfl)),
 f49 := ⟨Tryz.f130.name, by decide, Tryz.func130.trans (congrArg some (by kernel_rfl))⟩,
 f50 := ⟨Tryz.f131.name, by decide, Tryz.func131.trans (congrArg some (by kernel_rfl))⟩,
 f57 := ⟨Tryz.f139.name, by decide, Tryz.func139.trans (congrArg some (by kernel_rfl))⟩,
 t0 := Tryz.underlying0,
 a0 := Tryz.isAgg0,
 z0 := Tryz.sizeOf0,
 v0 := Tryz.zeroValue0,
 t3 := Tryz.underlying3,
 a3 := Tryz.isAgg3,
 z3 := Tryz.sizeOf3,
 v3 := Tryz.zeroValue3,
 t4 := Tryz.underlying4,
 a4 := Tryz.isAgg4,
 z4 := Tryz.sizeOf4,
 v4 := Tryz.zeroValue4,
 t5 := Tryz.underlying5,
 a5 := Tryz.isAgg5,
 z5 := Tryz.sizeOf5,
 v5 := Tryz.zeroValue5,
 t9 := Tryz.underlying9,
 a9 := Tryz.isAgg9,
 z9 := Tryz.sizeOf9,
 v9 := Tryz.zeroValue9,
 t22 := Tryz.underlying28,
 a22 := Tryz.isAgg28,
 z22 := Tryz.sizeOf28,
 v22 := Tryz.zeroValue28,
 t25 := Tryz.underlying81,
 a25 := Tryz.isAgg81,
 z25 := Tryz.sizeOf81,
 v25 := Tryz.zeroValue81,
 t39 := Tryz.underlying101,
 a39 := Tryz.isAgg101,
 z39 := Tryz.sizeOf101,
 v39 := Tryz.zeroValue101,
 t45 := Tryz.underlying125,
 a45 := Tryz.isAgg125,
 z45 := Tryz.sizeOf125,
 v45 := Tryz.zeroValue125,
 t46 := Tryz.underlying126,
 a46 := Tryz.isAgg126,
 z46 := Tryz.sizeOf126,
 v46 := Tryz.zeroValue126,
 t50 := Tryz.underlying109,
 a50 := Tryz.isAgg109,
 z50 := Tryz.sizeOf109,
 v50 := Tryz.zeroValue109,
 t53 := Tryz.underlying29,
 a53 := Tryz.isAgg29,
 z53 := Tryz.sizeOf29,
 v53 := Tryz.zeroValue29,
 t55 := Tryz.underlying23,
 a55 := Tryz.isAgg23,
 z55 := Tryz.sizeOf23,
 v55 := Tryz.zeroValue23,
 t66 := Tryz.underlying151,
 a66 := Tryz.isAgg151,
 z66 := Tryz.sizeOf151,
 v66 := Tryz.zeroValue151,
 t70 := Tryz.underlying155,
 a70 := Tryz.isAgg155,
 z70 := Tryz.sizeOf155,
 v70 := Tryz.zeroValue155,
 t76 := Tryz.underlying169,
 a76 := Tryz.isAgg169,
 z76 := Tryz.sizeOf169,
 v76 := Tryz.zeroValue169,
 t77 := Tryz.underlying170,
 a77 := Tryz.isAgg170,
 z77 := Tryz.sizeOf170,
 v77 := Tryz.zeroValue170 }
end Go.Proofs.YtkdngpiiecmpgaaGreat.So

/-! cmp.Compare at numbers of 32 and of 64 bits, in whatever world. Conditions: none. -/
namespace Go.Proofs.YtkdngpiiecmpgaaGreat.So
open Go Go.Proofs Go.Proofs.YtkdngpiiecmpgaaGreat Go.Lib Go.Sort
set_option linter.unusedVariables false

theorem isNaN32 (x : Int) (w : World) : Calls Tryz.prog 59 #[.int .u32 x] w fun e w' => e = .returned (.bool false) ∧ w' = w := by
 go_enter Tryz.func59, Tryz.ntmps59
 go_wp2
 go_ret
 exact ⟨by simp, rfl⟩
set_option maxHeartbeats 1000000 in
theorem cmp32 (x y : Int) (w : World) : Calls Tryz.prog 33 #[.int .u32 x, .int .u32 y] w fun e w' => e = .returned (.int .i64 (Lib.compareInt x y)) ∧ w' = w := by
 go_enter Tryz.func33, Tryz.ntmps33
 go_wp2_with (go_at_call 59; refine (isNaN32 _ _).mono ?_; rintro e w' ⟨rfl, hw⟩; rw [hw])
 all_goals (go_ret; refine ⟨?_, rfl⟩; unfold Lib.compareInt; (repeat' split) <;> first | rfl | (exfalso; omega))
@[simp] theorem cellOld (W : World) (cs : Array Value) (T : TypeId) (o : Obj) (tp : Nat → Question → Nat) (dr : Nat) (os : Os) (ou : Array (Nat × ByteArray)) (off : Nat) :
  World.cell? ⟨(W.alloc (.cells cs T)).heap.push o, tp, dr, os, ou⟩ ⟨W.heap.size, off, none⟩ = cs[off]? := by
 have h : ((W.alloc (.cells cs T)).heap.push o)[W.heap.size]? = some (.cells cs T) := by
  show ((W.heap.push _).push o)[W.heap.size]? = _
  simp [Array.getElem?_push]
 simp only [World.cell?, h]
 rfl
@[simp] theorem cellNew (W : World) (cs : Array Value) (T : TypeId) (o : Obj) (tp : Nat → Question → Nat) (dr : Nat) (os : Os) (ou : Array (Nat × ByteArray)) (off : Nat) :
  World.cell? ⟨(W.alloc o).heap.push (.cells cs T), tp, dr, os, ou⟩ ⟨W.heap.size + 1, off, none⟩ = cs[off]? := by
 have h : ((W.alloc o).heap.push (.cells cs T))[W.heap.size + 1]? = some (.cells cs T) := by
  show ((W.heap.push _).push _)[W.heap.size + 1]? = _
  rw [Array.getElem?_push, if_pos (by simp)]
 simp only [World.cell?, h]
 rfl
set_option maxHeartbeats 1000000 in
theorem cloL (a a' b b' c c' : Int) (d d' : Bool) (W : World) : Calls Tryz.prog 32 #[.agg #[.int .u32 a, .int .u64 b, .int .u64 c, .bool d], .agg #[.int .u32 a', .int .u64 b', .int .u64 c', .bool d']] W
  fun e w' => e = .returned (.int .i64 (Lib.compareInt a a')) ∧ ∃ q os', w' = grow (W.drewN q) os' := by
 have hcon := fun W' => cmp32 a a' W'
 generalize Lib.compareInt a a' = r at hcon ⊢
 go_enter Tryz.func32, Tryz.ntmps32
 go_wp2_with (go_at_call 33; refine (hcon _).mono ?_; rintro e w' ⟨rfl, rfl⟩)
 go_ret
 exact ⟨rfl, 0, _, by
  show World.alloc (World.alloc W _) _ = _
  rw [alloc_eq_grow, alloc_eq_grow, grow_grow]; rfl⟩
set_option maxHeartbeats 1000000 in
theorem cloD (a a' b b' : Int) (W : World) : Calls Tryz.prog 35 #[.agg #[.int .u32 a, .int .u64 b], .agg #[.int .u32 a', .int .u64 b']] W
  fun e w' => e = .returned (.int .i64 (Lib.compareInt a a')) ∧ ∃ q os', w' = grow (W.drewN q) os' := by
 have hcon := fun W' => cmp32 a a' W'
 generalize Lib.compareInt a a' = r at hcon ⊢
 go_enter Tryz.func35, Tryz.ntmps35
 go_wp2_with (go_at_call 33; refine (hcon _).mono ?_; rintro e w' ⟨rfl, rfl⟩)
 go_ret
 exact ⟨rfl, 0, _, by
  show World.alloc (World.alloc W _) _ = _
  rw [alloc_eq_grow, alloc_eq_grow, grow_grow]; rfl⟩
end Go.Proofs.YtkdngpiiecmpgaaGreat.So

/-! Live transactions and dirty pages sorted by their numbers: the contract of the sort at this program. Conditions: each theorem's own. -/
namespace Go.Proofs.YtkdngpiiecmpgaaGreat.Ch
open Go Go.K Go.Proofs Go.Proofs.YtkdngpiiecmpgaaGreat Go.Proofs.YtkdngpiiecmpgaaGreat.Pg Go.Proofs.YtkdngpiiecmpgaaGreat.Rc Go.Shelf Go.RowKit Go.Lib Go.Sort
set_option linter.unusedVariables false
set_option maxRecDepth 10000
instance : Inhabited PLive := ⟨⟨0, 0, 0, false⟩⟩
instance : Inhabited PDirty := ⟨⟨0, 0⟩⟩
theorem ltK {α : Type} (k : α → Nat) (x y : α) : ltOf (fun x y : α => Lib.compareInt (k x) (k y)) x y = decide (k x < k y) := by
 unfold ltOf Lib.compareInt
 by_cases h1 : k x < k y
 ·simp [h1]
 ·by_cases h2 : k y < k x <;> simp [h1, h2]
theorem swoK {α : Type} (k : α → Nat) : SWO (ltOf fun x y : α => Lib.compareInt (k x) (k y)) where
 irrefl x := by rw [ltK]; simp
 trans x y z h1 h2 := by rw [ltK] at *; simp at *; omega
 ntrans x y z h1 h2 := by rw [ltK] at *; simp at *; omega
theorem SortL (h : Base) (a : Option Nat) (m cap : Nat) (l : List PLive) (hm : l.length = m) (hsz : m < 4611686018427387904) :
  Tr Tryz.prog 31 [bufV a m cap, .func (.func 32) #[] #[]] h [bufA 38 4 a m cap (l.flatMap cL)]
   (fun u h' H' => h = h' ∧ u = .tuple #[] ∧ ∃ l' : List PLive, l'.Perm l ∧ (l'.Pairwise fun x y => ltOf (fun x y : PLive => Lib.compareInt x.txn y.txn) y x = false) ∧ H' = [bufA 38 4 a m cap (l'.flatMap cL)]) := by
 refine K.Tr.sort cL (fun _ => rfl) _ l hm hsz (fun blk cap d w hH hblk hsz => ?_) (fun w => ?_)
 ·have eg : ∀ args w, (callFunc 32 args).run Tryz.prog w = .ok (.enter 32 args) w := enters_of Tryz.func32 (by kernel_rfl) rfl
  have hcon := AnyQ.slices_SortFunc So.sortLive 4 Tryz.isAgg38 Tryz.sizeOf38 cL (fun _ => rfl) (fun x v hv => by simp [cL] at hv; rcases hv with rfl | rfl | rfl | rfl <;> rfl) (fun x y => Lib.compareInt x.txn y.txn) (swoK PLive.txn) 32 #[] blk 0 cap d w eg (fun _ _ _ _ x y => So.cloL x.txn y.txn x.last y.last x.undo y.undo x.lost y.lost _) hH hblk hsz
  exact hcon
 ·exact AnyF.slices_SortFunc_none So.sortLive none 0 _ w
theorem SortD (h : Base) (a : Option Nat) (m cap : Nat) (l : List PDirty) (hm : l.length = m) (hsz : m < 4611686018427387904) :
  Tr Tryz.prog 34 [bufV a m cap, .func (.func 35) #[] #[]] h [bufA 40 2 a m cap (l.flatMap cD)]
   (fun u h' H' => h = h' ∧ u = .tuple #[] ∧ ∃ l' : List PDirty, l'.Perm l ∧ (l'.Pairwise fun x y => ltOf (fun x y : PDirty => Lib.compareInt x.page y.page) y x = false) ∧ H' = [bufA 40 2 a m cap (l'.flatMap cD)]) := by
 refine K.Tr.sort cD (fun _ => rfl) _ l hm hsz (fun blk cap d w hH hblk hsz => ?_) (fun w => ?_)
 ·have eg : ∀ args w, (callFunc 35 args).run Tryz.prog w = .ok (.enter 35 args) w := enters_of Tryz.func35 (by kernel_rfl) rfl
  have hcon := AnyQ.slices_SortFunc So.sortDirty 2 Tryz.isAgg40 Tryz.sizeOf40 cD (fun _ => rfl) (fun x v hv => by simp [cD] at hv; rcases hv with rfl | rfl <;> rfl) (fun x y => Lib.compareInt x.page y.page) (swoK PDirty.page) 35 #[] blk 0 cap d w eg (fun _ _ _ _ x y => So.cloD x.page y.page x.frm y.frm _) hH hblk hsz
  exact hcon
 ·exact AnyF.slices_SortFunc_none So.sortDirty none 0 _ w
end Go.Proofs.YtkdngpiiecmpgaaGreat.Ch
