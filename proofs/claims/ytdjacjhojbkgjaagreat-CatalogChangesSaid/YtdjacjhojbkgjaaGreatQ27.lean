/-
  Rows compared by their first three numbers, in whatever world; rows sorted: the contract of the sort at this program. Conditions: each theorem's own.
-/
import Derived.Test.YtdjacjhojbkgjaaGreatChecked
import Derived.Lib.Small
import Derived.Lib.Walk
import Derived.Sort.Grow
import Derived.Deep.Draws
import Derived.StillTailTactics
import Derived.Shelf.SlSortCmp.NoneTotal
/-! The sort's bodies at rows: where they lie in this program. Conditions: none. -/
namespace Go.Proofs.YtdjacjhojbkgjaaGreat.So
open Go Go.Proofs Go.Proofs.YtdjacjhojbkgjaaGreat Go.Shelf
def sortRow_ren : Go.Shelf.Ren := ⟨fun | 6 => 50 | 15 => 78 | 14 => 77 | 28 => 95 | 29 => 96 | 20 => 87 | 21 => 88 | 22 => 89 | 23 => 90 | 24 => 91 | 25 => 92 | 26 => 93 | 27 => 94 | 46 => 98 | 47 => 99 | 48 => 100 | 49 => 101 | 50 => 102 | 57 => 103 | n => n, fun | 22 => 50 | 24 => 72 | 25 => 79 | 3 => 3 | 39 => 109 | 0 => 0 | 53 => 28 | 55 => 126 | 4 => 4 | 46 => 118 | 45 => 117 | 50 => 122 | 5 => 5 | 9 => 9 | 66 => 128 | 70 => 132 | 76 => 134 | 77 => 135 | n => n, fun | n => n⟩
theorem sortRow : Go.Proofs.SlLaysF.n6 Tryz.prog sortRow_ren := {
  mixed := by kernel_rfl,
  f6 := ⟨Tryz.f50.name, by decide, Tryz.func50.trans (congrArg some (by kernel_rfl))⟩,
  f14 := ⟨Tryz.f77.name, by decide, Tryz.func77.trans (congrArg some (by kernel_rfl))⟩,
  f15 := Tryz.func78.trans (congrArg some (by kernel_rfl)),
  f20 := ⟨Tryz.f87.name, by decide, Tryz.func87.trans (congrArg some (by kernel_rfl))⟩,
  f21 := ⟨Tryz.f88.name, by decide, Tryz.func88.trans (congrArg some (by kernel_rfl))⟩,
  f22 := ⟨Tryz.f89.name, by decide, Tryz.func89.trans (congrArg some (by kernel_rfl))⟩,
  f23 := ⟨Tryz.f90.name, by decide, Tryz.func90.trans (congrArg some (by kernel_rfl))⟩,
  f24 := ⟨Tryz.f91.name, by decide, Tryz.func91.trans (congrArg some (by kernel_rfl))⟩,
  f25 := ⟨Tryz.f92.name, by decide, Tryz.func92.trans (congrArg some (by kernel_rfl))⟩,
  f26 := ⟨Tryz.f93.name, by decide, Tryz.func93.trans (congrArg some (by kernel_rfl))⟩,
  f27 := ⟨Tryz.f94.name, by decide, Tryz.func94.trans (congrArg some (by kernel_rfl))⟩,
  f28 := Tryz.func95.trans (congrArg some (by kernel_rfl)),
  f29 := Tryz.func96.trans (congrArg some (by kernel_rfl)),
  f46 := ⟨Tryz.f98.name, by decide, Tryz.func98.trans (congrArg some (by kernel_rfl))⟩,
  f47 := Tryz.func99.trans (congrArg some (by kernel_rfl)),
  f48 := Tryz.func100.trans (congrArg some (by kernel_rfl)),
  f49 := ⟨Tryz.f101.name, by decide, Tryz.func101.trans (congrArg some (by kernel_rfl))⟩,
  f50 := ⟨Tryz.f102.name, by decide, Tryz.func102.trans (congrArg some (by kernel_rfl))⟩,
  f57 := ⟨Tryz.f103.name, by decide, Tryz.func103.trans (congrArg some (by kernel_rfl))⟩,
  t0 := Tryz.underlying0,
  a0 := Tryz.isAgg0,
  z0 := Tryz.sizeOf0,
  v0 := Tryz.zeroValue0,
  t3 := Tryz.underlying3,
  a3 := Tryz.isAgg3,
  z3 := Tryz.sizeOf3,
  v3 := Tryz.zeroValue3,
  t4 := Tryz.underlying4,
  a4 := Tryz.isAgg4,
  z4 := Tryz.sizeOf4,
  v4 := Tryz.zeroValue4,
  t5 := Tryz.underlying5,
  a5 := Tryz.isAgg5,
  z5 := Tryz.sizeOf5,
  v5 := Tryz.zeroValue5,
  t9 := Tryz.underlying9,
  a9 := Tryz.isAgg9,
  z9 := Tryz.sizeOf9,
  v9 := Tryz.zeroValue9,
  t22 := Tryz.underlying50,
  a22 := Tryz.isAgg50,
  z22 := Tryz.sizeOf50,
  v22 := Tryz.zeroValue50,
  a24 := Tryz.isAgg72,
  z24 := Tryz.sizeOf72,
  t25 := Tryz.underlying79,
  a25 := Tryz.isAgg79,
  z25 := Tryz.sizeOf79,
  v25 := Tryz.zeroValue79,
  t39 := Tryz.underlying109,
  a39 := Tryz.isAgg109,
  z39 := Tryz.sizeOf109,
  v39 := Tryz.zeroValue109,
  t45 := Tryz.underlying117,
  a45 := Tryz.isAgg117,
  z45 := Tryz.sizeOf117,
  v45 := Tryz.zeroValue117,
  t46 := Tryz.underlying118,
  a46 := Tryz.isAgg118,
  z46 := Tryz.sizeOf118,
  v46 := Tryz.zeroValue118,
  t50 := Tryz.underlying122,
  a50 := Tryz.isAgg122,
  z50 := Tryz.sizeOf122,
  v50 := Tryz.zeroValue122,
  t53 := Tryz.underlying28,
  a53 := Tryz.isAgg28,
  z53 := Tryz.sizeOf28,
  v53 := Tryz.zeroValue28,
  t55 := Tryz.underlying126,
  a55 := Tryz.isAgg126,
  z55 := Tryz.sizeOf126,
  v55 := Tryz.zeroValue126,
  t66 := Tryz.underlying128,
  a66 := Tryz.isAgg128,
  z66 := Tryz.sizeOf128,
  v66 := Tryz.zeroValue128,
  t70 := Tryz.underlying132,
  a70 := Tryz.isAgg132,
  z70 := Tryz.sizeOf132,
  v70 := Tryz.zeroValue132,
  t76 := Tryz.underlying134,
  a76 := Tryz.isAgg134,
  z76 := Tryz.sizeOf134,
  v76 := Tryz.zeroValue134,
  t77 := Tryz.underlying135,
  a77 := Tryz.isAgg135,
  z77 := Tryz.sizeOf135,
  v77 := Tryz.zeroValue135 }

end Go.Proofs.YtdjacjhojbkgjaaGreat.So
namespace Go.Proofs.YtdjacjhojbkgjaaGreat.So
open Go Go.Proofs Go.Proofs.YtdjacjhojbkgjaaGreat Go.Lib Go.Sort
set_option linter.unusedVariables false

theorem isNaN64 (x : Int) (w : World) : Calls Tryz.prog 97 #[.int .i64 x] w fun e w' => e = .returned (.bool false) ∧ w' = w := by
  go_enter Tryz.func97, Tryz.ntmps97
  go_wp2
  go_ret
  exact ⟨by simp, rfl⟩
set_option maxHeartbeats 1000000 in
theorem cmp64 (x y : Int) (w : World) : Calls Tryz.prog 80 #[.int .i64 x, .int .i64 y] w fun e w' => e = .returned (.int .i64 (Lib.compareInt x y)) ∧ w' = w := by
  go_enter Tryz.func80, Tryz.ntmps80
  go_wp2_with (go_at_call 97; refine (isNaN64 _ _).mono ?_; rintro e w' ⟨rfl, hw⟩; rw [hw])
  all_goals (go_ret; refine ⟨?_, rfl⟩; unfold Lib.compareInt; (repeat' split) <;> first | rfl | (exfalso; omega))
theorem or3 (x y z r : Int) (hr0 : x ≠ 0 → r = x) (hr1 : x = 0 → y ≠ 0 → r = y) (hr2 : x = 0 → y = 0 → r = z) (b : Nat) (w : World) (hx : w.cell? ⟨b, 0, none⟩ = some (.int .i64 x)) (hy : w.cell? ⟨b, 1, none⟩ = some (.int .i64 y)) (hz : w.cell? ⟨b, 2, none⟩ = some (.int .i64 z)) :
    Calls Tryz.prog 79 #[.slice (some ⟨b, 0, none⟩) 3 3] w fun e w' => e = .returned (.int .i64 r) ∧ w' = w := by
  go_enter Tryz.func79, Tryz.ntmps79
  go_wp2
  go_loop [8] (fun i => i = .int .i64 0 ∨ i = .int .i64 1 ∧ x = 0 ∨ i = .int .i64 2 ∧ x = 0 ∧ y = 0 ∨ i = .int .i64 3 ∧ x = 0 ∧ y = 0 ∧ z = 0)
    (fun i => match i with | .int _ n => 3 - n.toNat | _ => 0)
  case atStart => exact Or.inl rfl
  case round =>
    rcases hrel with rfl | ⟨rfl, hx0⟩ | ⟨rfl, hx0, hy0⟩ | ⟨rfl, hx0, hy0, hz0⟩
    · go_wp2
      · rename_i hne _
        obtain rfl := hr0 (by simpa using hne)
        go_ret
        exact ⟨rfl, rfl⟩
      · rename_i hne
        exact ⟨Or.inr (Or.inl ⟨rfl, by simpa using hne⟩), by decide⟩
    · go_wp2
      · rename_i hne _
        have e := hr1 hx0 (by simpa using hne)
        subst e
        go_ret
        exact ⟨rfl, rfl⟩
      · rename_i hne
        exact ⟨Or.inr (Or.inr (Or.inl ⟨rfl, hx0, by simpa using hne⟩)), by decide⟩
    · have e := hr2 hx0 hy0
      subst e
      go_wp2
      · rename_i hne _
        go_ret
        exact ⟨rfl, rfl⟩
      · rename_i hne
        exact ⟨Or.inr (Or.inr (Or.inr ⟨rfl, hx0, hy0, by simpa using hne⟩)), by decide⟩
    · have e := hr2 hx0 hy0
      subst e
      subst hz0
      go_wp2
      go_ret
      exact ⟨rfl, rfl⟩
def cmp3 (a b : Int × Int × Int) : Int := if Lib.compareInt a.1 b.1 = 0 then if Lib.compareInt a.2.1 b.2.1 = 0 then Lib.compareInt a.2.2 b.2.2 else Lib.compareInt a.2.1 b.2.1 else Lib.compareInt a.1 b.1
set_option maxHeartbeats 4000000 in
set_option maxRecDepth 20000 in
theorem orderW (ba oa ca bb ob cb : Nat) (a b : Int × Int × Int) (W : World) (hx0 : W.cell? ⟨ba, oa + 1, none⟩ = some (.int .i64 a.1)) (hx1 : W.cell? ⟨ba, oa + 3 + 1, none⟩ = some (.int .i64 a.2.1)) (hx2 : W.cell? ⟨ba, oa + 6 + 1, none⟩ = some (.int .i64 a.2.2))
    (hy0 : W.cell? ⟨bb, ob + 1, none⟩ = some (.int .i64 b.1)) (hy1 : W.cell? ⟨bb, ob + 3 + 1, none⟩ = some (.int .i64 b.2.1)) (hy2 : W.cell? ⟨bb, ob + 6 + 1, none⟩ = some (.int .i64 b.2.2)) :
    Calls Tryz.prog 51 #[.slice (some ⟨ba, oa, none⟩) 6 ca, .slice (some ⟨bb, ob, none⟩) 6 cb] W fun e w' => e = .returned (.int .i64 (cmp3 a b)) ∧ ∃ q os', w' = grow (W.drewN q) os' := by
  have hc1 := fun W' => cmp64 a.1 b.1 W'
  have hc2 := fun W' => cmp64 a.2.1 b.2.1 W'
  have hc3 := fun W' => cmp64 a.2.2 b.2.2 W'
  unfold cmp3
  generalize Lib.compareInt a.1 b.1 = r1 at hc1 ⊢
  generalize Lib.compareInt a.2.1 b.2.1 = r2 at hc2 ⊢
  generalize Lib.compareInt a.2.2 b.2.2 = r3 at hc3 ⊢
  generalize hr : (if r1 = 0 then if r2 = 0 then r3 else r2 else r1) = r
  have h0 : r1 ≠ 0 → r = r1 := fun e => by rw [← hr, if_neg e]
  have h1 : r1 = 0 → r2 ≠ 0 → r = r2 := fun e e2 => by rw [← hr, if_pos e, if_neg e2]
  have h2 : r1 = 0 → r2 = 0 → r = r3 := fun e e2 => by rw [← hr, if_pos e, if_pos e2]
  clear hr
  obtain ⟨a0, a1, a2⟩ := a
  obtain ⟨b0, b1, b2⟩ := b
  simp only at hc1 hc2 hc3 hx0 hx1 hx2 hy0 hy1 hy2
  go_enter Tryz.func51, Tryz.ntmps51
  go_wp2
  refine wp_region_still_tail 27 (by kernel_rfl) (by kernel_rfl) ?_
  simp only [List.take_succ_cons, List.take_zero, List.drop_succ_cons, List.drop_zero]
  have d0 : World.cell? { W with drawn := W.drawn + 1 } ⟨ba, oa + 1, none⟩ = some (.int .i64 a0) := hx0
  have d1 : World.cell? { W with drawn := W.drawn + 1 } ⟨ba, oa + 3 + 1, none⟩ = some (.int .i64 a1) := hx1
  have d2 : World.cell? { W with drawn := W.drawn + 1 } ⟨ba, oa + 6 + 1, none⟩ = some (.int .i64 a2) := hx2
  have g0 : World.cell? { W with drawn := W.drawn + 1 } ⟨bb, ob + 1, none⟩ = some (.int .i64 b0) := hy0
  have g1 : World.cell? { W with drawn := W.drawn + 1 } ⟨bb, ob + 3 + 1, none⟩ = some (.int .i64 b1) := hy1
  have g2 : World.cell? { W with drawn := W.drawn + 1 } ⟨bb, ob + 6 + 1, none⟩ = some (.int .i64 b2) := hy2
  have hend : ∀ W', (∃ os, W' = grow { W with drawn := W.drawn + 1 } os) → ∃ q os', W' = grow (W.drewN q) os' := by
    rintro W' ⟨os, rfl⟩
    exact ⟨1, os, rfl⟩
  clear hx0 hx1 hx2 hy0 hy1 hy2
  generalize { W with drawn := W.drawn + 1 } = W3 at d0 d1 d2 g0 g1 g2 hend ⊢
  still_step
  still_step
  still_step
  still_step
  still_step
  still_step
  still_step
  still_step
  still_call (hc1 _)
  still_step
  still_step
  still_step
  still_step
  still_step
  still_step
  still_step
  still_step
  still_call (hc2 _)
  still_step
  still_step
  still_step
  still_step
  still_step
  still_step
  still_step
  still_step
  still_call (hc3 _)
  refine wpStill_nil ?_
  go_wp2_with (go_at_call 79; refine (or3 r1 r2 r3 r h0 h1 h2 _ _ (by simp) (by simp) (by simp)).mono ?_; rintro e w' ⟨rfl, hw⟩; rw [hw])
  go_ret
  exact ⟨rfl, hend _ ⟨_, alloc_eq_grow _ _⟩⟩
end Go.Proofs.YtdjacjhojbkgjaaGreat.So
