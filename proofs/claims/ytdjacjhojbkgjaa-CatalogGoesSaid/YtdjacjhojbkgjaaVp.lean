/-
  Rows compared by their first three numbers, in whatever world; rows sorted: the contract of the sort at this program. Conditions: each theorem's own.
-/
import Derived.Test.YtdjacjhojbkgjaaChecked
import Derived.Lib.Small
import Derived.Lib.Walk
import Derived.Sort.Grow
import Derived.Deep.Draws
import Derived.StillTailTactics
import Derived.Shelf.SlSortCmp.NoneTotal

/-! The sort's bodies at rows: where they lie in this program. Conditions: none. -/
namespace Go.Proofs.Ytdjacjhojbkgjaa.So
open Go Go.Proofs Go.Proofs.Ytdjacjhojbkgjaa Go.Shelf
def sortRow_ren : Go.Shelf.Ren := ⟨fun | 6 => 52 | 15 => 86 | 14 => 85 | 28 => 105 | 29 => 106 | 20 => 97 | 21 => 98 | 22 => 99 | 23 => 100 | 24 => 101 | 25 => 102 | 26 => 103 | 27 => 104 | 46 => 109 | 47 => 110 | 48 => 111 | 49 => 112 | 50 => 113 | 57 => 116 | n => n, fun | 22 => 28 | 24 => 65 | 25 => 94 | 3 => 3 | 39 => 120 | 0 => 0 | 53 => 44 | 55 => 135 | 4 => 4 | 46 => 127 | 45 => 126 | 50 => 131 | 5 => 5 | 9 => 9 | 66 => 138 | 70 => 142 | 76 => 146 | 77 => 147 | n => n, fun | n => n⟩
theorem sortRow : Go.Proofs.SlLaysF.n6 Try.prog sortRow_ren := {
  mixed := by kernel_rfl,
  f6 := ⟨Try.f52.name, by decide, Try.func52.trans (congrArg some (by kernel_rfl))⟩,
  f14 := ⟨Try.f85.name, by decide, Try.func85.trans (congrArg some (by kernel_rfl))⟩,
  f15 := Try.func86.trans (congrArg some (by kernel_rfl)),
  f20 := ⟨Try.f97.name, by decide, Try.func97.trans (congrArg some (by kernel_rfl))⟩,
  f21 := ⟨Try.f98.name, by decide, Try.func98.trans (congrArg some (by kernel_rfl))⟩,
  f22 := ⟨Try.f99.name, by decide, Try.func99.trans (congrArg some (by kernel_rfl))⟩,
  f23 := ⟨Try.f100.name, by decide, Try.func100.trans (congrArg some (by kernel_rfl))⟩,
  f24 := ⟨Try.f101.name, by decide, Try.func101.trans (congrArg some (by kernel_rfl))⟩,
  f25 := ⟨Try.f102.name, by decide, Try.func102.trans (congrArg some (by kernel_rfl))⟩,
  f26 := ⟨Try.f103.name, by decide, Try.func103.trans (congrArg some (by kernel_rfl))⟩,
  f27 := ⟨Try.f104.name, by decide, Try.func104.trans (congrArg some (by kernel_rfl))⟩,
  f28 := Try.func105.trans (congrArg some (by kernel_rfl)),
  f29 := Try.func106.trans (congrArg some (by kernel_rfl)),
  f46 := ⟨Try.f109.name, by decide, Try.func109.trans (congrArg some (by kernel_rfl))⟩,
  f47 := Try.func110.trans (congrArg some (by kernel_rfl)),
  f48 := Try.func111.trans (congrArg some (by kernel_rfl)),
  f49 := ⟨Try.f112.name, by decide, Try.func112.trans (congrArg some (by kernel_rfl))⟩,
  f50 := ⟨Try.f113.name, by decide, Try.func113.trans (congrArg some (by kernel_rfl))⟩,
  f57 := ⟨Try.f116.name, by decide, Try.func116.trans (congrArg some (by kernel_rfl))⟩,
  t0 := Try.underlying0,
  a0 := Try.isAgg0,
  z0 := Try.sizeOf0,
  v0 := Try.zeroValue0,
  t3 := Try.underlying3,
  a3 := Try.isAgg3,
  z3 := Try.sizeOf3,
  v3 := Try.zeroValue3,
  t4 := Try.underlying4,
  a4 := Try.isAgg4,
  z4 := Try.sizeOf4,
  v4 := Try.zeroValue4,
  t5 := Try.underlying5,
  a5 := Try.isAgg5,
  z5 := Try.sizeOf5,
  v5 := Try.zeroValue5,
  t9 := Try.underlying9,
  a9 := Try.isAgg9,
  z9 := Try.sizeOf9,
  v9 := Try.zeroValue9,
  t22 := Try.underlying28,
  a22 := Try.isAgg28,
  z22 := Try.sizeOf28,
  v22 := Try.zeroValue28,
  a24 := Try.isAgg65,
  z24 := Try.sizeOf65,
  t25 := Try.underlying94,
  a25 := Try.isAgg94,
  z25 := Try.sizeOf94,
  v25 := Try.zeroValue94,
  t39 := Try.underlying120,
  a39 := Try.isAgg120,
  z39 := Try.sizeOf120,
  v39 := Try.zeroValue120,
  t45 := Try.underlying126,
  a45 := Try.isAgg126,
  z45 := Try.sizeOf126,
  v45 := Try.zeroValue126,
  t46 := Try.underlying127,
  a46 := Try.isAgg127,
  z46 := Try.sizeOf127,
  v46 := Try.zeroValue127,
  t50 := Try.underlying131,
  a50 := Try.isAgg131,
  z50 := Try.sizeOf131,
  v50 := Try.zeroValue131,
  t53 := Try.underlying44,
  a53 := Try.isAgg44,
  z53 := Try.sizeOf44,
  v53 := Try.zeroValue44,
  t55 := Try.underlying135,
  a55 := Try.isAgg135,
  z55 := Try.sizeOf135,
  v55 := Try.zeroValue135,
  t66 := Try.underlying138,
  a66 := Try.isAgg138,
  z66 := Try.sizeOf138,
  v66 := Try.zeroValue138,
  t70 := Try.underlying142,
  a70 := Try.isAgg142,
  z70 := Try.sizeOf142,
  v70 := Try.zeroValue142,
  t76 := Try.underlying146,
  a76 := Try.isAgg146,
  z76 := Try.sizeOf146,
  v76 := Try.zeroValue146,
  t77 := Try.underlying147,
  a77 := Try.isAgg147,
  z77 := Try.sizeOf147,
  v77 := Try.zeroValue147 }

end Go.Proofs.Ytdjacjhojbkgjaa.So
namespace Go.Proofs.Ytdjacjhojbkgjaa.So
open Go Go.Proofs Go.Proofs.Ytdjacjhojbkgjaa Go.Lib Go.Sort
set_option linter.unusedVariables false

theorem isNaN64 (x : Int) (w : World) : Calls Try.prog 107 #[.int .i64 x] w fun e w' => e = .returned (.bool false) ∧ w' = w := by
  go_enter Try.func107, Try.ntmps107
  go_wp2
  go_ret
  exact ⟨by simp, rfl⟩
set_option maxHeartbeats 1000000 in
theorem cmp64 (x y : Int) (w : World) : Calls Try.prog 88 #[.int .i64 x, .int .i64 y] w fun e w' => e = .returned (.int .i64 (Lib.compareInt x y)) ∧ w' = w := by
  go_enter Try.func88, Try.ntmps88
  go_wp2_with (go_at_call 107; refine (isNaN64 _ _).mono ?_; rintro e w' ⟨rfl, hw⟩; rw [hw])
  all_goals (go_ret; refine ⟨?_, rfl⟩; unfold Lib.compareInt; (repeat' split) <;> first | rfl | (exfalso; omega))
theorem or3 (x y z r : Int) (hr0 : x ≠ 0 → r = x) (hr1 : x = 0 → y ≠ 0 → r = y) (hr2 : x = 0 → y = 0 → r = z) (b : Nat) (w : World) (hx : w.cell? ⟨b, 0, none⟩ = some (.int .i64 x)) (hy : w.cell? ⟨b, 1, none⟩ = some (.int .i64 y)) (hz : w.cell? ⟨b, 2, none⟩ = some (.int .i64 z)) :
    Calls Try.prog 87 #[.slice (some ⟨b, 0, none⟩) 3 3] w fun e w' => e = .returned (.int .i64 r) ∧ w' = w := by
  go_enter Try.func87, Try.ntmps87
  go_wp2
  go_loop [8] (fun i => i = .int .i64 0 ∨ i = .int .i64 1 ∧ x = 0 ∨ i = .int .i64 2 ∧ x = 0 ∧ y = 0 ∨ i = .int .i64 3 ∧ x = 0 ∧ y = 0 ∧ z = 0)
    (fun i => match i with | .int _ n => 3 - n.toNat | _ => 0)
  case atStart => exact Or.inl rfl
  case round =>
    rcases hrel with rfl | ⟨rfl, hx0⟩ | ⟨rfl, hx0, hy0⟩ | ⟨rfl, hx0, hy0, hz0⟩
    · go_wp2
      · rename_i hne _
        obtain rfl := hr0 (by simpa using hne)
        go_ret
        exact ⟨rfl, rfl⟩
      · rename_i hne
        exact ⟨Or.inr (Or.inl ⟨rfl, by simpa using hne⟩), by decide⟩
    · go_wp2
      · rename_i hne _
        have e := hr1 hx0 (by simpa using hne)
        subst e
        go_ret
        exact ⟨rfl, rfl⟩
      · rename_i hne
        exact ⟨Or.inr (Or.inr (Or.inl ⟨rfl, hx0, by simpa using hne⟩)), by decide⟩
    · have e := hr2 hx0 hy0
      subst e
      go_wp2
      · rename_i hne _
        go_ret
        exact ⟨rfl, rfl⟩
      · rename_i hne
        exact ⟨Or.inr (Or.inr (Or.inr ⟨rfl, hx0, hy0, by simpa using hne⟩)), by decide⟩
    · have e := hr2 hx0 hy0
      subst e
      subst hz0
      go_wp2
      go_ret
      exact ⟨rfl, rfl⟩
/-- By the first number, by the second, by the third. -/
def cmp3 (a b : Int × Int × Int) : Int := if Lib.compareInt a.1 b.1 = 0 then if Lib.compareInt a.2.1 b.2.1 = 0 then Lib.compareInt a.2.2 b.2.2 else Lib.compareInt a.2.1 b.2.1 else Lib.compareInt a.1 b.1
set_option maxHeartbeats 4000000 in
set_option maxRecDepth 20000 in
theorem orderW (ba oa ca bb ob cb : Nat) (a b : Int × Int × Int) (W : World) (hx0 : W.cell? ⟨ba, oa + 1, none⟩ = some (.int .i64 a.1)) (hx1 : W.cell? ⟨ba, oa + 3 + 1, none⟩ = some (.int .i64 a.2.1)) (hx2 : W.cell? ⟨ba, oa + 6 + 1, none⟩ = some (.int .i64 a.2.2))
    (hy0 : W.cell? ⟨bb, ob + 1, none⟩ = some (.int .i64 b.1)) (hy1 : W.cell? ⟨bb, ob + 3 + 1, none⟩ = some (.int .i64 b.2.1)) (hy2 : W.cell? ⟨bb, ob + 6 + 1, none⟩ = some (.int .i64 b.2.2)) :
    Calls Try.prog 53 #[.slice (some ⟨ba, oa, none⟩) 6 ca, .slice (some ⟨bb, ob, none⟩) 6 cb] W fun e w' => e = .returned (.int .i64 (cmp3 a b)) ∧ ∃ q os', w' = grow (W.drewN q) os' := by
  have hc1 := fun W' => cmp64 a.1 b.1 W'
  have hc2 := fun W' => cmp64 a.2.1 b.2.1 W'
  have hc3 := fun W' => cmp64 a.2.2 b.2.2 W'
  unfold cmp3
  generalize Lib.compareInt a.1 b.1 = r1 at hc1 ⊢
  generalize Lib.compareInt a.2.1 b.2.1 = r2 at hc2 ⊢
  generalize Lib.compareInt a.2.2 b.2.2 = r3 at hc3 ⊢
  generalize hr : (if r1 = 0 then if r2 = 0 then r3 else r2 else r1) = r
  have h0 : r1 ≠ 0 → r = r1 := fun e => by rw [← hr, if_neg e]
  have h1 : r1 = 0 → r2 ≠ 0 → r = r2 := fun e e2 => by rw [← hr, if_pos e, if_neg e2]
  have h2 : r1 = 0 → r2 = 0 → r = r3 := fun e e2 => by rw [← hr, if_pos e, if_pos e2]
  clear hr
  obtain ⟨a0, a1, a2⟩ := a
  obtain ⟨b0, b1, b2⟩ := b
  simp only at hc1 hc2 hc3 hx0 hx1 hx2 hy0 hy1 hy2
  go_enter Try.func53, Try.ntmps53
  go_wp2
  refine wp_region_still_tail 27 (by kernel_rfl) (by kernel_rfl) ?_
  simp only [List.take_succ_cons, List.take_zero, List.drop_succ_cons, List.drop_zero]
  have d0 : World.cell? { W with drawn := W.drawn + 1 } ⟨ba, oa + 1, none⟩ = some (.int .i64 a0) := hx0
  have d1 : World.cell? { W with drawn := W.drawn + 1 } ⟨ba, oa + 3 + 1, none⟩ = some (.int .i64 a1) := hx1
  have d2 : World.cell? { W with drawn := W.drawn + 1 } ⟨ba, oa + 6 + 1, none⟩ = some (.int .i64 a2) := hx2
  have g0 : World.cell? { W with drawn := W.drawn + 1 } ⟨bb, ob + 1, none⟩ = some (.int .i64 b0) := hy0
  have g1 : World.cell? { W with drawn := W.drawn + 1 } ⟨bb, ob + 3 + 1, none⟩ = some (.int .i64 b1) := hy1
  have g2 : World.cell? { W with drawn := W.drawn + 1 } ⟨bb, ob + 6 + 1, none⟩ = some (.int .i64 b2) := hy2
  have hend : ∀ W', (∃ os, W' = grow { W with drawn := W.drawn + 1 } os) → ∃ q os', W' = grow (W.drewN q) os' := by
    rintro W' ⟨os, rfl⟩
    exact ⟨1, os, rfl⟩
  clear hx0 hx1 hx2 hy0 hy1 hy2
  generalize { W with drawn := W.drawn + 1 } = W3 at d0 d1 d2 g0 g1 g2 hend ⊢
  still_step
  still_step
  still_step
  still_step
  still_step
  still_step
  still_step
  still_step
  still_call (hc1 _)
  still_step
  still_step
  still_step
  still_step
  still_step
  still_step
  still_step
  still_step
  still_call (hc2 _)
  still_step
  still_step
  still_step
  still_step
  still_step
  still_step
  still_step
  still_step
  still_call (hc3 _)
  refine wpStill_nil ?_
  go_wp2_with (go_at_call 87; refine (or3 r1 r2 r3 r h0 h1 h2 _ _ (by simp) (by simp) (by simp)).mono ?_; rintro e w' ⟨rfl, hw⟩; rw [hw])
  go_ret
  exact ⟨rfl, hend _ ⟨_, alloc_eq_grow _ _⟩⟩
end Go.Proofs.Ytdjacjhojbkgjaa.So
