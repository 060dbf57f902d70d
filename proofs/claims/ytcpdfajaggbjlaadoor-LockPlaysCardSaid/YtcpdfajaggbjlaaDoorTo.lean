/-
  Pairs compared, in whatever world: for the sort's contract. Conditions: each theorem's own.
-/
import Derived.Test.YtcpdfajaggbjlaaDoorChecked
import Derived.Lib.Small
import Derived.Lib.Walk
import Derived.Sort.Grow
import Derived.Deep.Draws
import Derived.StillTailTactics

namespace Go.Proofs.YtcpdfajaggbjlaaDoor.So
open Go Go.Proofs Go.Proofs.YtcpdfajaggbjlaaDoor Go.Lib Go.Sort
set_option linter.unusedVariables false

theorem isNaN32 (x : Int) (w : World) : Calls Tryd.prog 58 #[.int .u32 x] w fun e w' => e = .returned (.bool false) ∧ w' = w := by
  go_enter Tryd.func58, Tryd.ntmps58
  go_wp2
  go_ret
  exact ⟨by simp, rfl⟩
set_option maxHeartbeats 1000000 in
theorem cmp32 (x y : Int) (w : World) : Calls Tryd.prog 35 #[.int .u32 x, .int .u32 y] w fun e w' => e = .returned (.int .i64 (Lib.compareInt x y)) ∧ w' = w := by
  go_enter Tryd.func35, Tryd.ntmps35
  go_wp2_with (go_at_call 58; refine (isNaN32 _ _).mono ?_; rintro e w' ⟨rfl, hw⟩; rw [hw])
  all_goals (go_ret; refine ⟨?_, rfl⟩; unfold Lib.compareInt; (repeat' split) <;> first | rfl | (exfalso; omega))
@[simp] theorem cellOld (W : World) (cs : Array Value) (T : TypeId) (o : Obj) (tp : Nat → Question → Nat) (dr : Nat) (os : Os) (ou : Array (Nat × ByteArray)) (off : Nat) :
    World.cell? ⟨(W.alloc (.cells cs T)).heap.push o, tp, dr, os, ou⟩ ⟨W.heap.size, off, none⟩ = cs[off]? := by
  have h : ((W.alloc (.cells cs T)).heap.push o)[W.heap.size]? = some (.cells cs T) := by
    show ((W.heap.push _).push o)[W.heap.size]? = _
    simp [Array.getElem?_push]
  simp only [World.cell?, h]
  rfl
@[simp] theorem cellNew (W : World) (cs : Array Value) (T : TypeId) (o : Obj) (tp : Nat → Question → Nat) (dr : Nat) (os : Os) (ou : Array (Nat × ByteArray)) (off : Nat) :
    World.cell? ⟨(W.alloc o).heap.push (.cells cs T), tp, dr, os, ou⟩ ⟨W.heap.size + 1, off, none⟩ = cs[off]? := by
  have h : ((W.alloc o).heap.push (.cells cs T))[W.heap.size + 1]? = some (.cells cs T) := by
    show ((W.heap.push _).push _)[W.heap.size + 1]? = _
    rw [Array.getElem?_push, if_pos (by simp)]
  simp only [World.cell?, h]
  rfl
theorem or2 (x y r : Int) (hr0 : x ≠ 0 → r = x) (hr1 : x = 0 → r = y) (b : Nat) (w : World) (hx : w.cell? ⟨b, 0, none⟩ = some (.int .i64 x)) (hy : w.cell? ⟨b, 1, none⟩ = some (.int .i64 y)) :
    Calls Tryd.prog 34 #[.slice (some ⟨b, 0, none⟩) 2 2] w fun e w' => e = .returned (.int .i64 r) ∧ w' = w := by
  go_enter Tryd.func34, Tryd.ntmps34
  go_wp2
  go_loop [8] (fun i => i = .int .i64 0 ∨ i = .int .i64 1 ∧ x = 0 ∨ i = .int .i64 2 ∧ x = 0 ∧ y = 0)
    (fun i => match i with | .int _ n => 2 - n.toNat | _ => 0)
  case atStart => exact Or.inl rfl
  case round =>
    rcases hrel with rfl | ⟨rfl, hx0⟩ | ⟨rfl, hx0, hy0⟩
    · go_wp2
      · rename_i hne _
        obtain rfl := hr0 (by simpa using hne)
        go_ret
        exact ⟨rfl, rfl⟩
      · rename_i hne _
        exact ⟨_, _, _, Or.inl ⟨rfl, by simpa using hne⟩, rfl, rfl, rfl⟩
    · go_wp2
      · rename_i hne _
        go_ret
        first | exact ⟨rfl, rfl⟩ | (refine ⟨?_, rfl⟩; rw [hr1 hx0])
      · rename_i hne _
        exact ⟨_, _, _, ⟨rfl, by simpa using hne⟩, rfl, rfl, rfl⟩
    · go_wp2
      go_ret
      first | exact ⟨rfl, rfl⟩ | (refine ⟨?_, rfl⟩; rw [hr1 hx0, hy0])
set_option maxHeartbeats 2000000 in
set_option maxRecDepth 20000 in
theorem cloW (a b a' b' : Int) (W : World) : Calls Tryd.prog 33 #[.agg #[.int .u32 a, .int .u32 b], .agg #[.int .u32 a', .int .u32 b']] W
    fun e w' => e = .returned (.int .i64 (if Lib.compareInt a a' = 0 then Lib.compareInt b b' else Lib.compareInt a a')) ∧ ∃ q os', w' = grow (W.drewN q) os' := by
  have hc1 := fun W' => cmp32 a a' W'
  have hc2 := fun W' => cmp32 b b' W'
  generalize Lib.compareInt a a' = r1 at hc1 ⊢
  generalize Lib.compareInt b b' = r2 at hc2 ⊢
  generalize hr : (if r1 = 0 then r2 else r1) = r
  have h0 : r1 ≠ 0 → r = r1 := fun e => by rw [← hr, if_neg e]
  have h1 : r1 = 0 → r = r2 := fun e => by rw [← hr, if_pos e]
  clear hr
  go_enter Tryd.func33, Tryd.ntmps33
  go_wp2
  obtain ⟨W2, hW2⟩ : ∃ W2, W2 = (⟨(W.alloc (Obj.cells #[.int .u32 a, .int .u32 b] 47)).heap.push (Obj.cells #[.int .u32 a', .int .u32 b'] 47), W.tape, W.drawn, (W.alloc (Obj.cells #[.int .u32 a, .int .u32 b] 47)).os, (W.alloc (Obj.cells #[.int .u32 a, .int .u32 b] 47)).output⟩ : World) := ⟨_, rfl⟩
  rw [← hW2]
  have c0 : W2.cell? ⟨W.heap.size, 0, none⟩ = some (.int .u32 a) := by rw [hW2, cellOld]; rfl
  have c1 : W2.cell? ⟨W.heap.size, 1, none⟩ = some (.int .u32 b) := by rw [hW2, cellOld]; rfl
  have c2 : W2.cell? ⟨W.heap.size + 1, 0, none⟩ = some (.int .u32 a') := by rw [hW2, cellNew]; rfl
  have c3 : W2.cell? ⟨W.heap.size + 1, 1, none⟩ = some (.int .u32 b') := by rw [hW2, cellNew]; rfl
  have hg : W2 = grow W #[Obj.cells #[.int .u32 a, .int .u32 b] 47, Obj.cells #[.int .u32 a', .int .u32 b'] 47] := by
    rw [hW2]
    show World.alloc (World.alloc W _) _ = _
    rw [alloc_eq_grow, alloc_eq_grow, grow_grow]; rfl
  clear hW2
  refine wp_region_still_tail 10 (by kernel_rfl) (by kernel_rfl) ?_
  simp only [List.take_succ_cons, List.take_zero, List.drop_succ_cons, List.drop_zero]
  have d0 : World.cell? { W2 with drawn := W2.drawn + 1 } ⟨W.heap.size, 0, none⟩ = some (.int .u32 a) := c0
  have d1 : World.cell? { W2 with drawn := W2.drawn + 1 } ⟨W.heap.size, 1, none⟩ = some (.int .u32 b) := c1
  have d2 : World.cell? { W2 with drawn := W2.drawn + 1 } ⟨W.heap.size + 1, 0, none⟩ = some (.int .u32 a') := c2
  have d3 : World.cell? { W2 with drawn := W2.drawn + 1 } ⟨W.heap.size + 1, 1, none⟩ = some (.int .u32 b') := c3
  have hg2 : { W2 with drawn := W2.drawn + 1 } = grow (W.drewN 1) #[Obj.cells #[.int .u32 a, .int .u32 b] 47, Obj.cells #[.int .u32 a', .int .u32 b'] 47] := by
    rw [hg]; rfl
  have hend : ∀ W', (∃ os, W' = grow { W2 with drawn := W2.drawn + 1 } os) → ∃ q os', W' = grow (W.drewN q) os' := by
    rintro W' ⟨os, rfl⟩
    rw [hg2, grow_grow]
    exact ⟨_, _, rfl⟩
  clear hg2 hg c0 c1 c2 c3
  generalize { W2 with drawn := W2.drawn + 1 } = W3 at d0 d1 d2 d3 hend ⊢
  generalize W.heap.size = B at d0 d1 d2 d3 ⊢
  still_step
  still_step
  still_step
  still_step
  still_call (hc1 _)
  still_step
  still_step
  still_step
  still_step
  still_call (hc2 _)
  refine wpStill_nil ?_
  go_wp2_with (go_at_call 34; refine (or2 r1 r2 r h0 h1 _ _ (by simp) (by simp)).mono ?_; rintro e w' ⟨rfl, hw⟩; rw [hw])
  go_ret
  exact ⟨rfl, hend _ ⟨_, alloc_eq_grow _ _⟩⟩
end Go.Proofs.YtcpdfajaggbjlaaDoor.So
