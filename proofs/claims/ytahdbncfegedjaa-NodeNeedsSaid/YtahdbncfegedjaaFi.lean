/-
  Pages whose memory is their owner's; clones. Conditions: each theorem's own.
-/
import Derived.Test.YtahdbncfegedjaaFh

namespace Go.Proofs.Ytahdbncfegedjaa.Pg
open Go Go.K Go.Proofs Go.Proofs.Ytahdbncfegedjaa
set_option linter.unusedVariables false
set_option linter.unusedSimpArgs false
set_option maxRecDepth 10000

structure OC where
  used : Bool
  killer : Nat
  a : Option Nat
  cap : Nat
  data : List UInt8
def OC.cell (c : OC) : PCell := ⟨c.used, c.killer, c.data⟩
def rowO (c : OC) : List Value := [.bool c.used, .int .u32 c.killer, bufV c.a c.data.length c.cap]
def datA (c : OC) : Asrt := bufA 5 1 c.a c.data.length c.cap (c.data.map u8)
/-- The memory of a page: the row of its cells, and their bytes. -/
def pgA (b : Option Nat) (cap : Nat) (l : List OC) : List Asrt := [bufA 52 3 b l.length cap (l.map rowO).flatten, all (l.map datA)]
def okO (l : List OC) : Prop := ∀ c ∈ l, c.killer < 4294967296
theorem rowO_len (l : List OC) : ∀ e ∈ l.map rowO, e.length = 3 := fun e he => by
  obtain ⟨c, _, rfl⟩ := List.mem_map.1 he
  rfl
theorem says_row {h : Base} {b : Option Nat} {cap : Nat} {l : List OC} (hs : Says h (pgA b cap l)) (hk : okO l) : SL h 3 (bufV b l.length cap) (l.map rowO) ∧ RowC h (l.map rowO) (l.map OC.cell) := by
  have h1 := K.says_mem hs (List.mem_cons_self ..)
  have h2 := K.says_all (K.says_mem hs (List.mem_cons_of_mem _ (List.mem_cons_self ..)))
  have hl : (l.map rowO).length = l.length := List.length_map ..
  have hsl := K.says_sl (T := 52) (a := b) (cap := cap) (es := l.map rowO) (rowO_len l) (by rw [hl]; exact h1)
  rw [hl] at hsl
  refine ⟨hsl, by simp, rowO_len l, fun j c x hj hx => ?_⟩
  rw [List.getElem?_map] at hj hx
  cases hc : l[j]? with
  | none => rw [hc] at hj; cases hj
  | some o =>
    rw [hc] at hj hx
    cases hj; cases hx
    have hmem := List.mem_of_getElem? hc
    have h3 := K.says_bv (T := 5) (a := o.a) (cap := o.cap) (l := o.data) (K.says_mem h2 (List.mem_map.2 ⟨o, hmem, rfl⟩))
    have h4 : o.data.length ≤ 9223372036854775807 := by
      obtain ⟨w, hw⟩ := h2.1
      have := h2.2 w hw (datA o) (List.mem_map.2 ⟨o, hmem, rfl⟩)
      unfold datA bufA at this
      cases ha : o.a with
      | none => rw [ha] at this; have := this.1; omega
      | some b => rw [ha] at this; obtain ⟨_, _, _, _, _, g4, g5, _⟩ := this; unfold maxLen at g5; omega
    exact ⟨hk o hmem, h4, _, _, rfl, h3⟩
theorem says_page {h : Base} {b : Option Nat} {cap : Nat} {l : List OC} {p : Pag} (hs : Says h (pgA b cap l)) (hk : okO l) (hw : wfP p) (hc : p.cells = l.map OC.cell) : PagC h (cP p (bufV b p.cells.length cap)) p := by
  obtain ⟨h1, h2⟩ := says_row hs hk
  have hl : p.cells.length = l.length := by rw [hc, List.length_map]
  refine ⟨hw, _, rfl, _, by rw [hl]; exact h1, by rw [hc]; exact h2.1, by rw [hc]; exact h2.2.2⟩
/-- A page all of whose memory is its owner's. -/
def OwnP (h0 : Base) (p : Pag) (v : Value) (h' : Base) (H' : List Asrt) : Prop := h' = h0 ∧ ∃ b cap l, p.cells = l.map OC.cell ∧ okO l ∧ v = .agg (cP p (bufV b p.cells.length cap)).toArray ∧ H' = pgA b cap l
theorem Ok.allPerm {h : Base} {A B F : List Asrt} {w : World} (hp : A.Perm B) (ok : Ok h (all A :: F) w) : Ok h (all B :: F) w :=
  K.Ok.all_iff.2 ((K.Ok.all_iff.1 ok).perm (hp.append_right F))
theorem Ok.allPush {h : Base} {A : Asrt} {Hs F : List Asrt} {w : World} (ok : Ok h (A :: all Hs :: F) w) : Ok h (all (Hs ++ [A]) :: F) w := by
  have ok1 := K.Ok.all_iff.1 (ok.perm (List.Perm.swap _ _ _))
  refine K.Ok.all_iff.2 (ok1.perm ?_)
  rw [List.append_assoc]; exact List.Perm.refl _
section
variable {P : Program} {n : NN} {Q : Exit → Act → World → Prop} {E : Env} {h : Base} {H F : List Asrt} {ops : Array Oper}
theorem AT.allPush {q : Exit} {A : Asrt} {Hs : List Asrt} (hx : AT P n Q q E h (all (Hs ++ [A]) :: F)) : AT P n Q q E h (A :: all Hs :: F) := ⟨fun a w fa ok => hx.run a w fa (Ok.allPush ok)⟩
theorem AT.allPerm {q : Exit} {A B : List Asrt} (hp : A.Perm B) (hx : AT P n Q q E h (all B :: F)) : AT P n Q q E h (all A :: F) := ⟨fun a w fa ok => hx.run a w fa (Ok.allPerm hp ok)⟩
theorem WL.allPush {L : List Oper} {A : Asrt} {Hs : List Asrt} (hx : WL P n ops Q L E h (all (Hs ++ [A]) :: F)) : WL P n ops Q L E h (A :: all Hs :: F) := ⟨fun a w fa ok => hx.run a w fa (Ok.allPush ok)⟩
theorem WL.allPerm {L : List Oper} {A B : List Asrt} (hp : A.Perm B) (hx : WL P n ops Q L E h (all B :: F)) : WL P n ops Q L E h (all A :: F) := ⟨fun a w fa ok => hx.run a w fa (Ok.allPerm hp ok)⟩
theorem Ok.allNil {w : World} (ok : Ok h F w) : Ok h (all [] :: F) w := K.Ok.all_iff.2 ok
theorem WL.allNil {L : List Oper} (hx : WL P n ops Q L E h (all [] :: F)) : WL P n ops Q L E h F := ⟨fun a w fa ok => hx.run a w fa (Ok.allNil ok)⟩
theorem WC.allNil {c : Code} (hx : WC P n c Q E h (all [] :: F)) : WC P n c Q E h F := ⟨fun a w fa ok => hx.run a w fa (Ok.allNil ok)⟩
theorem AT.allNil {q : Exit} (hx : AT P n Q q E h (all [] :: F)) : AT P n Q q E h F := ⟨fun a w fa ok => hx.run a w fa (Ok.allNil ok)⟩
end
/-! ### Rows that are made -/
theorem rep_flat (zs : List Value) : ∀ (m i : Nat), i < m * zs.length → (List.replicate m zs).flatten[i]? = zs[i % zs.length]?
  | 0, i, hi => by simp at hi
  | m + 1, i, hi => by
    rw [List.replicate_succ, List.flatten_cons]
    by_cases h : i < zs.length
    · rw [List.getElem?_append_left h, Nat.mod_eq_of_lt h]
    · rw [List.getElem?_append_right (by omega), rep_flat zs m (i - zs.length) (by rw [Nat.add_mul] at hi; omega)]
      congr 1
      rw [← Nat.mod_eq_sub_mod (by omega)]
theorem made_rows (zs : List Value) (m c : Nat) (hm : m ≤ c) (hz : 0 < zs.length) : (madeCells zs.toArray (c * zs.length)).toList.take (m * zs.length) = (List.replicate m zs).flatten := by
  have hmc : m * zs.length ≤ c * zs.length := Nat.mul_le_mul_right _ hm
  have hfl : (List.replicate m zs).flatten.length = m * zs.length := by rw [K.flatten_len (s := zs.length) _ fun e he => by rw [List.eq_of_mem_replicate he], List.length_replicate]
  refine List.ext_getElem? fun i => ?_
  by_cases hi : i < m * zs.length
  · rw [List.getElem?_take, if_pos hi, rep_flat zs m i hi]
    simp only [madeCells, List.size_toArray, Array.toList_map, Array.toList_range, List.getElem?_map]
    rw [List.getElem?_range (by omega)]
    have hlt := Nat.mod_lt i hz
    simp [hlt]
  · have hml : (madeCells zs.toArray (c * zs.length)).toList.length = c * zs.length := (Array.length_toList ..).trans (size_madeCells _ _)
    rw [List.getElem?_eq_none (by rw [List.length_take, hml]; omega), List.getElem?_eq_none (by omega)]
def zrow : List Value := [.bool false, .int .u32 0, .slice none 0 0]
/-- A row that is filled from its head on. -/
def fillR (l : List OC) (m : Nat) : List (List Value) := l.map rowO ++ List.replicate (m - l.length) zrow
theorem fillR_len {l : List OC} {m : Nat} (h : l.length ≤ m) : (fillR l m).length = m := by simp [fillR]; omega
theorem fillR_three (l : List OC) (m : Nat) : ∀ e ∈ fillR l m, e.length = 3 := fun e he => by
  rcases List.mem_append.1 he with he | he
  · exact rowO_len l e he
  · rw [List.eq_of_mem_replicate he]; rfl
theorem fillR_set {l : List OC} {m : Nat} (h : l.length < m) (c : OC) : (fillR l m).set l.length (rowO c) = fillR (l ++ [c]) m := by
  unfold fillR
  rw [List.set_append, if_neg (by simp), List.length_map, Nat.sub_self, List.length_append, List.length_singleton]
  rw [show m - l.length = (m - (l.length + 1)) + 1 by omega, List.replicate_succ, List.set_cons_zero, List.map_append, List.append_assoc]
  rfl
end Go.Proofs.Ytahdbncfegedjaa.Pg
