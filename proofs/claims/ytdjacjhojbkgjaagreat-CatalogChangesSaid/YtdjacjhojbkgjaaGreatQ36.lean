/-
  Texts joined: Wa Wb Wc Wd We Wf. Conditions: each theorem's own.
-/
import Derived.Test.YtdjacjhojbkgjaaGreatQ33
import Derived.Test.YtdjacjhojbkgjaaGreatQ34
section
namespace Go.Proofs.YtdjacjhojbkgjaaGreat.Ct
open Go Go.K Go.Proofs Go.Proofs.YtdjacjhojbkgjaaGreat Go.Proofs.YtdjacjhojbkgjaaGreat.Rw
set_option linter.unusedVariables false
set_option linter.unusedSimpArgs false
set_option maxRecDepth 10000

structure RwS where
  j : Nat
  hb : Base
  a : Option Nat
  k : Nat
  es : List (List Value)
end Go.Proofs.YtdjacjhojbkgjaaGreat.Ct
end

section
namespace Go.Proofs.YtdjacjhojbkgjaaGreat.Ct
open Go Go.K Go.Proofs Go.Proofs.YtdjacjhojbkgjaaGreat Go.Proofs.YtdjacjhojbkgjaaGreat.Rw
set_option linter.unusedVariables false
set_option linter.unusedSimpArgs false
set_option maxRecDepth 10000

def placeQ (k : Int) : Int := if k = 0 then 0 else if k = 3 then 1 else if k = 1 then 2 else 3
def ordV (a b : Val) : Int := if placeQ a.kind < placeQ b.kind then -1 else if placeQ b.kind < placeQ a.kind then 1 else if a.kind = 2 then Lib.compareBytes a.s.data.toList b.s.data.toList else if a.n < b.n then -1 else if b.n < a.n then 1 else 0
def ordR : List Val → List Val → Int
  | [], [] => 0
  | [], _ :: _ => -1
  | _ :: _, [] => 1
  | a :: ar, b :: br => if ordV a b ≠ 0 then ordV a b else ordR ar br
end Go.Proofs.YtdjacjhojbkgjaaGreat.Ct
end

section
namespace Go.Proofs.YtdjacjhojbkgjaaGreat.Ct
open Go Go.K Go.Proofs Go.Proofs.YtdjacjhojbkgjaaGreat Go.Proofs.YtdjacjhojbkgjaaGreat.Rw
set_option linter.unusedVariables false
set_option linter.unusedSimpArgs false
set_option maxRecDepth 10000

/-! ### The plain side -/
section
variable {α : Type} (gt : α → α → Bool)
def posN (p : List α) (x : α) : Nat → Nat
  | 0 => 0
  | k + 1 => match p[k]? with
    | some y => if gt y x then posN p x k else k + 1
    | none => k + 1
def insP (p : List α) (x : α) : List α := p.take (posN gt p x p.length) ++ x :: p.drop (posN gt p x p.length)
def insAll : List α → List α → List α
  | p, [] => p
  | p, x :: l => insAll (insP gt p x) l
end
/-! ### Rows and where they lie -/
structure RowU where
  v : Value
  r : List Val
def RowU.ok (h : Base) (x : RowU) : Prop := SL h 3 x.v (x.r.map cV) ∧ (∀ y ∈ x.r, wfV y) ∧ x.r.length ≤ 9223372036854775807
def RowU.c (x : RowU) : List Value := [x.v]
def gtU (x y : RowU) : Bool := decide (0 < ordR x.r y.r)
def gtR (x y : List Val) : Bool := decide (0 < ordR x y)
def sortQ (l : List (List Val)) : List (List Val) := insAll gtR [] l
structure SoS where
  j : Nat
  a : Option Nat
  k : Nat
end Go.Proofs.YtdjacjhojbkgjaaGreat.Ct
end

section
namespace Go.Proofs.YtdjacjhojbkgjaaGreat.Ct
open Go Go.K Go.Proofs Go.Proofs.YtdjacjhojbkgjaaGreat Go.Proofs.YtdjacjhojbkgjaaGreat.Rw
set_option linter.unusedVariables false
set_option linter.unusedSimpArgs false
set_option maxRecDepth 10000

def fitV (v : Val) : Bool := decide (v.kind = 1 ∧ 0 ≤ v.n ∧ v.n ≤ 4294967295)
def hasK (w id at_ : Int) : List Val → Bool
  | [r0, r1, r2, _, _, _] => decide (r0 = vN w) && (decide (r1 = vN id) && decide (r2 = vN at_))
  | _ => false
def colsG (l : List (List Val)) (id : Int) : Nat → Nat → List Col
  | 0, _ => []
  | f + 1, k => match l.find? (hasK 2 id k) with
    | some [_, _, _, r3, r4, r5] => ⟨r3.s, r4.n, decide (r5 = vB true)⟩ :: colsG l id f (k + 1)
    | _ => []
def keysG (l : List (List Val)) (id : Int) : Nat → Nat → List Int
  | 0, _ => []
  | f + 1, k => match l.find? (hasK 4 id k) with
    | some [_, _, _, _, r4, _] => r4.n :: keysG l id f (k + 1)
    | _ => []
def gStep (l : List (List Val)) (s : PSch) : List Val → PSch
  | [r0, r1, r2, r3, r4, r5] => if fitV r1 && fitV r4 then
      if r0 = vN 1 then ⟨s.tabs ++ [⟨r1.n.toNat, r3.s, colsG l r1.n 17 0, r4.n.toNat⟩], s.idxs⟩
      else if r0 = vN 3 ∧ fitV r2 = true then ⟨s.tabs, s.idxs ++ [⟨r1.n.toNat, r2.n.toNat, r3.s, keysG l r1.n 17 0, decide (r5 = vB true), r4.n.toNat⟩]⟩
      else s
    else s
  | _ => s
def guessQ (l : List (List Val)) : PSch := (sortQ l).foldl (gStep l) zSch
end Go.Proofs.YtdjacjhojbkgjaaGreat.Ct
end

section
namespace Go.Proofs.YtdjacjhojbkgjaaGreat.Ct
open Go Go.K Go.Proofs Go.Proofs.YtdjacjhojbkgjaaGreat Go.Proofs.YtdjacjhojbkgjaaGreat.Rw
set_option linter.unusedVariables false
set_option linter.unusedSimpArgs false
set_option maxRecDepth 10000

structure GI (s : PSch) (n : Nat) : Prop where
  tabs : ∀ t ∈ s.tabs, wfTb t
  idxs : ∀ x ∈ s.idxs, wfIx x
  lt : s.tabs.length ≤ n
  li : s.idxs.length ≤ n
theorem GI.wf {s : PSch} {n : Nat} (h : GI s n) (hn : n ≤ 1000000) : wfS s := ⟨h.tabs, h.idxs, by have := h.lt; omega, by have := h.li; omega⟩
theorem GI.zero : GI zSch 0 := ⟨fun t h => (by cases h), fun t h => (by cases h), Nat.le_refl _, Nat.le_refl _⟩
theorem colsG_ok {l : List (List Val)} (hw : ∀ r ∈ l, ∀ x ∈ r, wfV x) (id : Int) : ∀ f k, (colsG l id f k).length ≤ f ∧ ∀ c ∈ colsG l id f k, wfC c
  | 0, k => ⟨Nat.le_refl _, fun c hc => by rw [colsG] at hc; cases hc⟩
  | f + 1, k => by
    rw [colsG]
    split
    · rename_i r0 r1 r2 r3 r4 r5 hf
      have hm := hw _ (List.mem_of_find?_eq_some hf)
      obtain ⟨g1, g2⟩ := colsG_ok hw id f (k + 1)
      refine ⟨by simp; exact g1, fun c hc => ?_⟩
      rcases List.mem_cons.1 hc with rfl | hc
      · have w3 := hm r3 (by simp)
        have w4 := hm r4 (by simp)
        exact ⟨w4.n1, w4.n2, w3.s⟩
      · exact g2 c hc
    · exact ⟨Nat.zero_le _, fun c hc => by cases hc⟩
theorem keysG_ok {l : List (List Val)} (hw : ∀ r ∈ l, ∀ x ∈ r, wfV x) (id : Int) : ∀ f k, (keysG l id f k).length ≤ f ∧ ∀ c ∈ keysG l id f k, -9223372036854775808 ≤ c ∧ c ≤ 9223372036854775807
  | 0, k => ⟨Nat.le_refl _, fun c hc => by rw [keysG] at hc; cases hc⟩
  | f + 1, k => by
    rw [keysG]
    split
    · rename_i r0 r1 r2 r3 r4 r5 hf
      have hm := hw _ (List.mem_of_find?_eq_some hf)
      obtain ⟨g1, g2⟩ := keysG_ok hw id f (k + 1)
      refine ⟨by simp; exact g1, fun c hc => ?_⟩
      rcases List.mem_cons.1 hc with rfl | hc
      · have w4 := hm r4 (by simp)
        exact ⟨w4.n1, w4.n2⟩
      · exact g2 c hc
    · exact ⟨Nat.zero_le _, fun c hc => by cases hc⟩
theorem GI.up {s : PSch} {n : Nat} (h : GI s n) : GI s (n + 1) := ⟨h.tabs, h.idxs, by have := h.lt; omega, by have := h.li; omega⟩
theorem GI.step {l : List (List Val)} (hw : ∀ r ∈ l, ∀ x ∈ r, wfV x) {s : PSch} {n : Nat} {r : List Val} (h : GI s n) (hr : ∀ x ∈ r, wfV x) : GI (gStep l s r) (n + 1) := by
  unfold gStep
  split
  · rename_i r0 r1 r2 r3 r4 r5
    have w3 := (hr r3 (by simp)).s
    split
    · rename_i hf
      simp only [Bool.and_eq_true, fitV, decide_eq_true_eq] at hf
      split
      · obtain ⟨g1, g2⟩ := colsG_ok hw r1.n 17 0
        refine ⟨fun t ht => ?_, h.idxs, by simp; exact h.lt, Nat.le_succ_of_le h.li⟩
        rcases List.mem_append.1 ht with ht | ht
        · exact h.tabs t ht
        · rw [List.mem_singleton.1 ht]
          exact ⟨by show r1.n.toNat < _; omega, w3, g2, Nat.le_trans g1 (by decide), by show r4.n.toNat < _; omega⟩
      · split
        · rename_i hf2
          have hf2 := hf2.2
          simp only [fitV, decide_eq_true_eq] at hf2
          obtain ⟨g1, g2⟩ := keysG_ok hw r1.n 17 0
          refine ⟨h.tabs, fun t ht => ?_, Nat.le_succ_of_le h.lt, by simp; exact h.li⟩
          rcases List.mem_append.1 ht with ht | ht
          · exact h.idxs t ht
          · rw [List.mem_singleton.1 ht]
            exact ⟨by show r1.n.toNat < _; omega, by show r2.n.toNat < _; omega, w3, g2, Nat.le_trans g1 (by decide), by show r4.n.toNat < _; omega⟩
        · exact h.up
    · exact h.up
  · exact h.up
theorem RowsV.le {h h' : Base} {l : List (List Val)} {v : Value} (hv : RowsV h l v) (hle : h.le h') : RowsV h' l v := by
  obtain ⟨es, h1, h2⟩ := hv
  exact ⟨es, h1.le hle, h2.mono fun r c hc => hc.le hle⟩
structure GuS where
  j : Nat
  hb : Base
  a : Option Nat
  k : Nat
  a2 : Option Nat
  k2 : Nat
  es : List (List Value)
  es2 : List (List Value)
  s : PSch
structure GuC where
  j : Nat
  a : Option Nat
  k : Nat
  cs : List Col
structure GuK where
  j : Nat
  a : Option Nat
  k : Nat
  cs : List Int
structure GuJ where
  a : Option Nat
  k : Nat
end Go.Proofs.YtdjacjhojbkgjaaGreat.Ct
end

section
namespace Go.Proofs.YtdjacjhojbkgjaaGreat.Ct
open Go Go.K Go.Proofs Go.Proofs.YtdjacjhojbkgjaaGreat Go.Proofs.YtdjacjhojbkgjaaGreat.Rw
set_option linter.unusedVariables false
set_option linter.unusedSimpArgs false
set_option maxRecDepth 10000

/-! ### Sorted one by one -/
section
variable {α : Type} (gt : α → α → Bool) (key : α → Key)
end
/-! ### The order of a schema's rows -/
def Head (r : List Val) (k : Key) : Prop := ∃ c rest, r = vN k.1 :: vN k.2.1 :: c :: rest ∧ ((k.1 = 1 ∧ c = vZ ∧ k.2.2 = 0) ∨ (k.1 ≠ 1 ∧ c = vN k.2.2))
/-! ### What is guessed of a schema's rows -/
theorem rows_wf {s : PSch} (hw : wfS s) (hm : mayS s = true) : ∀ r ∈ rowsQ s, (∀ y ∈ r, wfV y) ∧ r.length ≤ 9223372036854775807 := fun r hr => by
  have wN : ∀ {n : Int}, -9223372036854775808 ≤ n → n ≤ 9223372036854775807 → wfV (vN n) := fun h1 h2 => ⟨(by decide : (-9223372036854775808 : Int) ≤ 1), (by decide : (1 : Int) ≤ 9223372036854775807), h1, h2, (by decide : noT.size ≤ 9223372036854775807)⟩
  have wZ : wfV vZ := ⟨(by decide : (-9223372036854775808 : Int) ≤ 0), (by decide : (0 : Int) ≤ 9223372036854775807), (by decide : (-9223372036854775808 : Int) ≤ 0), (by decide : (0 : Int) ≤ 9223372036854775807), by decide⟩
  have wT : ∀ {s : ByteArray}, s.size ≤ 9223372036854775807 → wfV (vT s) := fun h => ⟨(by decide : (-9223372036854775808 : Int) ≤ 2), (by decide : (2 : Int) ≤ 9223372036854775807), (by decide : (-9223372036854775808 : Int) ≤ 0), (by decide : (0 : Int) ≤ 9223372036854775807), h⟩
  have wB : ∀ b, wfV (vB b) := fun b => by cases b <;> exact ⟨by decide, by decide, by decide, by decide, by decide⟩
  refine ⟨fun y hy => ?_, by have := rows_six r hr; omega⟩
  rcases List.mem_append.1 hr with hr | hr
  · obtain ⟨t, ht, hr⟩ := List.mem_flatMap.1 hr
    have hwt := hw.tabs t ht
    have g1 := hwt.id
    have g2 := hwt.head
    have g3 := hwt.len
    rcases List.mem_cons.1 hr with rfl | hr
    · simp only [tabRow, List.mem_cons, List.mem_nil_iff, or_false] at hy
      rcases hy with rfl | rfl | rfl | rfl | rfl | rfl
      · exact wN (by decide) (by decide)
      · exact wN (by omega) (by omega)
      · exact wZ
      · exact wT hwt.name
      · exact wN (by omega) (by omega)
      · exact wZ
    · obtain ⟨i, hi, rfl⟩ := List.mem_mapIdx.1 hr
      have hwc := hwt.cols _ (List.getElem_mem hi)
      simp only [colRow, List.mem_cons, List.mem_nil_iff, or_false] at hy
      rcases hy with rfl | rfl | rfl | rfl | rfl | rfl
      · exact wN (by decide) (by decide)
      · exact wN (by omega) (by omega)
      · exact wN (by omega) (by omega)
      · exact wT hwc.s
      · exact wN hwc.k1 hwc.k2
      · exact wB _
  · obtain ⟨t, ht, hr⟩ := List.mem_flatMap.1 hr
    have hwt := hw.idxs t ht
    have g1 := hwt.id
    have g2 := hwt.root
    have g3 := hwt.len
    have g4 := hwt.table
    rcases List.mem_cons.1 hr with rfl | hr
    · simp only [idxRow, List.mem_cons, List.mem_nil_iff, or_false] at hy
      rcases hy with rfl | rfl | rfl | rfl | rfl | rfl
      · exact wN (by decide) (by decide)
      · exact wN (by omega) (by omega)
      · exact wN (by omega) (by omega)
      · exact wT hwt.name
      · exact wN (by omega) (by omega)
      · exact wB _
    · obtain ⟨i, hi, rfl⟩ := List.mem_mapIdx.1 hr
      have hwc := hwt.cols _ (List.getElem_mem hi)
      simp only [keyRow, List.mem_cons, List.mem_nil_iff, or_false] at hy
      rcases hy with rfl | rfl | rfl | rfl | rfl | rfl
      · exact wN (by decide) (by decide)
      · exact wN (by omega) (by omega)
      · exact wN (by omega) (by omega)
      · exact wZ
      · exact wN hwc.1 hwc.2
      · exact wZ
end Go.Proofs.YtdjacjhojbkgjaaGreat.Ct
end
