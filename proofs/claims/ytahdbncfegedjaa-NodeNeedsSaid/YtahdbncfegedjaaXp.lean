/-
  Trees of pages: a page divided; the code's. Conditions: each theorem's own.
-/
import Derived.Test.YtahdbncfegedjaaXo

namespace Go.Proofs.Ytahdbncfegedjaa.Nd
open Go Go.K Go.Proofs Go.Proofs.Ytahdbncfegedjaa Go.Proofs.Ytahdbncfegedjaa.Pg
set_option linter.unusedVariables false
set_option linter.unusedSimpArgs false
set_option maxRecDepth 10000

abbrev noCell : PCell := ⟨false, 0, []⟩
def rowQ (p : Pag) (c : PCell) : List PCell := insQ p.kind p.cells c
def hfQ (p : Pag) (c : PCell) : Nat := halfQ p.kind (rowQ p c)
def midQ (p : Pag) (c : PCell) : PCell := (rowQ p c).getD (hfQ p c) noCell
def entQ (p : Pag) (c : PCell) : List UInt8 := keyQ p.kind (midQ p c)
def posQ (p : Pag) (c : PCell) : Nat := atQ p.kind p.cells c
def lcQ (p : Pag) (c : PCell) : List PCell := if p.kind = 2 ∧ posQ p c < hfQ p c then ((rowQ p c).take (hfQ p c)).eraseIdx (posQ p c) else (rowQ p c).take (hfQ p c)
def rcQ (p : Pag) (c : PCell) : List PCell := if p.kind = 2 then (if posQ p c < hfQ p c then (rowQ p c).drop (hfQ p c) else ((rowQ p c).drop (hfQ p c)).eraseIdx (posQ p c - hfQ p c)) else (rowQ p c).drop (hfQ p c + 1)
def rnQ (p : Pag) (c : PCell) : Nat := if p.kind = 2 then p.next else childOf (midQ p c)
def numQ (n : Nat) (root : Bool) (fs : List Nat) : Nat := if root then fs.headD 0 else n
def fs1 (root : Bool) (fs : List Nat) : List Nat := if root then fs.tail else fs
def frQ (root : Bool) (fs : List Nat) : Nat := (fs1 root fs).headD 0
def leftQ (p : Pag) (c : PCell) (root : Bool) (fs : List Nat) : Pag := ⟨p.kind, if root then 0 else p.lsn, if p.kind = 2 then frQ root fs else p.next, lcQ p c⟩
def rightQ (p : Pag) (c : PCell) : Pag := ⟨p.kind, 0, rnQ p c, rcQ p c⟩
def rootQ (p : Pag) (c : PCell) (fs : List Nat) : Pag := ⟨3, p.lsn, numQ 0 true fs, [upQ (entQ p c) (frQ true fs)]⟩
def divI (n : Nat) (p : Pag) (c : PCell) (root : Bool) (fs : List Nat) : List PImg := (if root then [⟨n, rootQ p c fs⟩] else []) ++ [⟨numQ n root fs, leftQ p c root fs⟩, ⟨frQ root fs, rightQ p c⟩]
structure DivOk (p : Pag) (c : PCell) : Prop where
  kind : p.kind = 2 ∨ p.kind = 3
  pos : 0 < p.cells.length
  len : p.cells.length ≤ 60
  data : ∀ x ∈ p.cells, x.data.length ≤ 180
  big : p.kind = 3 → ∀ x ∈ p.cells, 4 ≤ x.data.length
  cdata : c.data.length ≤ 1010
  cbig : p.kind = 3 → 4 ≤ c.data.length
theorem row_len (p : Pag) (c : PCell) : (rowQ p c).length = p.cells.length + 1 := by
  have hat : posQ p c ≤ p.cells.length := (List.takeWhile_sublist _).length_le
  unfold rowQ insQ
  unfold posQ at hat
  simp; omega
theorem row_mem {p : Pag} {c x : PCell} (h : x ∈ rowQ p c) : x = c ∨ x ∈ p.cells := by
  unfold rowQ insQ at h
  rcases List.mem_append.1 h with h | h
  · exact .inr (List.mem_of_mem_take h)
  · rcases List.mem_cons.1 h with h | h
    · exact .inl h
    · exact .inr (List.mem_of_mem_drop h)
theorem row_small {p : Pag} {c : PCell} (h : DivOk p c) : small (rowQ p c) := ⟨by rw [row_len]; have := h.len; omega, fun x hx => by
  rcases row_mem hx with rfl | hx
  · have := h.cdata; omega
  · have := h.data x hx; omega⟩
theorem row_big {p : Pag} {c : PCell} (h : DivOk p c) (h3 : p.kind = 3) : ∀ x ∈ rowQ p c, 4 ≤ x.data.length := fun x hx => by
  rcases row_mem hx with rfl | hx
  · exact h.cbig h3
  · exact h.big h3 x hx
theorem hf_lt {p : Pag} {c : PCell} : hfQ p c ≤ p.cells.length ∧ (p.kind = 3 → hfQ p c + 1 ≤ p.cells.length ∨ hfQ p c = 0) := by
  have hl := row_len p c
  unfold hfQ halfQ
  rw [hl]
  split <;> omega
theorem pos_le (p : Pag) (c : PCell) : posQ p c ≤ p.cells.length := (List.takeWhile_sublist _).length_le
theorem mid_at {p : Pag} {c : PCell} : (rowQ p c)[hfQ p c]? = some (midQ p c) := by
  have := (hf_lt (p := p) (c := c)).1
  have hl := row_len p c
  rw [midQ, List.getD_eq_getElem?_getD, List.getElem?_eq_getElem (by omega)]
  rfl
theorem mid_mem {p : Pag} {c : PCell} : midQ p c ∈ rowQ p c := List.mem_of_getElem? mid_at
theorem RowC.take {h : Base} {es : List (List Value)} {l : List PCell} (hr : RowC h es l) (k : Nat) : RowC h (es.take k) (l.take k) :=
  ⟨by simp [hr.1], fun e he => hr.2.1 e (List.mem_of_mem_take he), fun j c x hj hx => by
    rw [List.getElem?_take] at hj hx
    split at hj
    · rename_i hlt
      rw [if_pos hlt] at hx
      exact hr.2.2 j c x hj hx
    · cases hj⟩
theorem RowC.drop {h : Base} {es : List (List Value)} {l : List PCell} (hr : RowC h es l) (k : Nat) : RowC h (es.drop k) (l.drop k) :=
  ⟨by simp [hr.1], fun e he => hr.2.1 e (List.mem_of_mem_drop he), fun j c x hj hx => by
    rw [List.getElem?_drop] at hj hx
    exact hr.2.2 _ c x hj hx⟩
theorem RowC.app {h : Base} {es fs : List (List Value)} {l m : List PCell} (hr : RowC h es l) (hs : RowC h fs m) : RowC h (es ++ fs) (l ++ m) :=
  ⟨by simp [hr.1, hs.1], fun e he => by rcases List.mem_append.1 he with he | he; exact hr.2.1 e he; exact hs.2.1 e he, fun j c x hj hx => by
    by_cases hjl : j < l.length
    · rw [List.getElem?_append_left (by rw [hr.1]; exact hjl)] at hj
      rw [List.getElem?_append_left hjl] at hx
      exact hr.2.2 j c x hj hx
    · rw [List.getElem?_append_right (by rw [hr.1]; omega), hr.1] at hj
      rw [List.getElem?_append_right (by omega)] at hx
      exact hs.2.2 _ c x hj hx⟩
theorem RowC.erase {h : Base} {es : List (List Value)} {l : List PCell} (hr : RowC h es l) (i : Nat) : RowC h (es.take i ++ es.drop (i + 1)) (l.eraseIdx i) := by
  rw [List.eraseIdx_eq_take_drop_succ]
  exact RowC.app (RowC.take hr i) (RowC.drop hr (i + 1))
end Go.Proofs.Ytahdbncfegedjaa.Nd
