/-
  KI: rows of structs that are owned and open: their fields read and stored; several assertions as one, changed in part. Generic over the program. Conditions: none.
-/
import Derived.Test.YtjgfgpdkcojnmaaKH
namespace Go.K
set_option linter.unusedVariables false
set_option linter.unusedSimpArgs false

theorem flat_get {s i j : Nat} {es : List (List Value)} {sp e : List Value} {u : Value} (hz : ∀ e ∈ es, e.length = s) (hi : es[i]? = some e) (hj : e[j]? = some u) : (es.flatten ++ sp)[i * s + j]? = some u := by
  obtain ⟨hlt, he⟩ := List.getElem?_eq_some_iff.1 hi
  obtain ⟨p1, p2⟩ := flat_parts es i hlt hz
  have hjl := (List.getElem?_eq_some_iff.1 hj).1
  rw [p1, he, List.append_assoc, List.append_assoc, List.getElem?_append_right (by omega), p2, Nat.add_sub_cancel_left, List.getElem?_append_left hjl, hj]
theorem flat_set {s i j : Nat} {es : List (List Value)} {sp e : List Value} {u : Value} (hz : ∀ e ∈ es, e.length = s) (hi : es[i]? = some e) (hj : j < s) : (es.flatten ++ sp).set (i * s + j) u = (es.set i (e.set j u)).flatten ++ sp := by
  obtain ⟨hlt, he⟩ := List.getElem?_eq_some_iff.1 hi
  obtain ⟨p1, p2⟩ := flat_parts es i hlt hz
  have hel : e.length = s := he ▸ hz _ (List.getElem_mem hlt)
  have hz' : ∀ x ∈ es.set i (e.set j u), x.length = s := fun x hx => by
    rcases List.mem_or_eq_of_mem_set hx with h' | h'
    · exact hz x h'
    · rw [h', List.length_set, hel]
  obtain ⟨q1, q2⟩ := flat_parts (es.set i (e.set j u)) i (by simpa using hlt) hz'
  rw [List.take_set_of_le (Nat.le_refl _), List.drop_set_of_lt (by omega), List.getElem_set_self] at q1
  rw [p1, q1, he]
  simp only [List.append_assoc]
  rw [List.set_append_right _ _ (by omega), p2, Nat.add_sub_cancel_left, List.set_append_left _ _ (by omega)]
theorem idsOf_sub {A B : List Asrt} (hs : B.Sublist A) : (idsOf B).Sublist (idsOf A) := by
  induction hs with
  | slnil => exact List.Sublist.refl _
  | cons a _ ih => simp only [idsOf, List.flatMap_cons]; exact ih.trans (List.sublist_append_right _ _)
  | cons_cons a _ ih => simp only [idsOf, List.flatMap_cons]; exact (List.Sublist.refl _).append ih
theorem Ok.allLe {h : Base} {A B F : List Asrt} {w : World} (h1 : ∀ X ∈ B, X ∈ A ∨ ∀ w, X.holds w) (h2 : (idsOf B).Sublist (idsOf A)) (ok : Ok h (all A :: F) w) : Ok h (all B :: F) w := by
  have hs : (idsOf (all B :: F)).Sublist (idsOf (all A :: F)) := by
    simp only [idsOf, List.flatMap_cons]
    exact h2.append (List.Sublist.refl _)
  refine ⟨ok.os, ok.tape, ok.output, ⟨ok.sat.imm, fun X hX => ?_⟩, ok.nd.sublist hs, fun b hb => ok.dj b (hs.subset hb)⟩
  rcases List.mem_cons.1 hX with rfl | hX'
  · intro Y hY
    rcases h1 Y hY with h' | h'
    · exact ok.sat.own (all A) (List.mem_cons_self ..) Y h'
    · exact h' w
  · exact ok.sat.own X (List.mem_cons_of_mem _ hX')
theorem Ok.allSub {h : Base} {A B F : List Asrt} {w : World} (hs : B.Sublist A) (ok : Ok h (all A :: F) w) : Ok h (all B :: F) w := ok.allLe (fun X hX => .inl (hs.subset hX)) (idsOf_sub hs)
theorem ids_set {N : Asrt} (hN : N.ids = []) : ∀ (A : List Asrt) (i : Nat), (idsOf (A.set i N)).Sublist (idsOf A)
  | [], _ => List.Sublist.refl _
  | a :: A, 0 => by simp only [idsOf, List.set_cons_zero, List.flatMap_cons, hN, List.nil_append]; exact List.sublist_append_right _ _
  | a :: A, i + 1 => by simp only [idsOf, List.set_cons_succ, List.flatMap_cons]; exact (List.Sublist.refl _).append (ids_set hN A i)
/-- One of them is nothing from now on. -/
theorem Ok.allSet {h : Base} {A F : List Asrt} {w : World} {T s : Nat} (i : Nat) (ok : Ok h (all A :: F) w) : Ok h (all (A.set i (bufA T s none 0 0 [])) :: F) w := ok.allLe (fun X hX => by
  rcases List.mem_or_eq_of_mem_set hX with h' | h'
  · exact .inl h'
  · subst h'; exact .inr fun w => ⟨rfl, rfl, rfl⟩) (ids_set rfl A i)
theorem Ok.allPerm {h : Base} {A B F : List Asrt} {w : World} (hp : A.Perm B) (ok : Ok h (all A :: F) w) : Ok h (all B :: F) w :=
  Ok.all_iff.2 ((Ok.all_iff.1 ok).perm (hp.append_right F))
theorem Ok.allCons {h : Base} {A : Asrt} {Hs F : List Asrt} {w : World} (ok : Ok h (A :: all Hs :: F) w) : Ok h (all (A :: Hs) :: F) w := by
  have ok1 := Ok.all_iff.1 (ok.perm (List.Perm.swap _ _ _))
  refine Ok.all_iff.2 (ok1.perm ?_)
  exact List.perm_middle
/-- One of them is another from now on. -/
theorem Ok.allPut {h : Base} {A : Asrt} {Hs F : List Asrt} {w : World} {i : Nat} (hi : i < Hs.length) (ok : Ok h (A :: all Hs :: F) w) : Ok h (all (Hs.set i A) :: F) w := by
  have ok1 := (Ok.allCons ok).allSub (B := A :: Hs.eraseIdx i) (List.Sublist.cons_cons _ (List.eraseIdx_sublist ..))
  have hp := at_perm (l := Hs.set i A) (i := i) (A := A) (by rw [List.getElem?_set_self hi])
  rw [List.eraseIdx_set_eq] at hp
  exact ok1.allPerm hp.symm
section
variable {P : Program} {n : Nat} {Q : Exit → Act → World → Prop} {E : Env} {h h' h0 : Base} {H K R F : List Asrt} {ops : Array Oper} {rest : List Oper}
variable {op : Op} {t t' ty : TypeId} {ps : String} {af : Array Edge} {d i : Nat} {v : Value} {x y : Operand} {dst : Option Nat} {g : Option (Nat × Bool)}
theorem AT.allSub {q : Exit} {A B : List Asrt} (hs : B.Sublist A) (hx : AT P n Q q E h (all B :: F)) : AT P n Q q E h (all A :: F) := ⟨fun a w fa ok => hx.run a w fa (ok.allSub hs)⟩
theorem WL.allSub {L : List Oper} {A B : List Asrt} (hs : B.Sublist A) (hx : WL P n ops Q L E h (all B :: F)) : WL P n ops Q L E h (all A :: F) := ⟨fun a w fa ok => hx.run a w fa (ok.allSub hs)⟩
theorem AT.allSet {q : Exit} {A : List Asrt} (T s i : Nat) (hx : AT P n Q q E h (all (A.set i (bufA T s none 0 0 [])) :: F)) : AT P n Q q E h (all A :: F) := ⟨fun a w fa ok => hx.run a w fa (ok.allSet i)⟩
theorem WL.allSet {L : List Oper} {A : List Asrt} (T s i : Nat) (hx : WL P n ops Q L E h (all (A.set i (bufA T s none 0 0 [])) :: F)) : WL P n ops Q L E h (all A :: F) := ⟨fun a w fa ok => hx.run a w fa (ok.allSet i)⟩
theorem WC.allSet {c : Code} {A : List Asrt} (T s i : Nat) (hx : WC P n c Q E h (all (A.set i (bufA T s none 0 0 [])) :: F)) : WC P n c Q E h (all A :: F) := ⟨fun a w fa ok => hx.run a w fa (ok.allSet i)⟩
theorem AT.allPut {q : Exit} {A : Asrt} {Hs : List Asrt} {i : Nat} (hi : i < Hs.length) (hx : AT P n Q q E h (all (Hs.set i A) :: F)) : AT P n Q q E h (A :: all Hs :: F) := ⟨fun a w fa ok => hx.run a w fa (ok.allPut hi)⟩
theorem WL.allPut {L : List Oper} {A : Asrt} {Hs : List Asrt} {i : Nat} (hi : i < Hs.length) (hx : WL P n ops Q L E h (all (Hs.set i A) :: F)) : WL P n ops Q L E h (A :: all Hs :: F) := ⟨fun a w fa ok => hx.run a w fa (ok.allPut hi)⟩
theorem WL.allCons {L : List Oper} {A : Asrt} {Hs : List Asrt} (hx : WL P n ops Q L E h (all (A :: Hs) :: F)) : WL P n ops Q L E h (A :: all Hs :: F) := ⟨fun a w fa ok => hx.run a w fa ok.allCons⟩
theorem AT.allCons {q : Exit} {A : Asrt} {Hs : List Asrt} (hx : AT P n Q q E h (all (A :: Hs) :: F)) : AT P n Q q E h (A :: all Hs :: F) := ⟨fun a w fa ok => hx.run a w fa ok.allCons⟩
/-- A field of an element of an open row. -/
theorem cel_row {b T s i j o : Nat} {es : List (List Value)} {sp e : List Value} {u : Value} {fz : Nat × Nat} (m : Nat) (hm : K[m]? = some (blkF b T (es.flatten ++ sp) fz)) (hz : ∀ e ∈ es, e.length = s) (hi : es[i]? = some e) (hj : e[j]? = some u) (ho : o = i * s + j) : Cel h K b o u := by
  subst ho
  exact cel_own m hm (flat_get hz hi hj)
theorem cels_row {b T s i o : Nat} {es : List (List Value)} {sp e : List Value} {fz : Nat × Nat} (m : Nat) (hm : K[m]? = some (blkF b T (es.flatten ++ sp) fz)) (hz : ∀ e ∈ es, e.length = s) (hi : es[i]? = some e) (ho : o = i * s) : Cels h K b o e := by
  subst ho
  exact cels_of fun j u hj => cel_row m hm hz hi hj rfl
theorem l_storeFld {b T s i j o : Nat} {es : List (List Value)} {sp e : List Value} {u : Value} {fz : Nat × Nat} (hs : szOf P t = some 1) (hx : lkO E x = some (.pointer (some ⟨b, o, none⟩))) (hy : lkO E y = some u) (hv : oneCell u = true)
    (hz : ∀ e ∈ es, e.length = s) (hi : es[i]? = some e) (hj : j < s) (ho : o = i * s + j) (hf : Free fz (es.length * s)) (hk : WL P n ops Q rest E h (blkF b T ((es.set i (e.set j u)).flatten ++ sp) fz :: H)) :
    WL P n ops Q (⟨none, .store t x y, ty, ps, af, none⟩ :: rest) E h (blkF b T (es.flatten ++ sp) fz :: H) := by
  subst ho
  have hlt := (List.getElem?_eq_some_iff.1 hi).1
  have hle : (i + 1) * s ≤ es.length * s := Nat.mul_le_mul_right _ hlt
  rw [Nat.add_mul, Nat.one_mul] at hle
  refine l_store1 hs hx hy hv ?_ (hf _ (by omega)) (flat_set hz hi hj) hk
  have : (es.flatten ++ sp).length = es.length * s + sp.length := by rw [List.length_append, flatten_len es hz]
  rw [this, Nat.blt_eq]; omega
end
end Go.K
