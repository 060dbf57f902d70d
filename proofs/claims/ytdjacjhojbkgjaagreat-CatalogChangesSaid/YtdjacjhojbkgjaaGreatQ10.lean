/-
  Tables, indexes, schemas: what they are in memory; a table by its number or its name, an index by its name: the document's. Conditions: each theorem's own.
-/
import Derived.Test.YtdjacjhojbkgjaaGreatQ9
import Derived.Test.YtdjacjhojbkgjaaGreatQ3
namespace Go.Proofs.YtdjacjhojbkgjaaGreat.Ct
open Go Go.K Go.Proofs Go.Proofs.YtdjacjhojbkgjaaGreat Go.Proofs.YtdjacjhojbkgjaaGreat.Rw
set_option linter.unusedVariables false
set_option linter.unusedSimpArgs false
set_option maxRecDepth 10000

structure PTab where
  id : Nat
  name : ByteArray
  cols : List Col
  head : Nat
  deriving DecidableEq
structure PIdx where
  id : Nat
  table : Nat
  name : ByteArray
  cols : List Int
  uniq : Bool
  root : Nat
  deriving DecidableEq
structure PSch where
  tabs : List PTab
  idxs : List PIdx
  deriving DecidableEq
abbrev noT : ByteArray := ⟨#[]⟩
abbrev zTab : PTab := ⟨0, noT, [], 0⟩
abbrev zIdx : PIdx := ⟨0, 0, noT, [], false, 0⟩
def iV (n : Int) : Value := .int .i64 n
def rowN (l : List Int) : List (List Value) := l.map fun n => [iV n]
def cTab (t : PTab) (v : Value) : List Value := [.int .u32 t.id, .string t.name, v, .int .u32 t.head]
def cIdx (x : PIdx) (v : Value) : List Value := [.int .u32 x.id, .int .u32 x.table, .string x.name, v, .bool x.uniq, .int .u32 x.root]
def TabC (h : Base) (t : PTab) (c : List Value) : Prop := ∃ v, c = cTab t v ∧ SL h 3 v (t.cols.map cC)
def IdxC (h : Base) (x : PIdx) (c : List Value) : Prop := ∃ v, c = cIdx x v ∧ SL h 1 v (rowN x.cols)
structure Each {α : Type} (R : α → List Value → Prop) (es : List (List Value)) (xs : List α) : Prop where
  len : es.length = xs.length
  at_ : ∀ (j : Nat) (c : List Value) (x : α), es[j]? = some c → xs[j]? = some x → R x c
theorem Each.get {α : Type} {R : α → List Value → Prop} {es : List (List Value)} {xs : List α} (h : Each R es xs) {j : Nat} {x : α} (hx : xs[j]? = some x) : ∃ c, es[j]? = some c ∧ R x c := by
  have hj := (List.getElem?_eq_some_iff.1 hx).1
  have he : es[j]? = some (es[j]'(by rw [h.len]; exact hj)) := List.getElem?_eq_getElem _
  exact ⟨_, he, h.at_ j _ x he hx⟩
def SchC (h : Base) (s : PSch) (cs : List Value) : Prop := ∃ vt vi ts is, cs = [vt, vi] ∧ SL h 4 vt ts ∧ Each (TabC h) ts s.tabs ∧ SL h 6 vi is ∧ Each (IdxC h) is s.idxs
structure wfTb (t : PTab) : Prop where
  id : t.id < 4294967296
  name : t.name.size ≤ 9223372036854775807
  cols : ∀ c ∈ t.cols, wfC c
  len : t.cols.length ≤ 4398046511104
  head : t.head < 4294967296
structure wfIx (x : PIdx) : Prop where
  id : x.id < 4294967296
  table : x.table < 4294967296
  name : x.name.size ≤ 9223372036854775807
  cols : ∀ n ∈ x.cols, -9223372036854775808 ≤ n ∧ n ≤ 9223372036854775807
  len : x.cols.length ≤ 17592186044416
  root : x.root < 4294967296
structure wfS (s : PSch) : Prop where
  tabs : ∀ t ∈ s.tabs, wfTb t
  idxs : ∀ x ∈ s.idxs, wfIx x
  lt : s.tabs.length ≤ 2513169434916
  li : s.idxs.length ≤ 2513169434916
theorem TabC.le {h h' : Base} {t : PTab} {c : List Value} (hc : TabC h t c) (hle : h.le h') : TabC h' t c := by
  obtain ⟨v, e, hs⟩ := hc
  exact ⟨v, e, hs.le hle⟩
theorem IdxC.le {h h' : Base} {x : PIdx} {c : List Value} (hc : IdxC h x c) (hle : h.le h') : IdxC h' x c := by
  obtain ⟨v, e, hs⟩ := hc
  exact ⟨v, e, hs.le hle⟩
theorem SchC.le {h h' : Base} {s : PSch} {c : List Value} (hc : SchC h s c) (hle : h.le h') : SchC h' s c := by
  obtain ⟨vt, vi, ts, is, e, h1, h2, h3, h4⟩ := hc
  exact ⟨vt, vi, ts, is, e, h1.le hle, ⟨h2.len, fun j c x a b => (h2.at_ j c x a b).le hle⟩, h3.le hle, ⟨h4.len, fun j c x a b => (h4.at_ j c x a b).le hle⟩⟩
theorem zTab_ok (h : Base) : TabC h zTab (cTab zTab (.slice none 0 0)) := ⟨_, rfl, .inl ⟨none, 0, rfl, rfl⟩⟩
theorem zIdx_ok (h : Base) : IdxC h zIdx (cIdx zIdx (.slice none 0 0)) := ⟨_, rfl, .inl ⟨none, 0, rfl, rfl⟩⟩
def FindP {α : Type} (R : α → List Value → Prop) (z : α) (o : Option α) (u : Value) : Prop := ∃ c, u = .tuple #[.agg c.toArray, .bool o.isSome] ∧ R (o.getD z) c
theorem find_take {α : Type} {p : α → Bool} {l : List α} {j : Nat} {x : α} (hn : (l.take j).find? p = none) (hx : l[j]? = some x) : (p x = true → l.find? p = some x) ∧ (p x = false → (l.take (j + 1)).find? p = none) := by
  obtain ⟨hj, he⟩ := List.getElem?_eq_some_iff.1 hx
  have e : l = l.take j ++ x :: l.drop (j + 1) := by rw [← he, ← List.drop_eq_getElem_cons hj, List.take_append_drop]
  constructor
  · intro hp
    have : l.find? p = (l.take j ++ x :: l.drop (j + 1)).find? p := by rw [← e]
    rw [this, List.find?_append, hn, List.find?_cons_of_pos hp]
    rfl
  · intro hp
    rw [List.take_succ_eq_append_getElem hj, he, List.find?_append, hn, List.find?_cons_of_neg (by rw [hp]; decide)]
    rfl
set_option maxHeartbeats 1000000 in
theorem RTable (h : Base) (cs : List Value) (s : PSch) (id : Nat) (hs : SchC h s cs) (hw : wfS s) :
    Tr Tryz.prog 70 [.agg cs.toArray, .int .u32 id] h [] (fun u h' H' => h' = h ∧ H' = [] ∧ FindP (TabC h) zTab (s.tabs.find? fun t => decide (t.id = id)) u) := by
  obtain ⟨vt, vi, ts, is, rfl, hvt, ht, hvi, hi⟩ := hs
  obtain ⟨ao, ca, rfl⟩ := hvt.len
  rw [ht.len] at hvt ⊢
  have hlt := hw.lt
  refine K.enter Tryz.func70 rfl (Nat.le_of_ble_eq_true rfl) (fun F => ?_)
  simp only [List.nil_append, List.cons_append]
  (repeat' (first | refine X.rq ?_ | (refine X.rc ?_ ?_ <;> intro hc <;> first | (exfalso; omega) | skip)))
  refine K.l_box rfl rfl rfl (fun B2 => ?_)
  refine K.l_alloc (Fx.zr rfl) rfl rfl (fun B4 => ?_)
  (repeat' (first | refine X.rq ?_ | (refine X.rc ?_ ?_ <;> intro hc <;> first | (exfalso; omega) | skip)))
  refine K.c_loop (σ := Nat) (fun j => [(1, .int .u32 id), (2, .pointer (some ⟨B2, 0, none⟩)), (4, .pointer (some ⟨B4, 0, none⟩)), (6, .int .i64 j)]) (fun _ => h) (fun _ => blk B4 37 (cTab zTab (.slice none 0 0)) :: blk B2 25 [.slice ao s.tabs.length ca, vi] :: F)
    (fun j => j ≤ s.tabs.length ∧ (s.tabs.take j).find? (fun t => decide (t.id = id)) = none) (fun j => s.tabs.length - j) 0 ⟨Nat.zero_le _, rfl⟩ (by repeat (first | exact K.Sub.nil _ | refine K.Sub.cons rfl ?_)) rfl rfl ?_
  rintro j ⟨hj, hn⟩ KL hKL
  by_cases hjl : j < s.tabs.length
  · have hx1 : s.tabs[j]? = some s.tabs[j] := List.getElem?_eq_getElem hjl
    generalize s.tabs[j] = t at hx1
    obtain ⟨hf1, hf2⟩ := find_take hn hx1
    obtain ⟨c, hc0, v, rfl, hcv⟩ := ht.get hx1
    obtain ⟨av, cv, rfl⟩ := hcv.len
    obtain ⟨bb, oo, rfl, hcx⟩ := hvt.at hc0
    (repeat' (first | refine X.rq ?_ | (refine X.rc ?_ ?_ <;> intro hc <;> first | (exfalso; omega) | skip)))
    refine K.s_pure (K.p_load (v := .int .u32 t.id) (Fx.agg rfl) rfl (Cels.up hcx).1) rfl ?_
    by_cases hid : t.id = id
    · rw [hf1 (decide_eq_true hid)]
      (repeat' (first | refine X.rq ?_ | (refine X.rc ?_ ?_ <;> intro hc <;> first | (exfalso; omega) | skip)))
      all_goals first | (exfalso; simp_all; done) | skip
      refine K.s_pure (K.p_loadM (Fx.agg rfl) rfl (Cels.up hcx) (Fx.sz rfl) rfl) rfl ?_
      refine X.stw ?_
      simp only [List.set_cons_zero, List.set_cons_succ, List.eraseIdx_cons_zero, List.eraseIdx_cons_succ, List.cons_append, List.nil_append]
      (repeat' (first | refine X.rq ?_ | (refine X.rc ?_ ?_ <;> intro hc <;> first | (exfalso; omega) | skip)))
      refine K.doneC (by first | exact Or.inl rfl | exact Or.inr rfl) (.cell rfl (Fx.agg rfl) (Fx.sz rfl) (by first | exact K.cels_own (pre := []) (post := []) 0 rfl rfl | exact K.cels_own (pre := []) (post := []) 1 rfl rfl | exact K.cels_own (pre := []) (post := []) 2 rfl rfl | exact K.cels_own (pre := []) (post := []) 3 rfl rfl | exact K.cels_own (pre := []) (post := []) 4 rfl rfl | exact K.cels_own (pre := []) (post := []) 5 rfl rfl) (.tmp rfl .nil)) (by first | exact K.Base.le.refl _ | assumption) (vs := [.agg (cTab t (.slice av _ cv)).toArray, .bool true]) (D := [_, _]) (H' := []) rfl ⟨rfl, rfl, _, rfl, _, rfl, hcv⟩
    · (repeat' (first | refine X.rq ?_ | (refine X.rc ?_ ?_ <;> intro hc <;> first | (exfalso; omega) | skip)))
      all_goals first | (exfalso; omega) | skip
      refine K.a_round hKL (j + 1) ⟨by omega, hf2 (decide_eq_false hid)⟩ (by repeat (first | exact K.Sub.nil _ | refine K.Sub.cons rfl ?_)) rfl rfl (by omega)
  · obtain rfl : j = s.tabs.length := by omega
    rw [List.take_length] at hn
    rw [hn]
    (repeat' (first | refine X.rq ?_ | (refine X.rc ?_ ?_ <;> intro hc <;> first | (exfalso; omega) | skip)))
    refine X.stw ?_
    simp only [List.set_cons_zero, List.set_cons_succ, List.eraseIdx_cons_zero, List.eraseIdx_cons_succ, List.cons_append, List.nil_append]
    (repeat' (first | refine X.rq ?_ | (refine X.rc ?_ ?_ <;> intro hc <;> first | (exfalso; omega) | skip)))
    refine K.doneC (by first | exact Or.inl rfl | exact Or.inr rfl) (.cell rfl (Fx.agg rfl) (Fx.sz rfl) (by first | exact K.cels_own (pre := []) (post := []) 0 rfl rfl | exact K.cels_own (pre := []) (post := []) 1 rfl rfl | exact K.cels_own (pre := []) (post := []) 2 rfl rfl | exact K.cels_own (pre := []) (post := []) 3 rfl rfl | exact K.cels_own (pre := []) (post := []) 4 rfl rfl | exact K.cels_own (pre := []) (post := []) 5 rfl rfl) (.tmp rfl .nil)) (by first | exact K.Base.le.refl _ | assumption) (vs := [.agg (cTab zTab (.slice none 0 0)).toArray, .bool false]) (D := [_, _]) (H' := []) rfl ⟨rfl, rfl, _, rfl, zTab_ok h⟩
set_option maxHeartbeats 1000000 in
theorem RNamed (h : Base) (cs : List Value) (s : PSch) (id : ByteArray) (hs : SchC h s cs) (hw : wfS s) :
    Tr Tryz.prog 41 [.agg cs.toArray, .string id] h [] (fun u h' H' => h' = h ∧ H' = [] ∧ FindP (TabC h) zTab (s.tabs.find? fun t => decide (t.name = id)) u) := by
  obtain ⟨vt, vi, ts, is, rfl, hvt, ht, hvi, hi⟩ := hs
  obtain ⟨ao, ca, rfl⟩ := hvt.len
  rw [ht.len] at hvt ⊢
  have hlt := hw.lt
  refine K.enter Tryz.func41 rfl (Nat.le_of_ble_eq_true rfl) (fun F => ?_)
  simp only [List.nil_append, List.cons_append]
  (repeat' (first | refine X.rq ?_ | (refine X.rc ?_ ?_ <;> intro hc <;> first | (exfalso; omega) | skip)))
  refine K.l_box rfl rfl rfl (fun B2 => ?_)
  refine K.l_alloc (Fx.zr rfl) rfl rfl (fun B4 => ?_)
  (repeat' (first | refine X.rq ?_ | (refine X.rc ?_ ?_ <;> intro hc <;> first | (exfalso; omega) | skip)))
  refine K.c_loop (σ := Nat) (fun j => [(1, .string id), (2, .pointer (some ⟨B2, 0, none⟩)), (4, .pointer (some ⟨B4, 0, none⟩)), (6, .int .i64 j)]) (fun _ => h) (fun _ => blk B4 37 (cTab zTab (.slice none 0 0)) :: blk B2 25 [.slice ao s.tabs.length ca, vi] :: F)
    (fun j => j ≤ s.tabs.length ∧ (s.tabs.take j).find? (fun t => decide (t.name = id)) = none) (fun j => s.tabs.length - j) 0 ⟨Nat.zero_le _, rfl⟩ (by repeat (first | exact K.Sub.nil _ | refine K.Sub.cons rfl ?_)) rfl rfl ?_
  rintro j ⟨hj, hn⟩ KL hKL
  by_cases hjl : j < s.tabs.length
  · have hx1 : s.tabs[j]? = some s.tabs[j] := List.getElem?_eq_getElem hjl
    generalize s.tabs[j] = t at hx1
    obtain ⟨hf1, hf2⟩ := find_take hn hx1
    obtain ⟨c, hc0, v, rfl, hcv⟩ := ht.get hx1
    obtain ⟨av, cv, rfl⟩ := hcv.len
    obtain ⟨bb, oo, rfl, hcx⟩ := hvt.at hc0
    (repeat' (first | refine X.rq ?_ | (refine X.rc ?_ ?_ <;> intro hc <;> first | (exfalso; omega) | skip)))
    refine K.s_pure (K.p_load (v := .string t.name) (Fx.agg rfl) rfl (Cels.up hcx).2.1) rfl ?_
    by_cases hid : t.name = id
    · rw [hf1 (decide_eq_true hid)]
      (repeat' (first | refine X.rq ?_ | (refine X.rc ?_ ?_ <;> intro hc <;> first | (exfalso; omega) | skip)))
      all_goals first | (exfalso; simp_all; done) | skip
      refine K.s_pure (K.p_loadM (Fx.agg rfl) rfl (Cels.up hcx) (Fx.sz rfl) rfl) rfl ?_
      refine X.stw ?_
      simp only [List.set_cons_zero, List.set_cons_succ, List.eraseIdx_cons_zero, List.eraseIdx_cons_succ, List.cons_append, List.nil_append]
      (repeat' (first | refine X.rq ?_ | (refine X.rc ?_ ?_ <;> intro hc <;> first | (exfalso; omega) | skip)))
      refine K.doneC (by first | exact Or.inl rfl | exact Or.inr rfl) (.cell rfl (Fx.agg rfl) (Fx.sz rfl) (by first | exact K.cels_own (pre := []) (post := []) 0 rfl rfl | exact K.cels_own (pre := []) (post := []) 1 rfl rfl | exact K.cels_own (pre := []) (post := []) 2 rfl rfl | exact K.cels_own (pre := []) (post := []) 3 rfl rfl | exact K.cels_own (pre := []) (post := []) 4 rfl rfl | exact K.cels_own (pre := []) (post := []) 5 rfl rfl) (.tmp rfl .nil)) (by first | exact K.Base.le.refl _ | assumption) (vs := [.agg (cTab t (.slice av _ cv)).toArray, .bool true]) (D := [_, _]) (H' := []) rfl ⟨rfl, rfl, _, rfl, _, rfl, hcv⟩
    · (repeat' (first | refine X.rq ?_ | (refine X.rc ?_ ?_ <;> intro hc <;> first | (exfalso; omega) | skip)))
      all_goals first | (exfalso; simp_all; done) | skip
      refine K.a_round hKL (j + 1) ⟨by omega, hf2 (decide_eq_false hid)⟩ (by repeat (first | exact K.Sub.nil _ | refine K.Sub.cons rfl ?_)) rfl rfl (by omega)
  · obtain rfl : j = s.tabs.length := by omega
    rw [List.take_length] at hn
    rw [hn]
    (repeat' (first | refine X.rq ?_ | (refine X.rc ?_ ?_ <;> intro hc <;> first | (exfalso; omega) | skip)))
    refine X.stw ?_
    simp only [List.set_cons_zero, List.set_cons_succ, List.eraseIdx_cons_zero, List.eraseIdx_cons_succ, List.cons_append, List.nil_append]
    (repeat' (first | refine X.rq ?_ | (refine X.rc ?_ ?_ <;> intro hc <;> first | (exfalso; omega) | skip)))
    refine K.doneC (by first | exact Or.inl rfl | exact Or.inr rfl) (.cell rfl (Fx.agg rfl) (Fx.sz rfl) (by first | exact K.cels_own (pre := []) (post := []) 0 rfl rfl | exact K.cels_own (pre := []) (post := []) 1 rfl rfl | exact K.cels_own (pre := []) (post := []) 2 rfl rfl | exact K.cels_own (pre := []) (post := []) 3 rfl rfl | exact K.cels_own (pre := []) (post := []) 4 rfl rfl | exact K.cels_own (pre := []) (post := []) 5 rfl rfl) (.tmp rfl .nil)) (by first | exact K.Base.le.refl _ | assumption) (vs := [.agg (cTab zTab (.slice none 0 0)).toArray, .bool false]) (D := [_, _]) (H' := []) rfl ⟨rfl, rfl, _, rfl, zTab_ok h⟩
set_option maxHeartbeats 1000000 in
theorem RIndex (h : Base) (cs : List Value) (s : PSch) (id : ByteArray) (hs : SchC h s cs) (hw : wfS s) :
    Tr Tryz.prog 42 [.agg cs.toArray, .string id] h [] (fun u h' H' => h' = h ∧ H' = [] ∧ FindP (IdxC h) zIdx (s.idxs.find? fun t => decide (t.name = id)) u) := by
  obtain ⟨vt, vi, ts, is, rfl, hvt, ht, hvi, hi⟩ := hs
  obtain ⟨ao, ca, rfl⟩ := hvi.len
  rw [hi.len] at hvi ⊢
  have hlt := hw.li
  refine K.enter Tryz.func42 rfl (Nat.le_of_ble_eq_true rfl) (fun F => ?_)
  simp only [List.nil_append, List.cons_append]
  (repeat' (first | refine X.rq ?_ | (refine X.rc ?_ ?_ <;> intro hc <;> first | (exfalso; omega) | skip)))
  refine K.l_box rfl rfl rfl (fun B2 => ?_)
  refine K.l_alloc (Fx.zr rfl) rfl rfl (fun B4 => ?_)
  (repeat' (first | refine X.rq ?_ | (refine X.rc ?_ ?_ <;> intro hc <;> first | (exfalso; omega) | skip)))
  refine K.c_loop (σ := Nat) (fun j => [(1, .string id), (2, .pointer (some ⟨B2, 0, none⟩)), (4, .pointer (some ⟨B4, 0, none⟩)), (6, .int .i64 j)]) (fun _ => h) (fun _ => blk B4 43 (cIdx zIdx (.slice none 0 0)) :: blk B2 25 [vt, .slice ao s.idxs.length ca] :: F)
    (fun j => j ≤ s.idxs.length ∧ (s.idxs.take j).find? (fun t => decide (t.name = id)) = none) (fun j => s.idxs.length - j) 0 ⟨Nat.zero_le _, rfl⟩ (by repeat (first | exact K.Sub.nil _ | refine K.Sub.cons rfl ?_)) rfl rfl ?_
  rintro j ⟨hj, hn⟩ KL hKL
  by_cases hjl : j < s.idxs.length
  · have hx1 : s.idxs[j]? = some s.idxs[j] := List.getElem?_eq_getElem hjl
    generalize s.idxs[j] = t at hx1
    obtain ⟨hf1, hf2⟩ := find_take hn hx1
    obtain ⟨c, hc0, v, rfl, hcv⟩ := hi.get hx1
    obtain ⟨av, cv, rfl⟩ := hcv.len
    obtain ⟨bb, oo, rfl, hcx⟩ := hvi.at hc0
    (repeat' (first | refine X.rq ?_ | (refine X.rc ?_ ?_ <;> intro hc <;> first | (exfalso; omega) | skip)))
    refine K.s_pure (K.p_load (v := .string t.name) (Fx.agg rfl) rfl (Cels.up hcx).2.2.1) rfl ?_
    by_cases hid : t.name = id
    · rw [hf1 (decide_eq_true hid)]
      (repeat' (first | refine X.rq ?_ | (refine X.rc ?_ ?_ <;> intro hc <;> first | (exfalso; omega) | skip)))
      all_goals first | (exfalso; simp_all; done) | skip
      refine K.s_pure (K.p_loadM (Fx.agg rfl) rfl (Cels.up hcx) (Fx.sz rfl) rfl) rfl ?_
      refine X.stw ?_
      simp only [List.set_cons_zero, List.set_cons_succ, List.eraseIdx_cons_zero, List.eraseIdx_cons_succ, List.cons_append, List.nil_append]
      (repeat' (first | refine X.rq ?_ | (refine X.rc ?_ ?_ <;> intro hc <;> first | (exfalso; omega) | skip)))
      refine K.doneC (by first | exact Or.inl rfl | exact Or.inr rfl) (.cell rfl (Fx.agg rfl) (Fx.sz rfl) (by first | exact K.cels_own (pre := []) (post := []) 0 rfl rfl | exact K.cels_own (pre := []) (post := []) 1 rfl rfl | exact K.cels_own (pre := []) (post := []) 2 rfl rfl | exact K.cels_own (pre := []) (post := []) 3 rfl rfl | exact K.cels_own (pre := []) (post := []) 4 rfl rfl | exact K.cels_own (pre := []) (post := []) 5 rfl rfl) (.tmp rfl .nil)) (by first | exact K.Base.le.refl _ | assumption) (vs := [.agg (cIdx t (.slice av _ cv)).toArray, .bool true]) (D := [_, _]) (H' := []) rfl ⟨rfl, rfl, _, rfl, _, rfl, hcv⟩
    · (repeat' (first | refine X.rq ?_ | (refine X.rc ?_ ?_ <;> intro hc <;> first | (exfalso; omega) | skip)))
      all_goals first | (exfalso; simp_all; done) | skip
      refine K.a_round hKL (j + 1) ⟨by omega, hf2 (decide_eq_false hid)⟩ (by repeat (first | exact K.Sub.nil _ | refine K.Sub.cons rfl ?_)) rfl rfl (by omega)
  · obtain rfl : j = s.idxs.length := by omega
    rw [List.take_length] at hn
    rw [hn]
    (repeat' (first | refine X.rq ?_ | (refine X.rc ?_ ?_ <;> intro hc <;> first | (exfalso; omega) | skip)))
    refine X.stw ?_
    simp only [List.set_cons_zero, List.set_cons_succ, List.eraseIdx_cons_zero, List.eraseIdx_cons_succ, List.cons_append, List.nil_append]
    (repeat' (first | refine X.rq ?_ | (refine X.rc ?_ ?_ <;> intro hc <;> first | (exfalso; omega) | skip)))
    refine K.doneC (by first | exact Or.inl rfl | exact Or.inr rfl) (.cell rfl (Fx.agg rfl) (Fx.sz rfl) (by first | exact K.cels_own (pre := []) (post := []) 0 rfl rfl | exact K.cels_own (pre := []) (post := []) 1 rfl rfl | exact K.cels_own (pre := []) (post := []) 2 rfl rfl | exact K.cels_own (pre := []) (post := []) 3 rfl rfl | exact K.cels_own (pre := []) (post := []) 4 rfl rfl | exact K.cels_own (pre := []) (post := []) 5 rfl rfl) (.tmp rfl .nil)) (by first | exact K.Base.le.refl _ | assumption) (vs := [.agg (cIdx zIdx (.slice none 0 0)).toArray, .bool false]) (D := [_, _]) (H' := []) rfl ⟨rfl, rfl, _, rfl, zIdx_ok h⟩
end Go.Proofs.YtdjacjhojbkgjaaGreat.Ct
