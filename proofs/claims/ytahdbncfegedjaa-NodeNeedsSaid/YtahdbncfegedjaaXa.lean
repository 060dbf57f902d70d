/-
  Trees of pages: what is told of pages; Get. Conditions: each theorem's own.
-/
import Derived.Test.YtahdbncfegedjaaFg
import Derived.Test.YtahdbncfegedjaaKS

namespace Go.Proofs.Ytahdbncfegedjaa.Nd
open Go Go.K Go.Proofs Go.Proofs.Ytahdbncfegedjaa Go.Proofs.Ytahdbncfegedjaa.Pg
set_option linter.unusedVariables false
set_option linter.unusedSimpArgs false
set_option maxRecDepth 10000

structure PImg where
  page : Nat
  to : Pag
  deriving DecidableEq
structure PTree where
  pages : List PImg
  bad : Nat
  err : Int
def ImgC (h : Base) (c : List Value) (x : PImg) : Prop := x.page < 4294967296 ∧ ∃ cs, c = .int .u32 x.page :: cs ∧ PagC h cs x.to
def ImgsV (h : Base) (iv : Value) (l : List PImg) : Prop := ∃ es, SL h 5 iv es ∧ es.length = l.length ∧ ∀ (j : Nat) c x, es[j]? = some c → l[j]? = some x → ImgC h c x
theorem ImgC.le {h h' : Base} (hle : h.le h') {c : List Value} {x : PImg} (hc : ImgC h c x) : ImgC h' c x := by
  obtain ⟨a, cs, b, d⟩ := hc
  exact ⟨a, cs, b, d.le hle⟩
theorem ImgsV.le {h h' : Base} (hle : h.le h') {v : Value} {l : List PImg} (hc : ImgsV h v l) : ImgsV h' v l := by
  obtain ⟨es, a, b, c⟩ := hc
  exact ⟨es, a.le hle, b, fun j c' x hj hx => (c j c' x hj hx).le hle⟩
abbrev cT (t : PTree) (pv : Value) : List Value := [pv, .int .u32 t.bad, .int .i64 t.err]
def TreeC (h : Base) (cs : List Value) (t : PTree) : Prop := t.bad < 4294967296 ∧ in64 t.err ∧ t.pages.length ≤ 9223372036854775807 ∧ ∃ pv, cs = cT t pv ∧ ImgsV h pv t.pages
theorem TreeC.le {h h' : Base} (hle : h.le h') {cs : List Value} {t : PTree} (hc : TreeC h cs t) : TreeC h' cs t := by
  obtain ⟨a, b, c, pv, d, e⟩ := hc
  exact ⟨a, b, c, pv, d, e.le hle⟩
abbrev noPag : Pag := ⟨0, 0, 0, []⟩
theorem SL.nil {h : Base} {sz : Nat} : SL h sz (.slice none 0 0) [] := .inl ⟨_, _, rfl, rfl⟩
theorem noPag_c (h : Base) : PagC h (cP noPag (.slice none 0 0)) noPag :=
  ⟨⟨by decide, by decide, by decide, by decide⟩, _, rfl, [], SL.nil, rfl, fun j c x hj => by simp at hj⟩

/-- What is told of a page. -/
abbrev GetQ := Nat → Except Int Pag
def treeG (t : PTree) : GetQ := fun n => if t.err ≠ 0 ∧ n = t.bad then .error t.err else match t.pages.find? fun x => decide (x.page = n) with
  | some x => .ok x.to
  | none => .error 2
/-- What is told of one page, as two values. -/
def GetR (h : Base) (r : Except Int Pag) (v : Value) : Prop := ∃ p cs e, v = .tuple #[.agg cs.toArray, .int .i64 e] ∧ PagC h cs p ∧ in64 e ∧ ((e = 0 ∧ r = .ok p) ∨ (e ≠ 0 ∧ r = .error e))

theorem find_at {α : Type} {p : α → Bool} : ∀ {l : List α} {j : Nat} {x : α}, l[j]? = some x → p x = true → (∀ (i : Nat) y, i < j → l[i]? = some y → p y = false) → l.find? p = some x
  | [], j, x, hj, _, _ => by simp at hj
  | y :: l, 0, x, hj, hx, _ => by simp at hj; subst hj; simp [hx]
  | y :: l, j + 1, x, hj, hx, hno => by
    have h0 := hno 0 y (by omega) rfl
    rw [List.find?_cons_of_neg (by simp [h0])]
    exact find_at (by simpa using hj) hx fun i z hi hz => hno (i + 1) z (by omega) (by simpa using hz)
theorem find_no {α : Type} {p : α → Bool} {l : List α} (h : ∀ (i : Nat) y, l[i]? = some y → p y = false) : l.find? p = none := by
  rw [List.find?_eq_none]
  intro x hx
  obtain ⟨i, hi⟩ := List.mem_iff_getElem?.1 hx
  simp [h i x hi]
theorem TGet (h : Base) (cs : List Value) (t : PTree) (n : Nat) (hx : TreeC h cs t) (hn : n < 4294967296) :
    Tr Try.prog 10 [.agg cs.toArray, .int .u32 n] h [] (fun v h' H' => h' = h ∧ H' = [] ∧ GetR h (treeG t n) v) := by
  obtain ⟨hb, he, hpl, pv, rfl, es, hv, hel, hr⟩ := hx
  obtain ⟨ao, ca, rfl⟩ := hv.len
  rw [hel] at hv ⊢
  obtain ⟨l, bd, er⟩ := t
  dsimp only at hb he hpl hv hel hr ⊢
  dsimp only [cT]
  refine K.enter Try.func10 rfl (Nat.le_of_ble_eq_true rfl) (fun F => ?_)
  (repeat' (first | refine X.rq ?_ | (refine X.rc ?_ ?_ <;> intro hc <;> first | (exfalso; omega) | skip)))
  refine K.l_box rfl rfl rfl (fun B => ?_)
  refine K.l_alloc (Fx.zr rfl) rfl rfl (fun B2 => ?_)
  refine K.s_pure (K.p_assign rfl) rfl ?_
  refine K.l_nil ?_
  refine K.a_then ?_
  refine K.c_seq ?_
  refine K.c_join (β := Unit) (fun _ => [(1, .int .u32 n), (2, .pointer (some ⟨B, 0, none⟩)), (4, .pointer (some ⟨B2, 0, none⟩))]) (fun _ => h) (fun _ => blk B2 55 (cP noPag (.slice none 0 0)) :: blk B 26 [.slice ao l.length ca, .int .u32 bd, .int .i64 er] :: F) (fun _ => ¬ (er ≠ 0 ∧ n = bd)) (fun KJ hJ => ?_) ?_
  · (repeat' (first | refine X.rq ?_ | (refine X.rc ?_ ?_ <;> intro hc <;> first | (exfalso; omega) | skip)))
    all_goals first | exact K.a_join hJ () (by omega) (by repeat (first | exact K.Sub.nil _ | refine K.Sub.cons rfl ?_)) rfl rfl | skip
    have he0 : er ≠ 0 := by assumption
    have hnb : n = bd := by omega
    refine X.draw ([blk B2 55 (cP noPag (.slice none 0 0)),blk B 26 [.slice ao l.length ca, .int .u32 bd, .int .i64 er]]) [] (.pu 0 (.pu 1 (.st 2 (.on 3 (.pu 4 .nil))))) ?_
    refine K.d_pu rfl (fun _ _ => X.bd) rfl ?_
    refine K.d_pu rfl (fun _ _ => X.fa) rfl ?_
    refine K.d_st rfl X.ld rfl ?_
    refine K.d_on rfl (fun KK hKK => ?_)
    refine X.stw ?_
    refine K.l_nil ?_
    refine X.onE hKK ?_
    refine K.d_pu rfl (fun _ _ => X.sg) rfl ?_
    refine K.d_nil ?_
    simp only [List.set_cons_zero, List.set_cons_succ, List.eraseIdx_cons_zero, List.eraseIdx_cons_succ, List.cons_append, List.nil_append]
    (repeat' (first | refine X.rq ?_ | (refine X.rc ?_ ?_ <;> intro hc <;> first | (exfalso; omega) | skip)))
    refine K.doneC (vs := [.agg (cP noPag (.slice none 0 0)).toArray, .int .i64 er]) (by first | exact Or.inl rfl | exact Or.inr rfl) (.cell rfl (Fx.agg rfl) (Fx.sz rfl) (by exact K.cels_own (pre := []) (post := []) 0 rfl rfl) (.tmp rfl .nil)) (K.Base.le.refl _) (D := [_, _]) (H' := []) rfl ⟨rfl, rfl, _, _, _, rfl, noPag_c _, he, .inr ⟨he0, ?_⟩⟩
    unfold treeG
    rw [if_pos ⟨he0, hnb⟩]
  · rintro _ hbad
    (repeat' (first | refine X.rq ?_ | (refine X.rc ?_ ?_ <;> intro hc <;> first | (exfalso; omega) | skip)))
    refine K.c_loop (σ := Nat) (fun j => [(1, .int .u32 n), (2, .pointer (some ⟨B, 0, none⟩)), (4, .pointer (some ⟨B2, 0, none⟩)), (6, .int .i64 j)]) (fun _ => h) (fun _ => blk B2 55 (cP noPag (.slice none 0 0)) :: blk B 26 [.slice ao l.length ca, .int .u32 bd, .int .i64 er] :: F) (fun j => j ≤ l.length ∧ ∀ (i : Nat) x, i < j → l[i]? = some x → x.page ≠ n) (fun j => l.length - j) 0 ⟨Nat.zero_le _, fun i x hi => by omega⟩ (by repeat (first | exact K.Sub.nil _ | refine K.Sub.cons rfl ?_)) rfl rfl ?_
    rintro j ⟨hj, hno⟩ KL hKL
    by_cases hjl : j < l.length
    · have hc1 : es[j]? = some (es[j]'(by omega)) := List.getElem?_eq_getElem (by omega)
      have hc0 : es[((j : Nat) : Int).toNat]? = some (es[j]'(by omega)) := by rw [Int.toNat_natCast]; exact hc1
      have he1 : l[j]? = some l[j] := List.getElem?_eq_getElem hjl
      generalize es[j]'(by omega) = c at hc0 hc1
      generalize l[j] = x at he1
      obtain ⟨hxp, cs, rfl, hpc⟩ := hr j c x hc1 he1
      have hpc0 := hpc
      obtain ⟨hw, cv, rfl, ef, hsl, _, _⟩ := hpc
      obtain ⟨ao3, ca3, rfl⟩ := hsl.len
      by_cases hxn : x.page = n
      · (repeat' (first | refine X.rq ?_ | (refine X.rc ?_ ?_ <;> intro hc <;> first | (exfalso; omega) | skip)))
        refine K.s_pureE (K.p_indexL hv (Fx.und rfl) (Fx.sz rfl) rfl rfl (by omega) hc0) rfl ?_
        rintro v2 ⟨b, o, rfl, hcel⟩
        have hq1 := (Cels.up (K := blk B2 55 (cP noPag (.slice none 0 0)) :: blk B 26 [.slice ao l.length ca, .int .u32 bd, .int .i64 er] :: F) hcel).1
        (repeat' (first | refine X.rq ?_ | (refine X.rc ?_ ?_ <;> intro hc <;> first | (exfalso; omega) | skip)))
        refine K.s_pureE (K.p_indexL hv (Fx.und rfl) (Fx.sz rfl) rfl rfl (by omega) hc0) rfl ?_
        rintro v3 ⟨b', o', rfl, hcel'⟩
        have hq3 := (Cels.up (K := blk B2 55 (cP noPag (.slice none 0 0)) :: blk B 26 [.slice ao l.length ca, .int .u32 bd, .int .i64 er] :: F) hcel').2
        (repeat' (first | refine X.rq ?_ | (refine X.rc ?_ ?_ <;> intro hc <;> first | (exfalso; omega) | skip)))
        refine X.stw ?_
        simp only [List.set_cons_zero, List.set_cons_succ, List.eraseIdx_cons_zero, List.eraseIdx_cons_succ, List.cons_append, List.nil_append]
        (repeat' (first | refine X.rq ?_ | (refine X.rc ?_ ?_ <;> intro hc <;> first | (exfalso; omega) | skip)))
        refine K.doneC (vs := [.agg (cP x.to (.slice ao3 ef.length ca3)).toArray, .int .i64 0]) (by first | exact Or.inl rfl | exact Or.inr rfl) (.cell rfl (Fx.agg rfl) (Fx.sz rfl) (by exact K.cels_own (pre := []) (post := []) 0 rfl rfl) (.tmp rfl .nil)) (K.Base.le.refl _) (D := [_, _]) (H' := []) rfl ⟨rfl, rfl, _, _, _, rfl, hpc0, ⟨by decide, by decide⟩, .inl ⟨rfl, ?_⟩⟩
        unfold treeG
        rw [if_neg hbad, find_at he1 (decide_eq_true hxn) fun i y hi hy => decide_eq_false (hno i y hi hy)]
      · (repeat' (first | refine X.rq ?_ | (refine X.rc ?_ ?_ <;> intro hc <;> first | (exfalso; omega) | skip)))
        refine K.s_pureE (K.p_indexL hv (Fx.und rfl) (Fx.sz rfl) rfl rfl (by omega) hc0) rfl ?_
        rintro v2 ⟨b, o, rfl, hcel⟩
        have hq1 := (Cels.up (K := blk B2 55 (cP noPag (.slice none 0 0)) :: blk B 26 [.slice ao l.length ca, .int .u32 bd, .int .i64 er] :: F) hcel).1
        (repeat' (first | refine X.rq ?_ | (refine X.rc ?_ ?_ <;> intro hc <;> first | (exfalso; omega) | skip)))
        refine K.a_round hKL (j + 1) ⟨by omega, fun i y hi hy => ?_⟩ (by repeat (first | exact K.Sub.nil _ | refine K.Sub.cons rfl ?_)) rfl rfl (by omega)
        by_cases hij : i < j
        · exact hno i y hij hy
        · obtain rfl : i = j := by omega
          rw [he1] at hy; cases hy; exact hxn
    · (repeat' (first | refine X.rq ?_ | (refine X.rc ?_ ?_ <;> intro hc <;> first | (exfalso; omega) | skip)))
      refine X.stw ?_
      simp only [List.set_cons_zero, List.set_cons_succ, List.eraseIdx_cons_zero, List.eraseIdx_cons_succ, List.cons_append, List.nil_append]
      (repeat' (first | refine X.rq ?_ | (refine X.rc ?_ ?_ <;> intro hc <;> first | (exfalso; omega) | skip)))
      refine K.doneC (vs := [.agg (cP noPag (.slice none 0 0)).toArray, .int .i64 2]) (by first | exact Or.inl rfl | exact Or.inr rfl) (.cell rfl (Fx.agg rfl) (Fx.sz rfl) (by exact K.cels_own (pre := []) (post := []) 0 rfl rfl) (.tmp rfl .nil)) (K.Base.le.refl _) (D := [_, _]) (H' := []) rfl ⟨rfl, rfl, _, _, _, rfl, noPag_c _, ⟨by decide, by decide⟩, .inr ⟨by decide, ?_⟩⟩
      unfold treeG
      rw [if_neg hbad, find_no fun i y hy => decide_eq_false (hno i y (by have := (List.getElem?_eq_some_iff.1 hy).1; omega) hy)]
end Go.Proofs.Ytahdbncfegedjaa.Nd
