/-
  Expressions: what they are of a row. Conditions: each theorem's own.
-/
import Derived.Test.YtmkhejdamjibgaaEe

namespace Go.Proofs.Ytmkhejdamjibgaa.Rw
open Go Go.K Go.Proofs Go.Proofs.Ytmkhejdamjibgaa
set_option linter.unusedVariables false
set_option linter.unusedSimpArgs false
set_option maxRecDepth 10000

def unQ (op : Int) (a : Val) : Val × Int := if op = 4 then reckQ 1 (vI 0) a else if op = 5 then notQ a else if op = 6 then (vB (decide (a.kind = 0)), 0) else (vB (decide (a.kind ≠ 0)), 0)
def biQ (op : Int) (a b : Val) : Val × Int := if op ≤ 12 then reckQ (op - 8).toNat a b else if op = 13 then joinQ a b else if op = 20 then andQ a b else if op = 21 then orQ a b else cmpQ (testQ (op - 14).toNat) a b
def opQ (op : Int) : List (Val × Int) → Val × Int
  | [a] => if a.2 ≠ 0 then (vN, a.2) else unQ op a.1
  | [a, b] => if a.2 ≠ 0 then (vN, a.2) else if b.2 ≠ 0 then (vN, b.2) else biQ op a.1 b.1
  | _ => (vN, 0)
mutual
def valueQ (row : List Val) : Ex → Val × Int
  | .mk op val tb nm col args => if op = 1 then (val, 0) else if op = 3 then (row.getD col.toNat vN, 0) else opQ op (valueL row args)
def valueL (row : List Val) : List Ex → List (Val × Int)
  | [] => []
  | e :: r => valueQ row e :: valueL row r
end
theorem valueL_map (row : List Val) : ∀ (l : List Ex), valueL row l = l.map (valueQ row)
  | [] => rfl
  | e :: r => by rw [valueL, valueL_map row r]; rfl
/-- A value that may be, of 64 bits. -/
def goodV (v : Val) : Prop := okV v = true ∧ in64 v.n
theorem goodV.wf {v : Val} (h : goodV v) : wfV v := by
  obtain ⟨h1, h2⟩ := h
  rw [okV_iff] at h1
  unfold okVP at h1
  unfold in64 at h2
  have hs : v.s.size ≤ 64 := by
    rcases h1 with ⟨_, _, e⟩ | ⟨_, e⟩ | ⟨_, _, e⟩ | ⟨_, e, _⟩ <;> first | omega | (rw [e]; decide)
  exact ⟨by omega, by omega, h2.1, h2.2, by omega⟩
theorem good_N : goodV vN := ⟨by decide, by decide⟩
theorem good_B (b : Bool) : goodV (vB b) := by cases b <;> exact ⟨by decide, by decide⟩
theorem good_I {n : Int} (h : in64 n) : goodV (vI n) := ⟨(okV_iff _).2 (.inr (.inl ⟨rfl, rfl⟩)), h⟩
theorem good_rec (e : Int) (a b : Val) : goodV (recQ e a b).1 := by
  unfold recQ
  split
  · exact good_N
  · split
    · exact good_I (by assumption)
    · exact good_N
theorem good_reck (k : Nat) (a b : Val) : goodV (reckQ k a b).1 := by
  unfold reckQ
  split
  · exact good_N
  · exact good_rec _ _ _
theorem good_whole (n : Int) : goodV (wholeQ n) := by
  unfold wholeQ
  split
  · exact good_N
  · exact good_B _
theorem good_not (a : Val) : goodV (notQ a).1 := by
  unfold notQ
  split
  · exact good_whole _
  · exact good_N
theorem good_and (a b : Val) : goodV (andQ a b).1 := by
  unfold andQ
  split
  · exact good_whole _
  · exact good_N
theorem good_or (a b : Val) : goodV (orQ a b).1 := by
  unfold orQ
  split
  · exact good_whole _
  · exact good_N
theorem good_cmp (t : Int → Bool) (a b : Val) : goodV (cmpQ t a b).1 := by
  unfold cmpQ
  split
  · split
    · exact good_N
    · split
      · exact good_N
      · exact good_B _
  · exact good_N
theorem good_join (a b : Val) : goodV (joinQ a b).1 := by
  unfold joinQ
  split
  · exact good_N
  · split
    · exact good_N
    · refine ⟨(okV_iff _).2 (.inr (.inr (.inl ⟨rfl, rfl, ?_⟩))), by show in64 0; decide⟩
      show (a.s ++ b.s).size ≤ 64
      rw [ByteArray.size_append]; omega
theorem good_un (op : Int) (a : Val) : goodV (unQ op a).1 := by
  unfold unQ
  split
  · exact good_reck _ _ _
  · split
    · exact good_not _
    · split <;> exact good_B _
theorem good_bi (op : Int) (a b : Val) : goodV (biQ op a b).1 := by
  unfold biQ
  split
  · exact good_reck _ _ _
  · split
    · exact good_join _ _
    · split
      · exact good_and _ _
      · split
        · exact good_or _ _
        · exact good_cmp _ _ _
theorem good_op (op : Int) (l : List (Val × Int)) : goodV (opQ op l).1 := by
  unfold opQ
  split
  · split
    · exact good_N
    · exact good_un _ _
  · split
    · exact good_N
    · split
      · exact good_N
      · exact good_bi _ _ _
  · exact good_N
/-- An expression's value is one that may be. -/
theorem good_value {h : Base} {m : Nat} {cs : List Value} {e : Ex} {row : List Val} (hx : ExC h m cs e) (hr : rightQ row.length e = true) (hrow : ∀ c ∈ row, goodV c) : goodV (valueQ row e).1 := by
  obtain ⟨op, val, tb, nm, col, args⟩ := e
  rw [valueQ]
  split
  · rename_i h1
    rw [rightQ] at hr
    simp only [Bool.and_eq_true, decide_eq_true_eq] at hr
    cases m with
    | zero => exact hx.elim
    | succ m =>
      obtain ⟨⟨_, hw, _⟩, _⟩ := hx
      exact ⟨hr.1.2.1 h1, hw.n1, hw.n2⟩
  · split
    · rename_i h3
      rw [rightQ] at hr
      simp only [Bool.and_eq_true, decide_eq_true_eq] at hr
      have := hr.1.2.2 h3
      rw [List.getD_eq_getElem?_getD, List.getElem?_eq_getElem (show col.toNat < row.length by omega)]
      exact hrow _ (List.getElem_mem _)
    · exact good_op _ _
theorem TruthE (h : Base) (b : Bool) : TrV Try.prog 32 [.bool b] h [] (.agg (cV (vB b)).toArray) [] := by
  refine K.enter Try.func32 rfl (Nat.le_of_ble_eq_true rfl) (fun F => ?_)
  cases b <;>
  · (repeat' (first | refine X.rq ?_ | (refine X.rc ?_ ?_ <;> intro hc <;> first | (exfalso; omega) | skip)))
    refine K.l_alloc (Fx.zr rfl) rfl rfl (fun B => ?_)
    (repeat' (first | refine X.rq ?_ | (refine X.rc ?_ ?_ <;> intro hc <;> first | (exfalso; omega) | skip)))
    refine K.l_alloc (Fx.zr rfl) rfl rfl (fun B => ?_)
    refine X.stw ?_
    (repeat' (first | refine X.rq ?_ | (refine X.rc ?_ ?_ <;> intro hc <;> first | (exfalso; omega) | skip)))
    (try refine X.sto ?_)
    (repeat' (first | refine X.rq ?_ | (refine X.rc ?_ ?_ <;> intro hc <;> first | (exfalso; omega) | skip)))
    (try refine X.stw ?_)
    (repeat' (first | refine X.rq ?_ | (refine X.rc ?_ ?_ <;> intro hc <;> first | (exfalso; omega) | skip)))
    refine K.doneC (by first | exact Or.inl rfl | exact Or.inr rfl) (.cell rfl (Fx.agg rfl) (Fx.sz rfl) (by first | exact K.cels_own (pre := []) (post := []) 0 rfl rfl | exact K.cels_own (pre := []) (post := []) 1 rfl rfl | exact K.cels_own (pre := []) (post := []) 2 rfl rfl | exact K.cels_own (pre := []) (post := []) 3 rfl rfl | exact K.cels_own (pre := []) (post := []) 4 rfl rfl | exact K.cels_own (pre := []) (post := []) 5 rfl rfl) .nil) (by first | exact K.Base.le.refl _ | assumption) (D := [_, _]) (H' := []) rfl ⟨rfl, rfl, rfl⟩
/-- The operations by their numbers, from the sum on. -/
def callsL : List FuncId := [55, 56, 57, 58, 59, 60, 61, 62, 63, 64, 65, 66, 67, 68]
def callsC : List Value := callsL.map fun f => .func (.func f) #[] #[]
theorem CallsV (h : Base) : TrV Try.prog 38 [] h [] (.agg callsC.toArray) [] := by
  refine K.enter Try.func38 rfl (Nat.le_of_ble_eq_true rfl) (fun F => ?_)
  (repeat' (first | refine X.rq ?_ | (refine X.rc ?_ ?_ <;> intro hc <;> first | (exfalso; omega) | skip)))
  refine K.l_alloc (Fx.zr rfl) rfl rfl (fun B => ?_)
  (repeat' (first | refine X.rq ?_ | (refine X.rc ?_ ?_ <;> intro hc <;> first | (exfalso; omega) | skip)))
  refine X.stw ?_
  (repeat' (first | refine X.rq ?_ | (refine X.rc ?_ ?_ <;> intro hc <;> first | (exfalso; omega) | skip)))
  refine K.doneC (by first | exact Or.inl rfl | exact Or.inr rfl) (.cell rfl (Fx.agg rfl) (Fx.sz rfl) (by first | exact K.cels_own (pre := []) (post := []) 0 rfl rfl | exact K.cels_own (pre := []) (post := []) 1 rfl rfl | exact K.cels_own (pre := []) (post := []) 2 rfl rfl | exact K.cels_own (pre := []) (post := []) 3 rfl rfl | exact K.cels_own (pre := []) (post := []) 4 rfl rfl | exact K.cels_own (pre := []) (post := []) 5 rfl rfl) .nil) (by first | exact K.Base.le.refl _ | assumption) (D := [_]) (H' := []) rfl ⟨rfl, rfl, rfl⟩
theorem callsT (op : Int) (h1 : 8 ≤ op) (h2 : op ≤ 21) : ∃ f, callsC[(op - 8).toNat]? = some (.func (.func f) #[] #[]) ∧ Callable Try.prog f ∧ ∀ (h : Base) (a b : Val), wfV a → wfV b → TrV Try.prog f [.agg (cV a).toArray, .agg (cV b).toArray] h [] (rV (biQ op a b)) [] := by
  have hc : op = 8 ∨ op = 9 ∨ op = 10 ∨ op = 11 ∨ op = 12 ∨ op = 13 ∨ op = 14 ∨ op = 15 ∨ op = 16 ∨ op = 17 ∨ op = 18 ∨ op = 19 ∨ op = 20 ∨ op = 21 := by omega
  rcases hc with rfl | rfl | rfl | rfl | rfl | rfl | rfl | rfl | rfl | rfl | rfl | rfl | rfl | rfl
  · exact ⟨_, rfl, (Fx.cal rfl), fun h a b ha hb => VAdd h a b ha hb⟩
  · exact ⟨_, rfl, (Fx.cal rfl), fun h a b ha hb => VSub h a b ha hb⟩
  · exact ⟨_, rfl, (Fx.cal rfl), fun h a b ha hb => VMul h a b ha hb⟩
  · exact ⟨_, rfl, (Fx.cal rfl), fun h a b ha hb => VDiv h a b ha hb⟩
  · exact ⟨_, rfl, (Fx.cal rfl), fun h a b ha hb => VMod h a b ha hb⟩
  · exact ⟨_, rfl, (Fx.cal rfl), fun h a b ha hb => VJoin h a b ha hb⟩
  · exact ⟨_, rfl, (Fx.cal rfl), fun h a b ha hb => VEq h a b ha hb⟩
  · exact ⟨_, rfl, (Fx.cal rfl), fun h a b ha hb => VNe h a b ha hb⟩
  · exact ⟨_, rfl, (Fx.cal rfl), fun h a b ha hb => VLt h a b ha hb⟩
  · exact ⟨_, rfl, (Fx.cal rfl), fun h a b ha hb => VLe h a b ha hb⟩
  · exact ⟨_, rfl, (Fx.cal rfl), fun h a b ha hb => VGt h a b ha hb⟩
  · exact ⟨_, rfl, (Fx.cal rfl), fun h a b ha hb => VGe h a b ha hb⟩
  · exact ⟨_, rfl, (Fx.cal rfl), fun h a b ha hb => VAnd h a b ha hb⟩
  · exact ⟨_, rfl, (Fx.cal rfl), fun h a b ha hb => VOr h a b ha hb⟩
theorem ExC.form {h : Base} : ∀ {m : Nat} {cs : List Value} {e : Ex}, ExC h m cs e → ∃ op val tb nm col ao n ca, cs = cE op val tb nm col (.slice ao n ca)
  | m + 1, cs, .mk op val tb nm col args, ⟨_, av, es, h2, h3, _⟩ => by
    obtain ⟨ao, ca, e⟩ := h3.len
    exact ⟨op, val, tb, nm, col, ao, _, ca, by rw [h2, e]⟩
set_option maxHeartbeats 2000000 in
theorem Of : ∀ (m : Nat) (h : Base) (cs : List Value) (e : Ex) (rv : Value) (row : List Val), ExC h m cs e → SL h 3 rv (row.map cV) → (∀ c ∈ row, goodV c) → rightQ row.length e = true → TrV Try.prog 28 [.agg cs.toArray, rv] h [] (rV (valueQ row e)) []
  | 0, h, cs, e, rv, row, hx, _, _, _ => hx.elim
  | m + 1, h, cs, .mk op val tb nm col args, rv, row, ⟨⟨hop, hval, hcol⟩, av, es, hcs, hv, hel, hal, hr⟩, hrv, hrow, hri => by
    subst hcs
    have hz := SL.lens hv
    have ih := Of m h
    obtain ⟨ao, ca, rfl⟩ := hv.len
    obtain ⟨ao2, ca2, rfl⟩ := hrv.len
    have hlen : (row.map cV).length = row.length := List.length_map ..
    rw [hlen] at hrv ⊢
    rw [hel] at hv ⊢
    rw [rightQ, rightL_all] at hri
    simp only [Bool.and_eq_true, decide_eq_true_eq, List.all_eq_true] at hri
    obtain ⟨⟨hp, hq1, hq3⟩, hargs⟩ := hri
    show TrV Try.prog 28 _ h [] _ []
    refine K.enter Try.func28 rfl (Nat.le_of_ble_eq_true rfl) (fun F => ?_)
    rw [valueQ]
    (repeat' (first | refine X.rq ?_ | (refine X.rc ?_ ?_ <;> intro hc <;> first | (exfalso; omega) | skip)))
    refine K.l_box rfl rfl rfl (fun B1 => ?_)
    refine K.l_alloc (Fx.zr rfl) rfl rfl (fun B2 => ?_)
    by_cases h1 : op = 1
    · rw [if_pos h1]
      (repeat' (first | refine X.rq ?_ | (refine X.rc ?_ ?_ <;> intro hc <;> first | (exfalso; omega) | skip)))
      refine K.s_pure (K.p_loadN (vs := cV val) (Fx.agg rfl) (Fx.sz rfl) rfl (K.cels_own (pre := [_]) (post := [_, _, _, _]) 1 rfl rfl)) rfl ?_
      refine X.stw ?_
      (repeat' (first | refine X.rq ?_ | (refine X.rc ?_ ?_ <;> intro hc <;> first | (exfalso; omega) | skip)))
      refine K.doneC (by first | exact Or.inl rfl | exact Or.inr rfl) (.cell rfl (Fx.agg rfl) (Fx.sz rfl) (by first | exact K.cels_own (pre := []) (post := []) 0 rfl rfl | exact K.cels_own (pre := []) (post := []) 1 rfl rfl | exact K.cels_own (pre := []) (post := []) 2 rfl rfl | exact K.cels_own (pre := []) (post := []) 3 rfl rfl | exact K.cels_own (pre := []) (post := []) 4 rfl rfl | exact K.cels_own (pre := []) (post := []) 5 rfl rfl) (.tmp rfl .nil)) (by first | exact K.Base.le.refl _ | assumption) (D := [_, _]) (H' := []) rfl ⟨rfl, rfl, rfl⟩
    · by_cases h3 : op = 3
      · rw [if_neg h1, if_pos h3]
        have hc3 := hq3 h3
        have hc0 : (row.map cV)[col.toNat]? = some (cV (row.getD col.toNat vN)) := by rw [List.getElem?_map, List.getD_eq_getElem?_getD, List.getElem?_eq_getElem (show col.toNat < row.length by omega)]; rfl
        (repeat' (first | refine X.rq ?_ | (refine X.rc ?_ ?_ <;> intro hc <;> first | (exfalso; omega) | skip)))
        refine K.s_pureE (K.p_indexL hrv (Fx.und rfl) (Fx.sz rfl) rfl rfl (by omega) hc0) rfl ?_
        rintro v2 ⟨b, o, rfl, hcel⟩
        refine K.s_pure (K.p_loadM (Fx.agg rfl) rfl (Cels.up hcel) (Fx.sz rfl) rfl) rfl ?_
        refine X.stw ?_
        (repeat' (first | refine X.rq ?_ | (refine X.rc ?_ ?_ <;> intro hc <;> first | (exfalso; omega) | skip)))
        refine K.doneC (by first | exact Or.inl rfl | exact Or.inr rfl) (.cell rfl (Fx.agg rfl) (Fx.sz rfl) (by first | exact K.cels_own (pre := []) (post := []) 0 rfl rfl | exact K.cels_own (pre := []) (post := []) 1 rfl rfl | exact K.cels_own (pre := []) (post := []) 2 rfl rfl | exact K.cels_own (pre := []) (post := []) 3 rfl rfl | exact K.cels_own (pre := []) (post := []) 4 rfl rfl | exact K.cels_own (pre := []) (post := []) 5 rfl rfl) (.tmp rfl .nil)) (by first | exact K.Base.le.refl _ | assumption) (D := [_, _]) (H' := []) rfl ⟨rfl, rfl, rfl⟩
      · rw [if_neg h1, if_neg h3]
        (repeat' (first | refine X.rq ?_ | (refine X.rc ?_ ?_ <;> intro hc <;> first | (exfalso; omega) | skip)))
        refine K.l_alloc (Fx.zr rfl) rfl rfl (fun B3 => ?_)
        (repeat' (first | refine X.rq ?_ | (refine X.rc ?_ ?_ <;> intro hc <;> first | (exfalso; omega) | skip)))
        have hpo : partsQ op = if op = 1 ∨ op = 3 then 0 else if 4 ≤ op ∧ op ≤ 7 then 1 else if 8 ≤ op ∧ op ≤ 21 then 2 else -1 := rfl
        rw [if_neg (by omega), hp] at hpo
        have hb : (4 ≤ op ∧ op ≤ 7 ∧ args.length = 1) ∨ (8 ≤ op ∧ op ≤ 21 ∧ args.length = 2) := by
          split at hpo
          · exact .inl (by omega)
          · split at hpo
            · exact .inr (by omega)
            · omega
        clear hpo
        rw [valueL_map]
        refine K.c_loop (σ := Nat × Val × Val) (fun q => [(2, .pointer (some ⟨B1, 0, none⟩)), (4, .pointer (some ⟨B2, 0, none⟩)), (1, .slice ao2 row.length ca2), (6, .pointer (some ⟨B3, 0, none⟩)), (25, .slice ao args.length ca), (26, .int .i64 args.length), (27, .int .i64 q.1)]) (fun _ => h)
          (fun q => blk B3 60 (cV q.2.1 ++ cV q.2.2) :: blk B2 23 (cV vN) :: blk B1 26 (cE op val tb nm col (.slice ao args.length ca)) :: F)
          (fun q => q.1 ≤ args.length ∧ ∀ (i : Nat) e, i < q.1 → args[i]? = some e → (valueQ row e).2 = 0 ∧ (i = 0 → q.2.1 = (valueQ row e).1) ∧ (i = 1 → q.2.2 = (valueQ row e).1)) (fun q => args.length - q.1) (0, vN, vN) ⟨Nat.zero_le _, fun i e hi => absurd hi (Nat.not_lt_zero _)⟩ (by repeat (first | exact K.Sub.nil _ | refine K.Sub.cons rfl ?_)) rfl rfl ?_
        rintro ⟨j, x, y⟩ ⟨hj, hso⟩ KL hKL
        dsimp only at hj hso ⊢
        by_cases hjl : j < args.length
        · have hc1 : es[j]? = some (es[j]'(by omega)) := List.getElem?_eq_getElem (by omega)
          have hc0 : es[((j : Nat) : Int).toNat]? = some (es[j]'(by omega)) := by rw [Int.toNat_natCast]; exact hc1
          have he1 : args[j]? = some args[j] := List.getElem?_eq_getElem hjl
          generalize es[j]'(by omega) = c at hc0 hc1
          have hmem : args[j] ∈ args := List.getElem_mem hjl
          generalize args[j] = e at he1 hmem
          have hce := hr j c e hc1 he1
          have hre := hargs e hmem
          have herr : (valueQ row e).2 ≠ 0 → opQ op (args.map (valueQ row)) = (vN, (valueQ row e).2) := fun hne => by
            match args, hb, he1, hso, hj with
            | [a], _, he1, hso, _ =>
              obtain rfl : j = 0 := by simp at hjl; omega
              cases he1
              show (if _ then _ else _) = _
              rw [if_pos hne]
            | [a, b], _, he1, hso, _ =>
              show (if _ then _ else if _ then _ else _) = _
              by_cases hj0 : j = 0
              · subst hj0
                cases he1
                rw [if_pos hne]
              · obtain rfl : j = 1 := by simp at hjl; omega
                cases he1
                have := (hso 0 a (by omega) rfl).1
                rw [if_neg (fun e => e this), if_pos hne]
            | [], hb, _, _, _ => simp at hb
            | a :: b :: c :: r, hb, _, _, _ => simp at hb
          have hst : ∀ (v : Val), (valueQ row e).1 = v → (valueQ row e).2 = 0 → ∀ (x' y' : Val), (j = 0 ∧ x' = v ∧ y' = y ∨ j = 1 ∧ x' = x ∧ y' = v) → ∀ (i : Nat) e', i < j + 1 → args[i]? = some e' → (valueQ row e').2 = 0 ∧ (i = 0 → x' = (valueQ row e').1) ∧ (i = 1 → y' = (valueQ row e').1) := fun v hv1 hv2 x' y' hh i e' hi hi2 => by
            by_cases hij : i < j
            · obtain ⟨a1, a2, a3⟩ := hso i e' hij hi2
              rcases hh with ⟨rfl, rfl, rfl⟩ | ⟨rfl, rfl, rfl⟩
              · omega
              · exact ⟨a1, a2, fun e => by omega⟩
            · obtain rfl : i = j := by omega
              rw [he1] at hi2; cases hi2
              rcases hh with ⟨rfl, rfl, rfl⟩ | ⟨rfl, rfl, rfl⟩
              · exact ⟨hv2, fun _ => hv1.symm, fun e => by omega⟩
              · exact ⟨hv2, fun e => by omega, fun _ => hv1.symm⟩
          obtain ⟨op', val', tb', nm', col', ao', n', ca', rfl⟩ := hce.form
          (repeat' (first | refine X.rq ?_ | (refine X.rc ?_ ?_ <;> intro hc <;> first | (exfalso; omega) | skip)))
          refine K.s_pureE (K.p_indexL hv (Fx.und rfl) (Fx.sz rfl) rfl rfl (by omega) hc0) rfl ?_
          rintro v2 ⟨b, o, rfl, hcel⟩
          refine K.s_pure (K.p_loadM (Fx.agg rfl) rfl (Cels.up hcel) (Fx.sz rfl) rfl) rfl ?_
          refine K.l_alloc (Fx.zr rfl) rfl rfl (fun B4 => ?_)
          (repeat' (first | refine X.rq ?_ | (refine X.rc ?_ ?_ <;> intro hc <;> first | (exfalso; omega) | skip)))
          refine X.stw ?_
          (repeat' (first | refine X.rq ?_ | (refine X.rc ?_ ?_ <;> intro hc <;> first | (exfalso; omega) | skip)))
          refine K.l_callV (Fx.cal rfl) rfl (ih _ e _ row hce hrv hrow hre) (K.pp [] rfl) rfl rfl ?_
          simp only [List.nil_append]
          generalize hvq : valueQ row e = vq at herr hst ⊢
          obtain ⟨v, f⟩ := vq
          dsimp only at herr hst
          (repeat' (first | refine X.rq ?_ | (refine X.rc ?_ ?_ <;> intro hc <;> first | (exfalso; omega) | skip)))
          refine K.l_alloc (Fx.zr rfl) rfl rfl (fun B5 => ?_)
          refine X.stw ?_
          (repeat' (first | refine X.rq ?_ | (refine X.rc ?_ ?_ <;> intro hc <;> first | (exfalso; omega) | skip)))
          · rw [herr (by assumption)]
            refine X.stw ?_
            (repeat' (first | refine X.rq ?_ | (refine X.rc ?_ ?_ <;> intro hc <;> first | (exfalso; omega) | skip)))
            refine K.doneC (by first | exact Or.inl rfl | exact Or.inr rfl) (.cell rfl (Fx.agg rfl) (Fx.sz rfl) (by first | exact K.cels_own (pre := []) (post := []) 0 rfl rfl | exact K.cels_own (pre := []) (post := []) 1 rfl rfl | exact K.cels_own (pre := []) (post := []) 2 rfl rfl | exact K.cels_own (pre := []) (post := []) 3 rfl rfl | exact K.cels_own (pre := []) (post := []) 4 rfl rfl | exact K.cels_own (pre := []) (post := []) 5 rfl rfl) (.tmp rfl .nil)) (by first | exact K.Base.le.refl _ | assumption) (D := [_, _, _, _, _]) (H' := []) rfl ⟨rfl, rfl, rfl⟩
          · have hf : f = 0 := by omega
            have hj2 : j = 0 ∨ j = 1 := by omega
            rcases hj2 with hj2 | hj2
            · subst hj2
              refine K.WL.perm (K.pp [2] rfl) ?_
              refine K.l_storeN (pre := []) (cs := cV x) (post := cV y) (us := cV v) (Fx.sz rfl) rfl rfl rfl rfl rfl (K.Free.zero _) ?_
              (repeat' (first | refine X.rq ?_ | (refine X.rc ?_ ?_ <;> intro hc <;> first | (exfalso; omega) | skip)))
              refine K.AT.sel [1, 1] rfl ?_
              refine K.a_round hKL (0 + 1, v, y) ⟨by dsimp only; omega, hst v rfl hf v y (.inl ⟨rfl, rfl, rfl⟩)⟩ (by repeat (first | exact K.Sub.nil _ | refine K.Sub.cons rfl ?_)) rfl rfl (by dsimp only; omega)
            · subst hj2
              refine K.WL.perm (K.pp [2] rfl) ?_
              refine K.l_storeN (pre := cV x) (cs := cV y) (post := []) (us := cV v) (Fx.sz rfl) rfl rfl rfl rfl rfl (K.Free.zero _) ?_
              (repeat' (first | refine X.rq ?_ | (refine X.rc ?_ ?_ <;> intro hc <;> first | (exfalso; omega) | skip)))
              refine K.AT.sel [1, 1] rfl ?_
              refine K.a_round hKL (1 + 1, x, v) ⟨by dsimp only; omega, hst v rfl hf x v (.inr ⟨rfl, rfl, rfl⟩)⟩ (by repeat (first | exact K.Sub.nil _ | refine K.Sub.cons rfl ?_)) rfl rfl (by dsimp only; omega)
        · obtain rfl : j = args.length := by omega
          rcases hb with ⟨hb1, hb2, hb3⟩ | ⟨hb1, hb2, hb3⟩
          · match args, hb3, hso with
            | [a], _, hso =>
              obtain ⟨ha2, hax, _⟩ := hso 0 a (by simp) rfl
              obtain rfl := hax rfl
              have he : opQ op ([a].map (valueQ row)) = unQ op (valueQ row a).1 := by
                show (if _ then _ else _) = _
                rw [if_neg (fun e => e ha2)]
              rw [he]
              have hma := hargs a (List.mem_cons_self ..)
              have hga : goodV (valueQ row a).1 := by
                have hel1 : 0 < es.length := by rw [hel]; simp
                exact good_value (hr 0 _ a (List.getElem?_eq_getElem hel1) rfl) hma hrow
              generalize (valueQ row a).1 = x at hga
              (repeat' (first | refine X.rq ?_ | (refine X.rc ?_ ?_ <;> intro hc <;> first | (exfalso; omega) | skip)))
              · refine K.s_pure (K.p_loadN (vs := cV x) (Fx.agg rfl) (Fx.sz rfl) rfl (K.cels_own (pre := []) (post := cV y) 0 rfl rfl)) rfl ?_
                refine K.l_callV (Fx.cal rfl) rfl (VNeg h x hga.wf) (K.pp [] rfl) rfl rfl ?_
                simp only [List.nil_append]
                rw [unQ, if_pos (by assumption)]
                (repeat' (first | refine X.rq ?_ | (refine X.rc ?_ ?_ <;> intro hc <;> first | (exfalso; omega) | skip)))
                refine X.stw ?_
                (repeat' (first | refine X.rq ?_ | (refine X.rc ?_ ?_ <;> intro hc <;> first | (exfalso; omega) | skip)))
                refine K.doneC (by first | exact Or.inl rfl | exact Or.inr rfl) (.cell rfl (Fx.agg rfl) (Fx.sz rfl) (by first | exact K.cels_own (pre := []) (post := []) 0 rfl rfl | exact K.cels_own (pre := []) (post := []) 1 rfl rfl | exact K.cels_own (pre := []) (post := []) 2 rfl rfl | exact K.cels_own (pre := []) (post := []) 3 rfl rfl | exact K.cels_own (pre := []) (post := []) 4 rfl rfl | exact K.cels_own (pre := []) (post := []) 5 rfl rfl) (.tmp rfl .nil)) (by first | exact K.Base.le.refl _ | assumption) (D := [_, _, _]) (H' := []) rfl ⟨rfl, rfl, rfl⟩
              · refine K.s_pure (K.p_loadN (vs := cV x) (Fx.agg rfl) (Fx.sz rfl) rfl (K.cels_own (pre := []) (post := cV y) 0 rfl rfl)) rfl ?_
                refine K.l_callV (Fx.cal rfl) rfl (VNot h x hga.wf) (K.pp [] rfl) rfl rfl ?_
                simp only [List.nil_append]
                rw [unQ, if_neg (by omega), if_pos (by assumption)]
                (repeat' (first | refine X.rq ?_ | (refine X.rc ?_ ?_ <;> intro hc <;> first | (exfalso; omega) | skip)))
                refine X.stw ?_
                (repeat' (first | refine X.rq ?_ | (refine X.rc ?_ ?_ <;> intro hc <;> first | (exfalso; omega) | skip)))
                refine K.doneC (by first | exact Or.inl rfl | exact Or.inr rfl) (.cell rfl (Fx.agg rfl) (Fx.sz rfl) (by first | exact K.cels_own (pre := []) (post := []) 0 rfl rfl | exact K.cels_own (pre := []) (post := []) 1 rfl rfl | exact K.cels_own (pre := []) (post := []) 2 rfl rfl | exact K.cels_own (pre := []) (post := []) 3 rfl rfl | exact K.cels_own (pre := []) (post := []) 4 rfl rfl | exact K.cels_own (pre := []) (post := []) 5 rfl rfl) (.tmp rfl .nil)) (by first | exact K.Base.le.refl _ | assumption) (D := [_, _, _]) (H' := []) rfl ⟨rfl, rfl, rfl⟩
              · refine K.l_callV (Fx.cal rfl) rfl (TruthE h (decide (x.kind = 0))) (K.pp [] rfl) rfl rfl ?_
                simp only [List.nil_append]
                rw [unQ, if_neg (by omega), if_neg (by omega), if_pos (by assumption)]
                (repeat' (first | refine X.rq ?_ | (refine X.rc ?_ ?_ <;> intro hc <;> first | (exfalso; omega) | skip)))
                refine X.stw ?_
                (repeat' (first | refine X.rq ?_ | (refine X.rc ?_ ?_ <;> intro hc <;> first | (exfalso; omega) | skip)))
                refine K.doneC (by first | exact Or.inl rfl | exact Or.inr rfl) (.cell rfl (Fx.agg rfl) (Fx.sz rfl) (by first | exact K.cels_own (pre := []) (post := []) 0 rfl rfl | exact K.cels_own (pre := []) (post := []) 1 rfl rfl | exact K.cels_own (pre := []) (post := []) 2 rfl rfl | exact K.cels_own (pre := []) (post := []) 3 rfl rfl | exact K.cels_own (pre := []) (post := []) 4 rfl rfl | exact K.cels_own (pre := []) (post := []) 5 rfl rfl) (.tmp rfl .nil)) (by first | exact K.Base.le.refl _ | assumption) (D := [_, _, _]) (H' := []) rfl ⟨rfl, rfl, rfl⟩
              · refine K.l_callV (Fx.cal rfl) rfl (TruthE h (decide (x.kind ≠ 0))) (K.pp [] rfl) rfl rfl ?_
                simp only [List.nil_append]
                rw [unQ, if_neg (by omega), if_neg (by omega), if_neg (by omega)]
                (repeat' (first | refine X.rq ?_ | (refine X.rc ?_ ?_ <;> intro hc <;> first | (exfalso; omega) | skip)))
                refine X.stw ?_
                (repeat' (first | refine X.rq ?_ | (refine X.rc ?_ ?_ <;> intro hc <;> first | (exfalso; omega) | skip)))
                refine K.doneC (by first | exact Or.inl rfl | exact Or.inr rfl) (.cell rfl (Fx.agg rfl) (Fx.sz rfl) (by first | exact K.cels_own (pre := []) (post := []) 0 rfl rfl | exact K.cels_own (pre := []) (post := []) 1 rfl rfl | exact K.cels_own (pre := []) (post := []) 2 rfl rfl | exact K.cels_own (pre := []) (post := []) 3 rfl rfl | exact K.cels_own (pre := []) (post := []) 4 rfl rfl | exact K.cels_own (pre := []) (post := []) 5 rfl rfl) (.tmp rfl .nil)) (by first | exact K.Base.le.refl _ | assumption) (D := [_, _, _]) (H' := []) rfl ⟨rfl, rfl, rfl⟩
          · match args, hb3, hso with
            | [a, b], _, hso =>
              obtain ⟨ha2, hax, _⟩ := hso 0 a (by simp) rfl
              obtain ⟨hb2', _, hby⟩ := hso 1 b (by simp) rfl
              obtain rfl := hax rfl
              obtain rfl := hby rfl
              have he : opQ op ([a, b].map (valueQ row)) = biQ op (valueQ row a).1 (valueQ row b).1 := by
                show (if _ then _ else if _ then _ else _) = _
                rw [if_neg (fun e => e ha2), if_neg (fun e => e hb2')]
              rw [he]
              have hga : goodV (valueQ row a).1 := by
                have hel1 : 0 < es.length := by rw [hel]; simp
                exact good_value (hr 0 _ a (List.getElem?_eq_getElem hel1) rfl) (hargs a (List.mem_cons_self ..)) hrow
              have hgb : goodV (valueQ row b).1 := by
                have hel1 : 1 < es.length := by rw [hel]; simp
                exact good_value (hr 1 _ b (List.getElem?_eq_getElem hel1) rfl) (hargs b (List.mem_cons_of_mem _ (List.mem_cons_self ..))) hrow
              generalize (valueQ row a).1 = x at hga
              generalize (valueQ row b).1 = y at hgb
              obtain ⟨f, hcf, hfc, hft⟩ := callsT op hb1 hb2
              (repeat' (first | refine X.rq ?_ | (refine X.rc ?_ ?_ <;> intro hc <;> first | (exfalso; omega) | skip)))
              refine X.draw ([blk B3 60 (cV x ++ cV y), blk B2 23 (cV vN), blk B1 26 (cE op val tb nm col (.slice ao 2 ca))]) [12] (.pu 1 (.pu 5 (.pu 7 (.st 2 (.pu 3 (.st 6 (.st 8 (.on 0 (.pu 4 (.on 9 (.pu 10 (.pu 11 (.cl 12 (.pu 13 .nil)))))))))))))) ?_
              refine K.d_pu rfl (fun _ _ => X.fa) rfl ?_
              refine K.d_pu rfl (fun _ _ => X.ia) rfl ?_
              refine K.d_pu rfl (fun _ _ => X.ia) rfl ?_
              refine K.d_st rfl X.ld rfl ?_
              refine K.d_pu rfl (fun _ _ => X.bsub) rfl ?_
              refine K.d_st rfl (K.p_loadN (vs := cV x) (Fx.agg rfl) (Fx.sz rfl) rfl (K.cels_own (pre := []) (post := cV y) 0 rfl rfl)) rfl ?_
              refine K.d_st rfl (K.p_loadN (vs := cV y) (Fx.agg rfl) (Fx.sz rfl) rfl (K.cels_own (pre := cV x) (post := []) 0 rfl rfl)) rfl ?_
              refine K.d_on rfl (fun KK hKK => ?_)
              refine K.l_callV (Fx.cal rfl) rfl (CallsV h) (K.pp [] rfl) rfl rfl ?_
              simp only [List.nil_append]
              refine K.l_nil ?_
              refine X.onE hKK ?_
              refine K.d_pu rfl (fun _ _ => K.p_indexV (Fx.und rfl) (Fx.sz rfl) (Fx.agg rfl) rfl rfl (by omega) (by omega) hcf) rfl ?_
              refine K.d_on rfl (fun KK hKK => ?_)
              refine K.l_callF (caps := []) hfc rfl rfl (hft h x y hga.wf hgb.wf) (K.pp [] rfl) rfl ?_
              rintro u h' H' - ⟨rfl, e, rfl⟩
              obtain rfl := e.symm
              simp only [List.nil_append]
              refine K.l_nil ?_
              refine X.onE hKK ?_
              refine K.d_pu rfl (fun _ _ => X.ex) rfl ?_
              refine K.d_pu rfl (fun _ _ => X.ex) rfl ?_
              refine K.d_cl rfl (fun KK hKK => ?_)
              refine X.stw ?_
              refine K.l_nil ?_
              refine K.d_clE hKK ?_
              refine K.d_pu rfl (fun _ _ => X.sg) rfl ?_
              refine K.d_nil ?_
              (repeat' (first | refine X.rq ?_ | (refine X.rc ?_ ?_ <;> intro hc <;> first | (exfalso; omega) | skip)))
              refine K.doneC (by first | exact Or.inl rfl | exact Or.inr rfl) (.cell rfl (Fx.agg rfl) (Fx.sz rfl) (by first | exact K.cels_own (pre := []) (post := []) 0 rfl rfl | exact K.cels_own (pre := []) (post := []) 1 rfl rfl | exact K.cels_own (pre := []) (post := []) 2 rfl rfl | exact K.cels_own (pre := []) (post := []) 3 rfl rfl | exact K.cels_own (pre := []) (post := []) 4 rfl rfl | exact K.cels_own (pre := []) (post := []) 5 rfl rfl) (.tmp rfl .nil)) (by first | exact K.Base.le.refl _ | assumption) (D := [_, _, _]) (H' := []) rfl ⟨rfl, rfl, rfl⟩
end Go.Proofs.Ytmkhejdamjibgaa.Rw
