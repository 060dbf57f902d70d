/-
  Expressions: what they are in memory; whether they are right, and safe. Conditions: each theorem's own.
-/
import Derived.Test.YtmkhejdamjibgaaEd

namespace Go.Proofs.Ytmkhejdamjibgaa.Rw
open Go Go.K Go.Proofs Go.Proofs.Ytmkhejdamjibgaa
set_option linter.unusedVariables false
set_option linter.unusedSimpArgs false
set_option maxRecDepth 10000

theorem IdxE (h : Base) (KK : List Asrt) (f : FuncId) (caps : List Value) (hcal : Callable Try.prog f) (v : Value) (es : List (List Value)) (p : Nat → Bool) (hv : SL h 8 v es) (hl : es.length ≤ 9223372036854775807)
    (hz : ∀ c ∈ es, c.length = 8) (hp : ∀ j cs, es[j]? = some cs → TrV Try.prog f (.agg cs.toArray :: caps) h KK (.bool (p j)) KK) :
    Tr Try.prog 33 [v, .func (.func f) #[] caps.toArray] h KK (fun u h' H' => ∃ i : Int, u = .int .i64 i ∧ decide (0 ≤ i) = (List.range es.length).any p ∧ h' = h ∧ H' = KK) := by
  obtain ⟨ao, ca, rfl⟩ := hv.len
  refine K.enter Try.func33 rfl (Nat.le_of_ble_eq_true rfl) (fun F => ?_)
  (repeat' (first | refine X.rq ?_ | (refine X.rc ?_ ?_ <;> intro hc <;> first | (exfalso; omega) | skip)))
  refine K.c_loop (σ := Nat) (fun j => [(0, .slice ao es.length ca), (1, .func (.func f) #[] caps.toArray), (6, .slice ao es.length ca), (7, .int .i64 es.length), (8, .int .i64 j)]) (fun _ => h) (fun _ => KK ++ F)
    (fun j => j ≤ es.length ∧ ∀ i, i < j → p i = false) (fun j => es.length - j) 0 ⟨Nat.zero_le _, fun i hi => by omega⟩ (by repeat (first | exact K.Sub.nil _ | refine K.Sub.cons rfl ?_)) rfl rfl ?_
  rintro j ⟨hj, hno⟩ KL hKL
  by_cases hjl : j < es.length
  · have hc1 : es[j]? = some es[j] := List.getElem?_eq_getElem hjl
    have hc0 : es[((j : Nat) : Int).toNat]? = some es[j] := by rw [Int.toNat_natCast]; exact hc1
    have hzj : es[j].length = 8 := hz _ (List.getElem_mem hjl)
    generalize es[j] = c at hc0 hc1 hzj
    (repeat' (first | refine X.rq ?_ | (refine X.rc ?_ ?_ <;> intro hc <;> first | (exfalso; omega) | skip)))
    refine K.s_pureE (K.p_indexL hv (Fx.und rfl) (Fx.sz rfl) rfl rfl (by omega) hc0) rfl ?_
    rintro v2 ⟨b, o, rfl, hcel⟩
    refine K.s_pure (K.p_loadM (Fx.agg rfl) rfl (Cels.up hcel) (Fx.sz rfl) hzj) rfl ?_
    refine K.l_callF (vals := [.agg c.toArray]) hcal rfl rfl (hp j c hc1) (List.Perm.refl _) rfl ?_
    rintro u h' H' - ⟨rfl, e, rfl⟩
    obtain rfl := e.symm
    cases hpj : p j with
    | true =>
      (repeat' (first | refine X.rq ?_ | (refine X.rc ?_ ?_ <;> intro hc <;> first | (exfalso; omega) | skip)))
      refine K.done (by first | exact Or.inl rfl | exact Or.inr rfl) rfl (by first | exact K.Base.le.refl _ | assumption) (H' := H') rfl ⟨j, rfl, ?_, rfl, rfl⟩
      rw [List.any_eq_true.2 ⟨j, List.mem_range.2 hjl, hpj⟩]
      exact decide_eq_true (by omega)
    | false =>
      (repeat' (first | refine X.rq ?_ | (refine X.rc ?_ ?_ <;> intro hc <;> first | (exfalso; omega) | skip)))
      refine K.a_round hKL (j + 1) ⟨by omega, fun i hi => ?_⟩ (by repeat (first | exact K.Sub.nil _ | refine K.Sub.cons rfl ?_)) rfl rfl (by omega)
      by_cases hij : i < j
      · exact hno i hij
      · obtain rfl : i = j := by omega
        exact hpj
  · obtain rfl : j = es.length := by omega
    (repeat' (first | refine X.rq ?_ | (refine X.rc ?_ ?_ <;> intro hc <;> first | (exfalso; omega) | skip)))
    refine K.done (by first | exact Or.inl rfl | exact Or.inr rfl) rfl (by first | exact K.Base.le.refl _ | assumption) (H' := KK) rfl ⟨-1, rfl, ?_, rfl, rfl⟩
    rw [List.any_eq_false.2 fun i hi => by rw [hno i (List.mem_range.1 hi)]; decide]
    exact decide_eq_false (by omega)
theorem CtnE (h : Base) (KK : List Asrt) (f : FuncId) (caps : List Value) (hcal : Callable Try.prog f) (v : Value) (es : List (List Value)) (p : Nat → Bool) (hv : SL h 8 v es) (hl : es.length ≤ 9223372036854775807)
    (hz : ∀ c ∈ es, c.length = 8) (hp : ∀ j cs, es[j]? = some cs → TrV Try.prog f (.agg cs.toArray :: caps) h KK (.bool (p j)) KK) :
    TrV Try.prog 25 [v, .func (.func f) #[] caps.toArray] h KK (.bool ((List.range es.length).any p)) KK := by
  refine K.enter Try.func25 rfl (Nat.le_of_ble_eq_true rfl) (fun F => ?_)
  (repeat' (first | refine X.rq ?_ | (refine X.rc ?_ ?_ <;> intro hc <;> first | (exfalso; omega) | skip)))
  refine K.l_call (Fx.cal rfl) rfl (IdxE h KK f caps hcal v es p hv hl hz hp) (List.Perm.refl _) rfl ?_
  rintro u h' H' - ⟨i, rfl, hi, e, rfl⟩
  obtain rfl := e.symm
  rw [← hi]
  (repeat' (first | refine X.rq ?_ | (refine X.rc ?_ ?_ <;> intro hc <;> first | (exfalso; omega) | skip)))
  refine K.done (by first | exact Or.inl rfl | exact Or.inr rfl) rfl (by first | exact K.Base.le.refl _ | assumption) (H' := H') rfl ⟨rfl, rfl, rfl⟩
theorem IdxV (h : Base) (KK : List Asrt) (f : FuncId) (caps : List Value) (hcal : Callable Try.prog f) (v : Value) (es : List (List Value)) (p : Nat → Bool) (hv : SL h 3 v es) (hl : es.length ≤ 9223372036854775807)
    (hz : ∀ c ∈ es, c.length = 3) (hp : ∀ j cs, es[j]? = some cs → TrV Try.prog f (.agg cs.toArray :: caps) h KK (.bool (p j)) KK) :
    Tr Try.prog 50 [v, .func (.func f) #[] caps.toArray] h KK (fun u h' H' => ∃ i : Int, u = .int .i64 i ∧ decide (0 ≤ i) = (List.range es.length).any p ∧ h' = h ∧ H' = KK) := by
  obtain ⟨ao, ca, rfl⟩ := hv.len
  refine K.enter Try.func50 rfl (Nat.le_of_ble_eq_true rfl) (fun F => ?_)
  (repeat' (first | refine X.rq ?_ | (refine X.rc ?_ ?_ <;> intro hc <;> first | (exfalso; omega) | skip)))
  refine K.c_loop (σ := Nat) (fun j => [(0, .slice ao es.length ca), (1, .func (.func f) #[] caps.toArray), (6, .slice ao es.length ca), (7, .int .i64 es.length), (8, .int .i64 j)]) (fun _ => h) (fun _ => KK ++ F)
    (fun j => j ≤ es.length ∧ ∀ i, i < j → p i = false) (fun j => es.length - j) 0 ⟨Nat.zero_le _, fun i hi => by omega⟩ (by repeat (first | exact K.Sub.nil _ | refine K.Sub.cons rfl ?_)) rfl rfl ?_
  rintro j ⟨hj, hno⟩ KL hKL
  by_cases hjl : j < es.length
  · have hc1 : es[j]? = some es[j] := List.getElem?_eq_getElem hjl
    have hc0 : es[((j : Nat) : Int).toNat]? = some es[j] := by rw [Int.toNat_natCast]; exact hc1
    have hzj : es[j].length = 3 := hz _ (List.getElem_mem hjl)
    generalize es[j] = c at hc0 hc1 hzj
    (repeat' (first | refine X.rq ?_ | (refine X.rc ?_ ?_ <;> intro hc <;> first | (exfalso; omega) | skip)))
    refine K.s_pureE (K.p_indexL hv (Fx.und rfl) (Fx.sz rfl) rfl rfl (by omega) hc0) rfl ?_
    rintro v2 ⟨b, o, rfl, hcel⟩
    refine K.s_pure (K.p_loadM (Fx.agg rfl) rfl (Cels.up hcel) (Fx.sz rfl) hzj) rfl ?_
    refine K.l_callF (vals := [.agg c.toArray]) hcal rfl rfl (hp j c hc1) (List.Perm.refl _) rfl ?_
    rintro u h' H' - ⟨rfl, e, rfl⟩
    obtain rfl := e.symm
    cases hpj : p j with
    | true =>
      (repeat' (first | refine X.rq ?_ | (refine X.rc ?_ ?_ <;> intro hc <;> first | (exfalso; omega) | skip)))
      refine K.done (by first | exact Or.inl rfl | exact Or.inr rfl) rfl (by first | exact K.Base.le.refl _ | assumption) (H' := H') rfl ⟨j, rfl, ?_, rfl, rfl⟩
      rw [List.any_eq_true.2 ⟨j, List.mem_range.2 hjl, hpj⟩]
      exact decide_eq_true (by omega)
    | false =>
      (repeat' (first | refine X.rq ?_ | (refine X.rc ?_ ?_ <;> intro hc <;> first | (exfalso; omega) | skip)))
      refine K.a_round hKL (j + 1) ⟨by omega, fun i hi => ?_⟩ (by repeat (first | exact K.Sub.nil _ | refine K.Sub.cons rfl ?_)) rfl rfl (by omega)
      by_cases hij : i < j
      · exact hno i hij
      · obtain rfl : i = j := by omega
        exact hpj
  · obtain rfl : j = es.length := by omega
    (repeat' (first | refine X.rq ?_ | (refine X.rc ?_ ?_ <;> intro hc <;> first | (exfalso; omega) | skip)))
    refine K.done (by first | exact Or.inl rfl | exact Or.inr rfl) rfl (by first | exact K.Base.le.refl _ | assumption) (H' := KK) rfl ⟨-1, rfl, ?_, rfl, rfl⟩
    rw [List.any_eq_false.2 fun i hi => by rw [hno i (List.mem_range.1 hi)]; decide]
    exact decide_eq_false (by omega)
theorem CtnV (h : Base) (KK : List Asrt) (f : FuncId) (caps : List Value) (hcal : Callable Try.prog f) (v : Value) (es : List (List Value)) (p : Nat → Bool) (hv : SL h 3 v es) (hl : es.length ≤ 9223372036854775807)
    (hz : ∀ c ∈ es, c.length = 3) (hp : ∀ j cs, es[j]? = some cs → TrV Try.prog f (.agg cs.toArray :: caps) h KK (.bool (p j)) KK) :
    TrV Try.prog 34 [v, .func (.func f) #[] caps.toArray] h KK (.bool ((List.range es.length).any p)) KK := by
  refine K.enter Try.func34 rfl (Nat.le_of_ble_eq_true rfl) (fun F => ?_)
  (repeat' (first | refine X.rq ?_ | (refine X.rc ?_ ?_ <;> intro hc <;> first | (exfalso; omega) | skip)))
  refine K.l_call (Fx.cal rfl) rfl (IdxV h KK f caps hcal v es p hv hl hz hp) (List.Perm.refl _) rfl ?_
  rintro u h' H' - ⟨i, rfl, hi, e, rfl⟩
  obtain rfl := e.symm
  rw [← hi]
  (repeat' (first | refine X.rq ?_ | (refine X.rc ?_ ?_ <;> intro hc <;> first | (exfalso; omega) | skip)))
  refine K.done (by first | exact Or.inl rfl | exact Or.inr rfl) rfl (by first | exact K.Base.le.refl _ | assumption) (H' := H') rfl ⟨rfl, rfl, rfl⟩
/-! Expressions -/
inductive Ex where
  | mk (op : Int) (val : Val) (tb nm : ByteArray) (col : Int) (args : List Ex)
def cE (op : Int) (val : Val) (tb nm : ByteArray) (col : Int) (av : Value) : List Value := [.int .i64 op, .int .i64 val.kind, .int .i64 val.n, .string val.s, .string tb, .string nm, .int .i64 col, av]
/-- Cells that read as an expression, of a depth. -/
def ExC (h : Base) : Nat → List Value → Ex → Prop
  | 0, _, _ => False
  | m + 1, cs, .mk op val tb nm col args => (in64 op ∧ wfV val ∧ in64 col) ∧ ∃ av es, cs = cE op val tb nm col av ∧ SL h 8 av es ∧ es.length = args.length ∧ args.length ≤ 9223372036854775807 ∧ ∀ (j : Nat) c e, es[j]? = some c → args[j]? = some e → ExC h m c e
theorem ExC.le {h h' : Base} (hle : h.le h') : ∀ {m : Nat} {cs : List Value} {e : Ex}, ExC h m cs e → ExC h' m cs e
  | 0, _, _, hx => hx
  | m + 1, cs, .mk op val tb nm col args, ⟨h1, av, es, h2, h3, h4, h5, h6⟩ => ⟨h1, av, es, h2, h3.le hle, h4, h5, fun j c e a b => ExC.le hle (h6 j c e a b)⟩
theorem ExC.len {h : Base} : ∀ {m : Nat} {cs : List Value} {e : Ex}, ExC h m cs e → cs.length = 8
  | m + 1, cs, .mk op val tb nm col args, ⟨h1, av, es, h2, _⟩ => by rw [h2]; rfl
theorem SL.lens {h : Base} {sz : Nat} {v : Value} {es : List (List Value)} (hv : SL h sz v es) : ∀ c ∈ es, c.length = sz := fun c hc => by
  rcases hv with ⟨_, _, _, rfl⟩ | ⟨b, o, ca, _, _, hcs⟩
  · cases hc
  · obtain ⟨j, hj, e⟩ := List.getElem_of_mem hc
    rw [← e]; exact (hcs j hj).1
/-- How many parts an operator has. -/
def partsQ (op : Int) : Int := if op = 1 ∨ op = 3 then 0 else if 4 ≤ op ∧ op ≤ 7 then 1 else if 8 ≤ op ∧ op ≤ 21 then 2 else -1
theorem Parts (h : Base) (op : Int) : TrV Try.prog 23 [.int .i64 op] h [] (.int .i64 (partsQ op)) [] := by
  refine K.enter Try.func23 rfl (Nat.le_of_ble_eq_true rfl) (fun F => ?_)
  simp only [List.nil_append]
  (repeat' (first | refine X.rq ?_ | (refine X.rc ?_ ?_ <;> intro hc <;> first | (exfalso; omega) | skip)))
  all_goals
    refine K.done (by first | exact Or.inl rfl | exact Or.inr rfl) rfl (by first | exact K.Base.le.refl _ | assumption) (H' := []) rfl ⟨?_, rfl, rfl⟩
    show Value.int _ _ = Value.int _ _
    congr 1
    unfold partsQ
    split <;> (try split) <;> (try split) <;> omega
mutual
def rightQ (n : Int) : Ex → Bool
  | .mk op val tb nm col args => decide (partsQ op = args.length) && (decide (op = 1 → okV val = true) && decide (op = 3 → 0 ≤ col ∧ col < n)) && rightL n args
def rightL (n : Int) : List Ex → Bool
  | [] => true
  | e :: r => rightQ n e && rightL n r
end
theorem rightL_all (n : Int) : ∀ (l : List Ex), rightL n l = l.all (rightQ n)
  | [] => rfl
  | e :: r => by rw [rightL, rightL_all n r]; rfl
def safeOp (op : Int) : Prop := op = 1 ∨ op = 3 ∨ op = 5 ∨ op = 6 ∨ op = 7 ∨ (14 ≤ op ∧ op ≤ 21)
instance (op : Int) : Decidable (safeOp op) := by unfold safeOp; infer_instance
mutual
def safeQ : Ex → Bool
  | .mk op val tb nm col args => decide (safeOp op) && safeL args
def safeL : List Ex → Bool
  | [] => true
  | e :: r => safeQ e && safeL r
end
theorem safeL_all : ∀ (l : List Ex), safeL l = l.all safeQ
  | [] => rfl
  | e :: r => by rw [safeL, safeL_all r]; rfl
/-- Is one not so? -/
def noQ {α : Type} (q : α → Bool) (l : List α) (j : Nat) : Bool := ((l[j]?).map (fun e => !q e)).getD false
theorem noQ_at {α : Type} {q : α → Bool} {l : List α} {j : Nat} {e : α} (h : l[j]? = some e) : noQ q l j = !q e := by rw [noQ, h]; rfl
theorem any_no {α : Type} (q : α → Bool) (l : List α) : (List.range l.length).any (noQ q l) = !(l.all q) := by
  cases h : l.all q with
  | true =>
    rw [List.all_eq_true] at h
    refine List.any_eq_false.2 fun i hi => ?_
    have hlt := List.mem_range.1 hi
    rw [noQ_at (List.getElem?_eq_getElem hlt), h _ (List.getElem_mem hlt)]; decide
  | false =>
    obtain ⟨e, he, hq⟩ := List.all_eq_false.1 h
    obtain ⟨i, hi, e1⟩ := List.getElem_of_mem he
    refine List.any_eq_true.2 ⟨i, List.mem_range.2 hi, ?_⟩
    rw [noQ_at (List.getElem?_eq_getElem hi), e1]
    simpa using hq
theorem getE {α : Type} {l : List α} {j k : Nat} {es : List (List Value)} {c : List Value} (hl : es.length = l.length) (h : es[j]? = some c) : ∃ e, l[j]? = some e := by
  have := (List.getElem?_eq_some_iff.1 h).1
  exact ⟨_, List.getElem?_eq_getElem (by omega)⟩
theorem Right : ∀ (m : Nat) (h : Base) (cs : List Value) (e : Ex) (n : Int), ExC h m cs e → TrV Try.prog 9 [.agg cs.toArray, .int .i64 n] h [] (.bool (rightQ n e)) []
  | 0, h, cs, e, n, hx => hx.elim
  | m + 1, h, cs, .mk op val tb nm col args, n, ⟨⟨hop, hval, hcol⟩, av, es, hcs, hv, hel, hal, hr⟩ => by
    subst hcs
    have hz := SL.lens hv
    have ih := Right m h
    obtain ⟨ao, ca, rfl⟩ := hv.len
    rw [hel] at hv ⊢
    have clo : ∀ B T, ∀ j c, es[j]? = some c → TrV Try.prog 26 [.agg c.toArray, .pointer (some ⟨B, 0, none⟩)] h [blk B T [.int .i64 n]] (.bool (noQ (rightQ n) args j)) [blk B T [.int .i64 n]] := fun B T j c hj => by
      obtain ⟨e, he⟩ := getE (k := 0) hel hj
      have hc := hr j c e hj he
      rw [noQ_at he]
      refine K.enter Try.func26 rfl (Nat.le_of_ble_eq_true rfl) (fun F => ?_)
      (repeat' (first | refine X.rq ?_ | (refine X.rc ?_ ?_ <;> intro hc <;> first | (exfalso; omega) | skip)))
      refine K.l_box rfl rfl rfl (fun B1 => ?_)
      (repeat' (first | refine X.rq ?_ | (refine X.rc ?_ ?_ <;> intro hc <;> first | (exfalso; omega) | skip)))
      refine K.s_pure (K.p_loadW 0 rfl rfl (Fx.agg rfl) (by rw [hc.len]; exact (Fx.sz rfl))) rfl ?_
      (repeat' (first | refine X.rq ?_ | (refine X.rc ?_ ?_ <;> intro hc <;> first | (exfalso; omega) | skip)))
      refine K.l_callV (Fx.cal rfl) rfl (ih c e n hc) (K.pp [] rfl) rfl rfl ?_
      simp only [List.nil_append]
      (repeat' (first | refine X.rq ?_ | (refine X.rc ?_ ?_ <;> intro hc <;> first | (exfalso; omega) | skip)))
      refine K.AT.drop ?_
      refine K.done (by first | exact Or.inl rfl | exact Or.inr rfl) rfl (by first | exact K.Base.le.refl _ | assumption) (H' := [blk B T [.int .i64 n]]) rfl ⟨rfl, rfl, rfl⟩
    have hqq : rightQ n (Ex.mk op val tb nm col args) = (decide (partsQ op = args.length) && (decide (op = 1 → okV val = true) && decide (op = 3 → 0 ≤ col ∧ col < n)) && args.all (rightQ n)) := by rw [rightQ, rightL_all]
    rw [hqq]
    show TrV Try.prog 9 _ h [] _ []
    refine K.enter Try.func9 rfl (Nat.le_of_ble_eq_true rfl) (fun F => ?_)
    (repeat' (first | refine X.rq ?_ | (refine X.rc ?_ ?_ <;> intro hc <;> first | (exfalso; omega) | skip)))
    refine K.l_box rfl rfl rfl (fun B1 => ?_)
    refine K.l_box rfl rfl rfl (fun B2 => ?_)
    (repeat' (first | refine X.rq ?_ | (refine X.rc ?_ ?_ <;> intro hc <;> first | (exfalso; omega) | skip)))
    refine X.draw ([blk B2 3 [.int .i64 n], blk B1 26 (cE op val tb nm col (.slice ao args.length ca))]) [] (.pu 0 (.pu 3 (.st 1 (.st 4 (.pu 5 (.on 2 (.pu 6 .nil))))))) ?_
    refine K.d_pu rfl (fun _ _ => X.fa) rfl ?_
    refine K.d_pu rfl (fun _ _ => X.fa) rfl ?_
    refine K.d_st rfl X.ld rfl ?_
    refine K.d_st rfl X.ld rfl ?_
    refine K.d_pu rfl (fun _ _ => X.len) rfl ?_
    refine K.d_on rfl (fun KK hKK => ?_)
    refine K.l_callV (Fx.cal rfl) rfl (Parts h op) (K.pp [] rfl) rfl rfl ?_
    simp only [List.nil_append]
    refine K.l_nil ?_
    refine X.onE hKK ?_
    refine K.d_pu rfl (fun _ _ => X.bneq) rfl ?_
    refine K.d_nil ?_
    have no : ∀ q : Bool, q = false → ∀ E, AT Try.prog Try.f9.ntmps (K.post Try.prog Try.f9 fun v w' => ∃ h' H', h.le h' ∧ (v = Value.bool q ∧ h' = h ∧ H' = []) ∧ Ok h' (H' ++ F) w') .ret ((4, .bool false) :: E) h (blk B2 3 [.int .i64 n] :: blk B1 26 (cE op val tb nm col (.slice ao args.length ca)) :: F) := fun q e E => by
      subst e
      refine K.AT.sel [0, 0] rfl ?_
      refine K.done (by first | exact Or.inl rfl | exact Or.inr rfl) rfl (by first | exact K.Base.le.refl _ | assumption) (H' := []) rfl ⟨rfl, rfl, rfl⟩
    by_cases hp : partsQ op = args.length
    · by_cases h1 : op = 1
      · cases hov : okV val with
        | false =>
          (repeat' (first | refine X.rq ?_ | (refine X.rc ?_ ?_ <;> intro hc <;> first | (exfalso; omega) | skip)))
          refine K.s_pure (K.p_loadN (vs := cV val) (Fx.agg rfl) (Fx.sz rfl) rfl (K.cels_own (pre := [_]) (post := [_, _, _, _]) 1 rfl rfl)) rfl ?_
          (repeat' (first | refine X.rq ?_ | (refine X.rc ?_ ?_ <;> intro hc <;> first | (exfalso; omega) | skip)))
          refine K.l_callV (Fx.cal rfl) rfl (ValueMay h val hval) (K.pp [] rfl) rfl rfl ?_
          simp only [List.nil_append]
          rw [hov]
          (repeat' (first | refine X.rq ?_ | (refine X.rc ?_ ?_ <;> intro hc <;> first | (exfalso; omega) | skip)))
          exact no _ (by rw [decide_eq_false (show ¬ (op = 1 → false = true) from fun e => by cases e h1)]; simp) _
        | true =>
          have hf : (decide (partsQ op = args.length) && (decide (op = 1 → true = true) && decide (op = 3 → 0 ≤ col ∧ col < n)) && args.all (rightQ n)) = args.all (rightQ n) := by
            rw [decide_eq_true hp, decide_eq_true (show (op = 1 → true = true) from fun _ => rfl), decide_eq_true (show (op = 3 → 0 ≤ col ∧ col < n) by omega)]; rfl
          rw [hf]
          (repeat' (first | refine X.rq ?_ | (refine X.rc ?_ ?_ <;> intro hc <;> first | (exfalso; omega) | skip)))
          refine K.s_pure (K.p_loadN (vs := cV val) (Fx.agg rfl) (Fx.sz rfl) rfl (K.cels_own (pre := [_]) (post := [_, _, _, _]) 1 rfl rfl)) rfl ?_
          (repeat' (first | refine X.rq ?_ | (refine X.rc ?_ ?_ <;> intro hc <;> first | (exfalso; omega) | skip)))
          refine K.l_callV (Fx.cal rfl) rfl (ValueMay h val hval) (K.pp [] rfl) rfl rfl ?_
          simp only [List.nil_append]
          rw [hov]
          (repeat' (first | refine X.rq ?_ | (refine X.rc ?_ ?_ <;> intro hc <;> first | (exfalso; omega) | skip)))
          refine K.s_pure (K.p_makeFunc rfl) rfl ?_
          refine K.l_callV (Fx.cal rfl) rfl (CtnE h _ 26 [_] (Fx.cal rfl) _ es _ hv (by omega) hz (clo B2 3)) (K.pp [0] rfl) rfl rfl ?_
          simp only [List.cons_append, List.nil_append]
          rw [hel, any_no]
          (repeat' (first | refine X.rq ?_ | (refine X.rc ?_ ?_ <;> intro hc <;> first | (exfalso; omega) | skip)))
          rw [Bool.not_not]
          refine K.AT.sel [0, 0] rfl ?_
          refine K.done (by first | exact Or.inl rfl | exact Or.inr rfl) rfl (by first | exact K.Base.le.refl _ | assumption) (H' := []) rfl ⟨rfl, rfl, rfl⟩
      · by_cases h3 : op = 3 → 0 ≤ col ∧ col < n
        · have hf : (decide (partsQ op = args.length) && (decide (op = 1 → okV val = true) && decide (op = 3 → 0 ≤ col ∧ col < n)) && args.all (rightQ n)) = args.all (rightQ n) := by
            rw [decide_eq_true hp, decide_eq_true (show (op = 1 → okV val = true) from fun e => absurd e h1), decide_eq_true h3]; rfl
          rw [hf]
          (repeat' (first | refine X.rq ?_ | (refine X.rc ?_ ?_ <;> intro hc <;> first | (exfalso; omega) | skip)))
          all_goals
            refine K.s_pure (K.p_makeFunc rfl) rfl ?_
            refine K.l_callV (Fx.cal rfl) rfl (CtnE h _ 26 [_] (Fx.cal rfl) _ es _ hv (by omega) hz (clo B2 3)) (K.pp [0] rfl) rfl rfl ?_
            simp only [List.cons_append, List.nil_append]
            rw [hel, any_no]
            (repeat' (first | refine X.rq ?_ | (refine X.rc ?_ ?_ <;> intro hc <;> first | (exfalso; omega) | skip)))
            rw [Bool.not_not]
            refine K.AT.sel [0, 0] rfl ?_
            refine K.done (by first | exact Or.inl rfl | exact Or.inr rfl) rfl (by first | exact K.Base.le.refl _ | assumption) (H' := []) rfl ⟨rfl, rfl, rfl⟩
        · rw [decide_eq_false h3]
          (repeat' (first | refine X.rq ?_ | (refine X.rc ?_ ?_ <;> intro hc <;> first | (exfalso; omega) | skip)))
          all_goals exact no _ (by simp) _
    · rw [decide_eq_false hp]
      (repeat' (first | refine X.rq ?_ | (refine X.rc ?_ ?_ <;> intro hc <;> first | (exfalso; omega) | skip)))
      exact no _ (by simp) _
set_option maxHeartbeats 1000000 in
theorem Safe : ∀ (m : Nat) (h : Base) (cs : List Value) (e : Ex), ExC h m cs e → TrV Try.prog 13 [.agg cs.toArray] h [] (.bool (safeQ e)) []
  | 0, h, cs, e, hx => hx.elim
  | m + 1, h, cs, .mk op val tb nm col args, ⟨⟨hop, hval, hcol⟩, av, es, hcs, hv, hel, hal, hr⟩ => by
    subst hcs
    have hz := SL.lens hv
    have ih := Safe m h
    obtain ⟨ao, ca, rfl⟩ := hv.len
    rw [hel] at hv ⊢
    have clo : ∀ j c, es[j]? = some c → TrV Try.prog 29 [.agg c.toArray] h [] (.bool (noQ safeQ args j)) [] := fun j c hj => by
      obtain ⟨e, he⟩ := getE (k := 0) hel hj
      have hc := hr j c e hj he
      rw [noQ_at he]
      refine K.enter Try.func29 rfl (Nat.le_of_ble_eq_true rfl) (fun F => ?_)
      (repeat' (first | refine X.rq ?_ | (refine X.rc ?_ ?_ <;> intro hc <;> first | (exfalso; omega) | skip)))
      refine K.l_box rfl rfl rfl (fun B1 => ?_)
      (repeat' (first | refine X.rq ?_ | (refine X.rc ?_ ?_ <;> intro hc <;> first | (exfalso; omega) | skip)))
      refine K.s_pure (K.p_loadW 0 rfl rfl (Fx.agg rfl) (by rw [hc.len]; exact (Fx.sz rfl))) rfl ?_
      (repeat' (first | refine X.rq ?_ | (refine X.rc ?_ ?_ <;> intro hc <;> first | (exfalso; omega) | skip)))
      refine K.l_callV (Fx.cal rfl) rfl (ih c e hc) (K.pp [] rfl) rfl rfl ?_
      simp only [List.nil_append]
      (repeat' (first | refine X.rq ?_ | (refine X.rc ?_ ?_ <;> intro hc <;> first | (exfalso; omega) | skip)))
      refine K.AT.drop ?_
      refine K.done (by first | exact Or.inl rfl | exact Or.inr rfl) rfl (by first | exact K.Base.le.refl _ | assumption) (H' := []) rfl ⟨rfl, rfl, rfl⟩
    have hqq : safeQ (Ex.mk op val tb nm col args) = (decide (safeOp op) && args.all safeQ) := by rw [safeQ, safeL_all]
    rw [hqq]
    show TrV Try.prog 13 _ h [] _ []
    refine K.enter Try.func13 rfl (Nat.le_of_ble_eq_true rfl) (fun F => ?_)
    (repeat' (first | refine X.rq ?_ | (refine X.rc ?_ ?_ <;> intro hc <;> first | (exfalso; omega) | skip)))
    refine K.l_box rfl rfl rfl (fun B1 => ?_)
    by_cases hs : safeOp op
    · rw [decide_eq_true hs, Bool.true_and]
      unfold safeOp at hs
      (repeat' (first | refine X.rq ?_ | (refine X.rc ?_ ?_ <;> intro hc <;> first | (exfalso; omega) | skip)))
      all_goals
        refine K.l_callV (Fx.cal rfl) rfl (CtnE h _ 29 [] (Fx.cal rfl) _ es _ hv (by omega) hz clo) (K.pp [] rfl) rfl rfl ?_
        simp only [List.cons_append, List.nil_append]
        rw [hel, any_no]
        (repeat' (first | refine X.rq ?_ | (refine X.rc ?_ ?_ <;> intro hc <;> first | (exfalso; omega) | skip)))
        rw [Bool.not_not]
        refine K.AT.sel [0] rfl ?_
        refine K.done (by first | exact Or.inl rfl | exact Or.inr rfl) rfl (by first | exact K.Base.le.refl _ | assumption) (H' := []) rfl ⟨rfl, rfl, rfl⟩
    · rw [decide_eq_false hs, Bool.false_and]
      unfold safeOp at hs
      (repeat' (first | refine X.rq ?_ | (refine X.rc ?_ ?_ <;> intro hc <;> first | (exfalso; omega) | skip)))
      all_goals
        refine K.AT.sel [0] rfl ?_
        refine K.done (by first | exact Or.inl rfl | exact Or.inr rfl) rfl (by first | exact K.Base.le.refl _ | assumption) (H' := []) rfl ⟨rfl, rfl, rfl⟩
theorem clw (h : Base) (r : List Val) (hx : ∀ c ∈ r, wfV c) : ∀ j c, (r.map cV)[j]? = some c → TrV Try.prog 35 [.agg c.toArray] h [] (.bool (noQ okV r j)) [] := fun j c hj => by
  obtain ⟨v, hv⟩ := getE (k := 0) (List.length_map ..) hj
  rw [List.getElem?_map, hv] at hj
  cases hj
  rw [noQ_at hv]
  refine K.enter Try.func35 rfl (Nat.le_of_ble_eq_true rfl) (fun F => ?_)
  (repeat' (first | refine X.rq ?_ | (refine X.rc ?_ ?_ <;> intro hc <;> first | (exfalso; omega) | skip)))
  refine K.l_box rfl rfl rfl (fun B => ?_)
  (repeat' (first | refine X.rq ?_ | (refine X.rc ?_ ?_ <;> intro hc <;> first | (exfalso; omega) | skip)))
  refine K.l_callV (Fx.cal rfl) rfl (ValueMay h v (hx v (List.mem_of_getElem? hv))) (K.pp [] rfl) rfl rfl ?_
  simp only [List.nil_append]
  generalize okV v = q
  (repeat' (first | refine X.rq ?_ | (refine X.rc ?_ ?_ <;> intro hc <;> first | (exfalso; omega) | skip)))
  refine K.AT.drop ?_
  refine K.done (by first | exact Or.inl rfl | exact Or.inr rfl) rfl (by first | exact K.Base.le.refl _ | assumption) (H' := []) rfl ⟨rfl, rfl, rfl⟩
theorem Whole (h : Base) (v : Value) (r : List Val) (hv : SL h 3 v (r.map cV)) (hx : ∀ c ∈ r, wfV c) (hr : r.length ≤ 9223372036854775807) : TrV Try.prog 27 [v] h [] (.bool (r.all okV)) [] := by
  have hlen : (r.map cV).length = r.length := List.length_map ..
  refine K.enter Try.func27 rfl (Nat.le_of_ble_eq_true rfl) (fun F => ?_)
  simp only [List.nil_append]
  (repeat' (first | refine X.rq ?_ | (refine X.rc ?_ ?_ <;> intro hc <;> first | (exfalso; omega) | skip)))
  refine K.l_callV (Fx.cal rfl) rfl (CtnV h _ 35 [] (Fx.cal rfl) _ _ _ hv (by omega) (SL.lens hv) (clw h r hx)) (K.pp [] rfl) rfl rfl ?_
  simp only [List.nil_append]
  rw [hlen, any_no]
  generalize r.all okV = q
  (repeat' (first | refine X.rq ?_ | (refine X.rc ?_ ?_ <;> intro hc <;> first | (exfalso; omega) | skip)))
  rw [Bool.not_not]
  refine K.done (by first | exact Or.inl rfl | exact Or.inr rfl) rfl (by first | exact K.Base.le.refl _ | assumption) (H' := []) rfl ⟨rfl, rfl, rfl⟩
end Go.Proofs.Ytmkhejdamjibgaa.Rw
