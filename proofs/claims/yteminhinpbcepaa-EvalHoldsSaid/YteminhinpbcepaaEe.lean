/-
  Expressions: what they are in memory; whether they are right, and safe. Conditions: each theorem's own.
-/
import Derived.Test.YteminhinpbcepaaEd

namespace Go.Proofs.Yteminhinpbcepaa.Rw
open Go Go.K Go.Proofs Go.Proofs.Yteminhinpbcepaa
set_option linter.unusedVariables false
set_option linter.unusedSimpArgs false
set_option maxRecDepth 10000

theorem IdxE (h : Base) (KK : List Asrt) (f : FuncId) (caps : List Value) (hcal : Callable Try.prog f) (v : Value) (es : List (List Value)) (p : Nat → Bool) (hv : SL h 8 v es) (hl : es.length ≤ 9223372036854775807)
    (hz : ∀ c ∈ es, c.length = 8) (hp : ∀ j cs, es[j]? = some cs → TrV Try.prog f (.agg cs.toArray :: caps) h KK (.bool (p j)) KK) :
    Tr Try.prog 53 [v, .func (.func f) #[] caps.toArray] h KK (fun u h' H' => ∃ i : Int, u = .int .i64 i ∧ decide (0 ≤ i) = (List.range es.length).any p ∧ h' = h ∧ H' = KK) := by
  obtain ⟨ao, ca, rfl⟩ := hv.len
  refine K.enter Try.func53 rfl (Nat.le_of_ble_eq_true rfl) (fun F => ?_)
  (repeat' (first | (apply K.s_pure; (first | (apply Y.mv; exact X.mv) | (apply Y.sg; exact X.sg) | (apply Y.ld; exact X.ld) | (apply Y.ia; exact X.ia) | (apply Y.len; exact X.len) | (apply Y.badd; exact X.badd) | (apply Y.blss; exact X.blss)); exact rfl) | refine X.l ?_ | refine X.w ?_ | refine X.a ?_ | (refine K.c_condD rfl (fun hc => ?_) (fun hc => ?_) <;> first | (exfalso; omega) | skip) | refine K.c_cond rfl (fun hc => ?_) (fun hc => ?_)))
  refine K.c_loop (σ := Nat) (fun j => [(0, .slice ao es.length ca), (1, .func (.func f) #[] caps.toArray), (6, .slice ao es.length ca), (7, .int .i64 es.length), (8, .int .i64 j)]) (fun _ => h) (fun _ => KK ++ F)
    (fun j => j ≤ es.length ∧ ∀ i, i < j → p i = false) (fun j => es.length - j) 0 ⟨Nat.zero_le _, fun i hi => by omega⟩ (by repeat (first | exact K.Sub.nil _ | refine K.Sub.cons rfl ?_)) rfl rfl ?_
  rintro j ⟨hj, hno⟩ KL hKL
  by_cases hjl : j < es.length
  · have hc1 : es[j]? = some es[j] := List.getElem?_eq_getElem hjl
    have hc0 : es[((j : Nat) : Int).toNat]? = some es[j] := by rw [Int.toNat_natCast]; exact hc1
    have hzj : es[j].length = 8 := hz _ (List.getElem_mem hjl)
    generalize es[j] = c at hc0 hc1 hzj
    (repeat' (first | (apply K.s_pure; (first | (apply Y.mv; exact X.mv) | (apply Y.sg; exact X.sg) | (apply Y.ld; exact X.ld) | (apply Y.ia; exact X.ia) | (apply Y.len; exact X.len) | (apply Y.badd; exact X.badd) | (apply Y.blss; exact X.blss)); exact rfl) | refine X.l ?_ | refine X.w ?_ | refine X.a ?_ | (refine K.c_condD rfl (fun hc => ?_) (fun hc => ?_) <;> first | (exfalso; omega) | skip) | refine K.c_cond rfl (fun hc => ?_) (fun hc => ?_)))
    refine K.s_pureE (K.p_indexL hv (Fx.und rfl) (Fx.sz rfl) rfl rfl (by omega) hc0) rfl ?_
    rintro v2 ⟨b, o, rfl, hcel⟩
    refine K.s_pure (K.p_loadM (Fx.agg rfl) rfl (Cels.up hcel) (Fx.sz rfl) hzj) rfl ?_
    refine K.l_callF (vals := [.agg c.toArray]) hcal rfl rfl (hp j c hc1) (List.Perm.refl _) rfl ?_
    rintro u h' H' - ⟨rfl, e, rfl⟩
    obtain rfl := e.symm
    cases hpj : p j with
    | true =>
      (repeat' (first | (apply K.s_pure; (first | (apply Y.mv; exact X.mv) | (apply Y.sg; exact X.sg) | (apply Y.ld; exact X.ld) | (apply Y.ia; exact X.ia) | (apply Y.len; exact X.len) | (apply Y.badd; exact X.badd) | (apply Y.blss; exact X.blss)); exact rfl) | refine X.l ?_ | refine X.w ?_ | refine X.a ?_ | (refine K.c_condD rfl (fun hc => ?_) (fun hc => ?_) <;> first | (exfalso; omega) | skip) | refine K.c_cond rfl (fun hc => ?_) (fun hc => ?_)))
      refine K.done (by first | exact Or.inl rfl | exact Or.inr rfl) rfl (by first | exact K.Base.le.refl _ | assumption) (H' := H') rfl ⟨j, rfl, ?_, rfl, rfl⟩
      rw [List.any_eq_true.2 ⟨j, List.mem_range.2 hjl, hpj⟩]
      exact decide_eq_true (by omega)
    | false =>
      (repeat' (first | (apply K.s_pure; (first | (apply Y.mv; exact X.mv) | (apply Y.sg; exact X.sg) | (apply Y.ld; exact X.ld) | (apply Y.ia; exact X.ia) | (apply Y.len; exact X.len) | (apply Y.badd; exact X.badd) | (apply Y.blss; exact X.blss)); exact rfl) | refine X.l ?_ | refine X.w ?_ | refine X.a ?_ | (refine K.c_condD rfl (fun hc => ?_) (fun hc => ?_) <;> first | (exfalso; omega) | skip) | refine K.c_cond rfl (fun hc => ?_) (fun hc => ?_)))
      refine K.a_round hKL (j + 1) ⟨by omega, fun i hi => ?_⟩ (by repeat (first | exact K.Sub.nil _ | refine K.Sub.cons rfl ?_)) rfl rfl (by omega)
      by_cases hij : i < j
      · exact hno i hij
      · obtain rfl : i = j := by omega
        exact hpj
  · obtain rfl : j = es.length := by omega
    (repeat' (first | (apply K.s_pure; (first | (apply Y.mv; exact X.mv) | (apply Y.sg; exact X.sg) | (apply Y.ld; exact X.ld) | (apply Y.ia; exact X.ia) | (apply Y.len; exact X.len) | (apply Y.badd; exact X.badd) | (apply Y.blss; exact X.blss)); exact rfl) | refine X.l ?_ | refine X.w ?_ | refine X.a ?_ | (refine K.c_condD rfl (fun hc => ?_) (fun hc => ?_) <;> first | (exfalso; omega) | skip) | refine K.c_cond rfl (fun hc => ?_) (fun hc => ?_)))
    refine K.done (by first | exact Or.inl rfl | exact Or.inr rfl) rfl (by first | exact K.Base.le.refl _ | assumption) (H' := KK) rfl ⟨-1, rfl, ?_, rfl, rfl⟩
    rw [List.any_eq_false.2 fun i hi => by rw [hno i (List.mem_range.1 hi)]; decide]
    exact decide_eq_false (by omega)
theorem CtnE (h : Base) (KK : List Asrt) (f : FuncId) (caps : List Value) (hcal : Callable Try.prog f) (v : Value) (es : List (List Value)) (p : Nat → Bool) (hv : SL h 8 v es) (hl : es.length ≤ 9223372036854775807)
    (hz : ∀ c ∈ es, c.length = 8) (hp : ∀ j cs, es[j]? = some cs → TrV Try.prog f (.agg cs.toArray :: caps) h KK (.bool (p j)) KK) :
    TrV Try.prog 29 [v, .func (.func f) #[] caps.toArray] h KK (.bool ((List.range es.length).any p)) KK := by
  refine K.enter Try.func29 rfl (Nat.le_of_ble_eq_true rfl) (fun F => ?_)
  (repeat' (first | (apply K.s_pure; (first | (apply Y.mv; exact X.mv) | (apply Y.sg; exact X.sg) | (apply Y.bgeq; exact X.bgeq)); exact rfl) | refine X.l ?_ | refine X.w ?_ | refine X.a ?_ | (refine K.c_condD rfl (fun hc => ?_) (fun hc => ?_) <;> first | (exfalso; omega) | skip) | refine K.c_cond rfl (fun hc => ?_) (fun hc => ?_)))
  refine K.l_call (Fx.cal rfl) rfl (IdxE h KK f caps hcal v es p hv hl hz hp) (List.Perm.refl _) rfl ?_
  rintro u h' H' - ⟨i, rfl, hi, e, rfl⟩
  obtain rfl := e.symm
  rw [← hi]
  (repeat' (first | (apply K.s_pure; (first | (apply Y.mv; exact X.mv) | (apply Y.sg; exact X.sg) | (apply Y.bgeq; exact X.bgeq)); exact rfl) | refine X.l ?_ | refine X.w ?_ | refine X.a ?_ | (refine K.c_condD rfl (fun hc => ?_) (fun hc => ?_) <;> first | (exfalso; omega) | skip) | refine K.c_cond rfl (fun hc => ?_) (fun hc => ?_)))
  refine K.done (by first | exact Or.inl rfl | exact Or.inr rfl) rfl (by first | exact K.Base.le.refl _ | assumption) (H' := H') rfl ⟨rfl, rfl, rfl⟩
theorem IdxV (h : Base) (KK : List Asrt) (f : FuncId) (caps : List Value) (hcal : Callable Try.prog f) (v : Value) (es : List (List Value)) (p : Nat → Bool) (hv : SL h 3 v es) (hl : es.length ≤ 9223372036854775807)
    (hz : ∀ c ∈ es, c.length = 3) (hp : ∀ j cs, es[j]? = some cs → TrV Try.prog f (.agg cs.toArray :: caps) h KK (.bool (p j)) KK) :
    Tr Try.prog 56 [v, .func (.func f) #[] caps.toArray] h KK (fun u h' H' => ∃ i : Int, u = .int .i64 i ∧ decide (0 ≤ i) = (List.range es.length).any p ∧ h' = h ∧ H' = KK) := by
  obtain ⟨ao, ca, rfl⟩ := hv.len
  refine K.enter Try.func56 rfl (Nat.le_of_ble_eq_true rfl) (fun F => ?_)
  (repeat' (first | (apply K.s_pure; (first | (apply Y.mv; exact X.mv) | (apply Y.sg; exact X.sg) | (apply Y.ld; exact X.ld) | (apply Y.ia; exact X.ia) | (apply Y.len; exact X.len) | (apply Y.badd; exact X.badd) | (apply Y.blss; exact X.blss)); exact rfl) | refine X.l ?_ | refine X.w ?_ | refine X.a ?_ | (refine K.c_condD rfl (fun hc => ?_) (fun hc => ?_) <;> first | (exfalso; omega) | skip) | refine K.c_cond rfl (fun hc => ?_) (fun hc => ?_)))
  refine K.c_loop (σ := Nat) (fun j => [(0, .slice ao es.length ca), (1, .func (.func f) #[] caps.toArray), (6, .slice ao es.length ca), (7, .int .i64 es.length), (8, .int .i64 j)]) (fun _ => h) (fun _ => KK ++ F)
    (fun j => j ≤ es.length ∧ ∀ i, i < j → p i = false) (fun j => es.length - j) 0 ⟨Nat.zero_le _, fun i hi => by omega⟩ (by repeat (first | exact K.Sub.nil _ | refine K.Sub.cons rfl ?_)) rfl rfl ?_
  rintro j ⟨hj, hno⟩ KL hKL
  by_cases hjl : j < es.length
  · have hc1 : es[j]? = some es[j] := List.getElem?_eq_getElem hjl
    have hc0 : es[((j : Nat) : Int).toNat]? = some es[j] := by rw [Int.toNat_natCast]; exact hc1
    have hzj : es[j].length = 3 := hz _ (List.getElem_mem hjl)
    generalize es[j] = c at hc0 hc1 hzj
    (repeat' (first | (apply K.s_pure; (first | (apply Y.mv; exact X.mv) | (apply Y.sg; exact X.sg) | (apply Y.ld; exact X.ld) | (apply Y.ia; exact X.ia) | (apply Y.len; exact X.len) | (apply Y.badd; exact X.badd) | (apply Y.blss; exact X.blss)); exact rfl) | refine X.l ?_ | refine X.w ?_ | refine X.a ?_ | (refine K.c_condD rfl (fun hc => ?_) (fun hc => ?_) <;> first | (exfalso; omega) | skip) | refine K.c_cond rfl (fun hc => ?_) (fun hc => ?_)))
    refine K.s_pureE (K.p_indexL hv (Fx.und rfl) (Fx.sz rfl) rfl rfl (by omega) hc0) rfl ?_
    rintro v2 ⟨b, o, rfl, hcel⟩
    refine K.s_pure (K.p_loadM (Fx.agg rfl) rfl (Cels.up hcel) (Fx.sz rfl) hzj) rfl ?_
    refine K.l_callF (vals := [.agg c.toArray]) hcal rfl rfl (hp j c hc1) (List.Perm.refl _) rfl ?_
    rintro u h' H' - ⟨rfl, e, rfl⟩
    obtain rfl := e.symm
    cases hpj : p j with
    | true =>
      (repeat' (first | (apply K.s_pure; (first | (apply Y.mv; exact X.mv) | (apply Y.sg; exact X.sg) | (apply Y.ld; exact X.ld) | (apply Y.ia; exact X.ia) | (apply Y.len; exact X.len) | (apply Y.badd; exact X.badd) | (apply Y.blss; exact X.blss)); exact rfl) | refine X.l ?_ | refine X.w ?_ | refine X.a ?_ | (refine K.c_condD rfl (fun hc => ?_) (fun hc => ?_) <;> first | (exfalso; omega) | skip) | refine K.c_cond rfl (fun hc => ?_) (fun hc => ?_)))
      refine K.done (by first | exact Or.inl rfl | exact Or.inr rfl) rfl (by first | exact K.Base.le.refl _ | assumption) (H' := H') rfl ⟨j, rfl, ?_, rfl, rfl⟩
      rw [List.any_eq_true.2 ⟨j, List.mem_range.2 hjl, hpj⟩]
      exact decide_eq_true (by omega)
    | false =>
      (repeat' (first | (apply K.s_pure; (first | (apply Y.mv; exact X.mv) | (apply Y.sg; exact X.sg) | (apply Y.ld; exact X.ld) | (apply Y.ia; exact X.ia) | (apply Y.len; exact X.len) | (apply Y.badd; exact X.badd) | (apply Y.blss; exact X.blss)); exact rfl) | refine X.l ?_ | refine X.w ?_ | refine X.a ?_ | (refine K.c_condD rfl (fun hc => ?_) (fun hc => ?_) <;> first | (exfalso; omega) | skip) | refine K.c_cond rfl (fun hc => ?_) (fun hc => ?_)))
      refine K.a_round hKL (j + 1) ⟨by omega, fun i hi => ?_⟩ (by repeat (first | exact K.Sub.nil _ | refine K.Sub.cons rfl ?_)) rfl rfl (by omega)
      by_cases hij : i < j
      · exact hno i hij
      · obtain rfl : i = j := by omega
        exact hpj
  · obtain rfl : j = es.length := by omega
    (repeat' (first | (apply K.s_pure; (first | (apply Y.mv; exact X.mv) | (apply Y.sg; exact X.sg) | (apply Y.ld; exact X.ld) | (apply Y.ia; exact X.ia) | (apply Y.len; exact X.len) | (apply Y.badd; exact X.badd) | (apply Y.blss; exact X.blss)); exact rfl) | refine X.l ?_ | refine X.w ?_ | refine X.a ?_ | (refine K.c_condD rfl (fun hc => ?_) (fun hc => ?_) <;> first | (exfalso; omega) | skip) | refine K.c_cond rfl (fun hc => ?_) (fun hc => ?_)))
    refine K.done (by first | exact Or.inl rfl | exact Or.inr rfl) rfl (by first | exact K.Base.le.refl _ | assumption) (H' := KK) rfl ⟨-1, rfl, ?_, rfl, rfl⟩
    rw [List.any_eq_false.2 fun i hi => by rw [hno i (List.mem_range.1 hi)]; decide]
    exact decide_eq_false (by omega)
theorem CtnV (h : Base) (KK : List Asrt) (f : FuncId) (caps : List Value) (hcal : Callable Try.prog f) (v : Value) (es : List (List Value)) (p : Nat → Bool) (hv : SL h 3 v es) (hl : es.length ≤ 9223372036854775807)
    (hz : ∀ c ∈ es, c.length = 3) (hp : ∀ j cs, es[j]? = some cs → TrV Try.prog f (.agg cs.toArray :: caps) h KK (.bool (p j)) KK) :
    TrV Try.prog 41 [v, .func (.func f) #[] caps.toArray] h KK (.bool ((List.range es.length).any p)) KK := by
  refine K.enter Try.func41 rfl (Nat.le_of_ble_eq_true rfl) (fun F => ?_)
  (repeat' (first | (apply K.s_pure; (first | (apply Y.mv; exact X.mv) | (apply Y.sg; exact X.sg) | (apply Y.bgeq; exact X.bgeq)); exact rfl) | refine X.l ?_ | refine X.w ?_ | refine X.a ?_ | (refine K.c_condD rfl (fun hc => ?_) (fun hc => ?_) <;> first | (exfalso; omega) | skip) | refine K.c_cond rfl (fun hc => ?_) (fun hc => ?_)))
  refine K.l_call (Fx.cal rfl) rfl (IdxV h KK f caps hcal v es p hv hl hz hp) (List.Perm.refl _) rfl ?_
  rintro u h' H' - ⟨i, rfl, hi, e, rfl⟩
  obtain rfl := e.symm
  rw [← hi]
  (repeat' (first | (apply K.s_pure; (first | (apply Y.mv; exact X.mv) | (apply Y.sg; exact X.sg) | (apply Y.bgeq; exact X.bgeq)); exact rfl) | refine X.l ?_ | refine X.w ?_ | refine X.a ?_ | (refine K.c_condD rfl (fun hc => ?_) (fun hc => ?_) <;> first | (exfalso; omega) | skip) | refine K.c_cond rfl (fun hc => ?_) (fun hc => ?_)))
  refine K.done (by first | exact Or.inl rfl | exact Or.inr rfl) rfl (by first | exact K.Base.le.refl _ | assumption) (H' := H') rfl ⟨rfl, rfl, rfl⟩
/-! Expressions -/
inductive Ex where
  | mk (op : Int) (val : Val) (tb nm : ByteArray) (col : Int) (args : List Ex)
def cE (op : Int) (val : Val) (tb nm : ByteArray) (col : Int) (av : Value) : List Value := [.int .i64 op, .int .i64 val.kind, .int .i64 val.n, .string val.s, .string tb, .string nm, .int .i64 col, av]
/-- Cells that read as an expression, of a depth. -/
def ExC (h : Base) : Nat → List Value → Ex → Prop
  | 0, _, _ => False
  | m + 1, cs, .mk op val tb nm col args => (in64 op ∧ wfV val ∧ in64 col) ∧ ∃ av es, cs = cE op val tb nm col av ∧ SL h 8 av es ∧ es.length = args.length ∧ args.length ≤ 9223372036854775807 ∧ ∀ (j : Nat) c e, es[j]? = some c → args[j]? = some e → ExC h m c e
theorem ExC.le {h h' : Base} (hle : h.le h') : ∀ {m : Nat} {cs : List Value} {e : Ex}, ExC h m cs e → ExC h' m cs e
  | 0, _, _, hx => hx
  | m + 1, cs, .mk op val tb nm col args, ⟨h1, av, es, h2, h3, h4, h5, h6⟩ => ⟨h1, av, es, h2, h3.le hle, h4, h5, fun j c e a b => ExC.le hle (h6 j c e a b)⟩
theorem ExC.len {h : Base} : ∀ {m : Nat} {cs : List Value} {e : Ex}, ExC h m cs e → cs.length = 8
  | m + 1, cs, .mk op val tb nm col args, ⟨h1, av, es, h2, _⟩ => by rw [h2]; rfl
theorem SL.lens {h : Base} {sz : Nat} {v : Value} {es : List (List Value)} (hv : SL h sz v es) : ∀ c ∈ es, c.length = sz := fun c hc => by
  rcases hv with ⟨_, _, _, rfl⟩ | ⟨b, o, ca, _, _, hcs⟩
  · cases hc
  · obtain ⟨j, hj, e⟩ := List.getElem_of_mem hc
    rw [← e]; exact (hcs j hj).1
/-- How many parts an operator has. -/
def partsQ (op : Int) : Int := if op = 1 ∨ op = 3 then 0 else if 4 ≤ op ∧ op ≤ 7 then 1 else if 8 ≤ op ∧ op ≤ 21 then 2 else -1
theorem Parts (h : Base) (op : Int) : TrV Try.prog 27 [.int .i64 op] h [] (.int .i64 (partsQ op)) [] := by
  refine K.enter Try.func27 rfl (Nat.le_of_ble_eq_true rfl) (fun F => ?_)
  simp only [List.nil_append]
  (repeat' (first | (apply K.s_pure; (first | (apply Y.mv; exact X.mv) | (apply Y.sg; exact X.sg) | (apply Y.pk; exact X.pk) | (apply Y.beql; exact X.beql) | (apply Y.bleq; exact X.bleq) | (apply Y.bgeq; exact X.bgeq)); exact rfl) | refine X.l ?_ | refine X.w ?_ | refine X.a ?_ | (refine K.c_condD rfl (fun hc => ?_) (fun hc => ?_) <;> first | (exfalso; omega) | skip) | refine K.c_cond rfl (fun hc => ?_) (fun hc => ?_) | (refine K.s_guardD rfl rfl (fun hc => ?_) (fun hc => ?_) <;> first | (exfalso; omega) | skip) | refine K.s_guard rfl rfl (fun hc => ?_) (fun hc => ?_)))
  all_goals
    refine K.done (by first | exact Or.inl rfl | exact Or.inr rfl) rfl (by first | exact K.Base.le.refl _ | assumption) (H' := []) rfl ⟨?_, rfl, rfl⟩
    show Value.int _ _ = Value.int _ _
    congr 1
    unfold partsQ
    split <;> (try split) <;> (try split) <;> omega
mutual
def rightQ (n : Int) : Ex → Bool
  | .mk op val tb nm col args => decide (partsQ op = args.length) && (decide (op = 1 → okV val = true) && decide (op = 3 → 0 ≤ col ∧ col < n)) && rightL n args
def rightL (n : Int) : List Ex → Bool
  | [] => true
  | e :: r => rightQ n e && rightL n r
end
theorem rightL_all (n : Int) : ∀ (l : List Ex), rightL n l = l.all (rightQ n)
  | [] => rfl
  | e :: r => by rw [rightL, rightL_all n r]; rfl
def safeOp (op : Int) : Prop := op = 1 ∨ op = 3 ∨ op = 5 ∨ op = 6 ∨ op = 7 ∨ (14 ≤ op ∧ op ≤ 21)
instance (op : Int) : Decidable (safeOp op) := by unfold safeOp; infer_instance
mutual
def safeQ : Ex → Bool
  | .mk op val tb nm col args => decide (safeOp op) && safeL args
def safeL : List Ex → Bool
  | [] => true
  | e :: r => safeQ e && safeL r
end
theorem safeL_all : ∀ (l : List Ex), safeL l = l.all safeQ
  | [] => rfl
  | e :: r => by rw [safeL, safeL_all r]; rfl
/-- Is one not so? -/
def noQ {α : Type} (q : α → Bool) (l : List α) (j : Nat) : Bool := ((l[j]?).map (fun e => !q e)).getD false
theorem noQ_at {α : Type} {q : α → Bool} {l : List α} {j : Nat} {e : α} (h : l[j]? = some e) : noQ q l j = !q e := by rw [noQ, h]; rfl
theorem any_no {α : Type} (q : α → Bool) (l : List α) : (List.range l.length).any (noQ q l) = !(l.all q) := by
  cases h : l.all q with
  | true =>
    rw [List.all_eq_true] at h
    refine List.any_eq_false.2 fun i hi => ?_
    have hlt := List.mem_range.1 hi
    rw [noQ_at (List.getElem?_eq_getElem hlt), h _ (List.getElem_mem hlt)]; decide
  | false =>
    obtain ⟨e, he, hq⟩ := List.all_eq_false.1 h
    obtain ⟨i, hi, e1⟩ := List.getElem_of_mem he
    refine List.any_eq_true.2 ⟨i, List.mem_range.2 hi, ?_⟩
    rw [noQ_at (List.getElem?_eq_getElem hi), e1]
    simpa using hq
theorem getE {α : Type} {l : List α} {j k : Nat} {es : List (List Value)} {c : List Value} (hl : es.length = l.length) (h : es[j]? = some c) : ∃ e, l[j]? = some e := by
  have := (List.getElem?_eq_some_iff.1 h).1
  exact ⟨_, List.getElem?_eq_getElem (by omega)⟩
theorem Right : ∀ (m : Nat) (h : Base) (cs : List Value) (e : Ex) (n : Int), ExC h m cs e → TrV Try.prog 10 [.agg cs.toArray, .int .i64 n] h [] (.bool (rightQ n e)) []
  | 0, h, cs, e, n, hx => hx.elim
  | m + 1, h, cs, .mk op val tb nm col args, n, ⟨⟨hop, hval, hcol⟩, av, es, hcs, hv, hel, hal, hr⟩ => by
    subst hcs
    have hz := SL.lens hv
    have ih := Right m h
    obtain ⟨ao, ca, rfl⟩ := hv.len
    rw [hel] at hv ⊢
    have clo : ∀ B T, ∀ j c, es[j]? = some c → TrV Try.prog 30 [.agg c.toArray, .pointer (some ⟨B, 0, none⟩)] h [blk B T [.int .i64 n]] (.bool (noQ (rightQ n) args j)) [blk B T [.int .i64 n]] := fun B T j c hj => by
      obtain ⟨e, he⟩ := getE (k := 0) hel hj
      have hc := hr j c e hj he
      rw [noQ_at he]
      refine K.enter Try.func30 rfl (Nat.le_of_ble_eq_true rfl) (fun F => ?_)
      (repeat' (first | (apply K.s_pure; (first | (apply Y.sg; exact X.sg) | (apply Y.ld; exact X.ld) | (apply Y.nt; exact X.nt)); exact rfl) | refine X.l ?_ | refine X.w ?_ | refine X.a ?_ | (refine K.c_condD rfl (fun hc => ?_) (fun hc => ?_) <;> first | (exfalso; omega) | skip) | refine K.c_cond rfl (fun hc => ?_) (fun hc => ?_)))
      refine K.l_box rfl rfl rfl (fun B1 => ?_)
      (repeat' (first | (apply K.s_pure; (first | (apply Y.sg; exact X.sg) | (apply Y.ld; exact X.ld) | (apply Y.nt; exact X.nt)); exact rfl) | refine X.l ?_ | refine X.w ?_ | refine X.a ?_ | (refine K.c_condD rfl (fun hc => ?_) (fun hc => ?_) <;> first | (exfalso; omega) | skip) | refine K.c_cond rfl (fun hc => ?_) (fun hc => ?_)))
      refine K.s_pure (K.p_loadW 0 rfl rfl (Fx.agg rfl) (by rw [hc.len]; exact (Fx.sz rfl))) rfl ?_
      (repeat' (first | (apply K.s_pure; (first | (apply Y.sg; exact X.sg) | (apply Y.ld; exact X.ld) | (apply Y.nt; exact X.nt)); exact rfl) | refine X.l ?_ | refine X.w ?_ | refine X.a ?_ | (refine K.c_condD rfl (fun hc => ?_) (fun hc => ?_) <;> first | (exfalso; omega) | skip) | refine K.c_cond rfl (fun hc => ?_) (fun hc => ?_)))
      refine K.l_callV (Fx.cal rfl) rfl (ih c e n hc) (K.pp [] rfl) rfl rfl ?_
      simp only [List.nil_append]
      (repeat' (first | (apply K.s_pure; (first | (apply Y.sg; exact X.sg) | (apply Y.ld; exact X.ld) | (apply Y.nt; exact X.nt)); exact rfl) | refine X.l ?_ | refine X.w ?_ | refine X.a ?_ | (refine K.c_condD rfl (fun hc => ?_) (fun hc => ?_) <;> first | (exfalso; omega) | skip) | refine K.c_cond rfl (fun hc => ?_) (fun hc => ?_)))
      refine K.AT.drop ?_
      refine K.done (by first | exact Or.inl rfl | exact Or.inr rfl) rfl (by first | exact K.Base.le.refl _ | assumption) (H' := [blk B T [.int .i64 n]]) rfl ⟨rfl, rfl, rfl⟩
    have hqq : rightQ n (Ex.mk op val tb nm col args) = (decide (partsQ op = args.length) && (decide (op = 1 → okV val = true) && decide (op = 3 → 0 ≤ col ∧ col < n)) && args.all (rightQ n)) := by rw [rightQ, rightL_all]
    rw [hqq]
    show TrV Try.prog 10 _ h [] _ []
    refine K.enter Try.func10 rfl (Nat.le_of_ble_eq_true rfl) (fun F => ?_)
    (repeat' (first | (apply K.s_pure; (first | (apply Y.mv; exact X.mv) | (apply Y.sg; exact X.sg) | (apply Y.pk; exact X.pk) | (apply Y.fa; exact X.fa) | (apply Y.ld; exact X.ld) | (apply Y.len; exact X.len) | (apply Y.nt; exact X.nt) | (apply Y.beql; exact X.beql) | (apply Y.bneq; exact X.bneq) | (apply Y.blss; exact X.blss) | (apply Y.bgeq; exact X.bgeq)); exact rfl) | refine X.l ?_ | refine X.w ?_ | refine X.a ?_ | (refine K.c_condD rfl (fun hc => ?_) (fun hc => ?_) <;> first | (exfalso; omega) | skip) | refine K.c_cond rfl (fun hc => ?_) (fun hc => ?_) | (refine K.s_guardD rfl rfl (fun hc => ?_) (fun hc => ?_) <;> first | (exfalso; omega) | skip) | refine K.s_guard rfl rfl (fun hc => ?_) (fun hc => ?_)))
    refine K.l_box rfl rfl rfl (fun B1 => ?_)
    refine K.l_box rfl rfl rfl (fun B2 => ?_)
    (repeat' (first | (apply K.s_pure; (first | (apply Y.mv; exact X.mv) | (apply Y.sg; exact X.sg) | (apply Y.pk; exact X.pk) | (apply Y.fa; exact X.fa) | (apply Y.ld; exact X.ld) | (apply Y.len; exact X.len) | (apply Y.nt; exact X.nt) | (apply Y.beql; exact X.beql) | (apply Y.bneq; exact X.bneq) | (apply Y.blss; exact X.blss) | (apply Y.bgeq; exact X.bgeq)); exact rfl) | refine X.l ?_ | refine X.w ?_ | refine X.a ?_ | (refine K.c_condD rfl (fun hc => ?_) (fun hc => ?_) <;> first | (exfalso; omega) | skip) | refine K.c_cond rfl (fun hc => ?_) (fun hc => ?_) | (refine K.s_guardD rfl rfl (fun hc => ?_) (fun hc => ?_) <;> first | (exfalso; omega) | skip) | refine K.s_guard rfl rfl (fun hc => ?_) (fun hc => ?_)))
    refine X.draw ([blk B2 3 [.int .i64 n], blk B1 26 (cE op val tb nm col (.slice ao args.length ca))]) [] (.pu 0 (.pu 3 (.st 1 (.st 4 (.pu 5 (.on 2 (.pu 6 .nil))))))) ?_
    refine K.d_pu rfl (fun _ _ => X.fa) rfl ?_
    refine K.d_pu rfl (fun _ _ => X.fa) rfl ?_
    refine K.d_st rfl X.ld rfl ?_
    refine K.d_st rfl X.ld rfl ?_
    refine K.d_pu rfl (fun _ _ => X.len) rfl ?_
    refine K.d_on rfl (fun KK hKK => ?_)
    refine K.l_callV (Fx.cal rfl) rfl (Parts h op) (K.pp [] rfl) rfl rfl ?_
    simp only [List.nil_append]
    refine K.l_nil ?_
    refine X.onE hKK ?_
    refine K.d_pu rfl (fun _ _ => X.bneq) rfl ?_
    refine K.d_nil ?_
    have no : ∀ q : Bool, q = false → ∀ E, AT Try.prog Try.f10.ntmps (K.post Try.prog Try.f10 fun v w' => ∃ h' H', h.le h' ∧ (v = Value.bool q ∧ h' = h ∧ H' = []) ∧ Ok h' (H' ++ F) w') .ret ((4, .bool false) :: E) h (blk B2 3 [.int .i64 n] :: blk B1 26 (cE op val tb nm col (.slice ao args.length ca)) :: F) := fun q e E => by
      subst e
      refine K.AT.sel [0, 0] rfl ?_
      refine K.done (by first | exact Or.inl rfl | exact Or.inr rfl) rfl (by first | exact K.Base.le.refl _ | assumption) (H' := []) rfl ⟨rfl, rfl, rfl⟩
    by_cases hp : partsQ op = args.length
    · by_cases h1 : op = 1
      · cases hov : okV val with
        | false =>
          (repeat' (first | (apply K.s_pure; (first | (apply Y.mv; exact X.mv) | (apply Y.sg; exact X.sg) | (apply Y.pk; exact X.pk) | (apply Y.fa; exact X.fa) | (apply Y.ld; exact X.ld) | (apply Y.len; exact X.len) | (apply Y.nt; exact X.nt) | (apply Y.beql; exact X.beql) | (apply Y.bneq; exact X.bneq) | (apply Y.blss; exact X.blss) | (apply Y.bgeq; exact X.bgeq)); exact rfl) | refine X.l ?_ | refine X.w ?_ | refine X.a ?_ | (refine K.c_condD rfl (fun hc => ?_) (fun hc => ?_) <;> first | (exfalso; omega) | skip) | refine K.c_cond rfl (fun hc => ?_) (fun hc => ?_) | (refine K.s_guardD rfl rfl (fun hc => ?_) (fun hc => ?_) <;> first | (exfalso; omega) | skip) | refine K.s_guard rfl rfl (fun hc => ?_) (fun hc => ?_)))
          refine K.s_pure (K.p_loadN (vs := cV val) (Fx.agg rfl) (Fx.sz rfl) rfl (K.cels_own (pre := [_]) (post := [_, _, _, _]) 1 rfl rfl)) rfl ?_
          (repeat' (first | (apply K.s_pure; (first | (apply Y.mv; exact X.mv) | (apply Y.sg; exact X.sg) | (apply Y.pk; exact X.pk) | (apply Y.fa; exact X.fa) | (apply Y.ld; exact X.ld) | (apply Y.len; exact X.len) | (apply Y.nt; exact X.nt) | (apply Y.beql; exact X.beql) | (apply Y.bneq; exact X.bneq) | (apply Y.blss; exact X.blss) | (apply Y.bgeq; exact X.bgeq)); exact rfl) | refine X.l ?_ | refine X.w ?_ | refine X.a ?_ | (refine K.c_condD rfl (fun hc => ?_) (fun hc => ?_) <;> first | (exfalso; omega) | skip) | refine K.c_cond rfl (fun hc => ?_) (fun hc => ?_) | (refine K.s_guardD rfl rfl (fun hc => ?_) (fun hc => ?_) <;> first | (exfalso; omega) | skip) | refine K.s_guard rfl rfl (fun hc => ?_) (fun hc => ?_)))
          refine K.l_callV (Fx.cal rfl) rfl (ValueMay h val hval) (K.pp [] rfl) rfl rfl ?_
          simp only [List.nil_append]
          rw [hov]
          (repeat' (first | (apply K.s_pure; (first | (apply Y.mv; exact X.mv) | (apply Y.sg; exact X.sg) | (apply Y.pk; exact X.pk) | (apply Y.fa; exact X.fa) | (apply Y.ld; exact X.ld) | (apply Y.len; exact X.len) | (apply Y.nt; exact X.nt) | (apply Y.beql; exact X.beql) | (apply Y.bneq; exact X.bneq) | (apply Y.blss; exact X.blss) | (apply Y.bgeq; exact X.bgeq)); exact rfl) | refine X.l ?_ | refine X.w ?_ | refine X.a ?_ | (refine K.c_condD rfl (fun hc => ?_) (fun hc => ?_) <;> first | (exfalso; omega) | skip) | refine K.c_cond rfl (fun hc => ?_) (fun hc => ?_) | (refine K.s_guardD rfl rfl (fun hc => ?_) (fun hc => ?_) <;> first | (exfalso; omega) | skip) | refine K.s_guard rfl rfl (fun hc => ?_) (fun hc => ?_)))
          exact no _ (by rw [decide_eq_false (show ¬ (op = 1 → false = true) from fun e => by cases e h1)]; simp) _
        | true =>
          have hf : (decide (partsQ op = args.length) && (decide (op = 1 → true = true) && decide (op = 3 → 0 ≤ col ∧ col < n)) && args.all (rightQ n)) = args.all (rightQ n) := by
            rw [decide_eq_true hp, decide_eq_true (show (op = 1 → true = true) from fun _ => rfl), decide_eq_true (show (op = 3 → 0 ≤ col ∧ col < n) by omega)]; rfl
          rw [hf]
          (repeat' (first | (apply K.s_pure; (first | (apply Y.mv; exact X.mv) | (apply Y.sg; exact X.sg) | (apply Y.pk; exact X.pk) | (apply Y.fa; exact X.fa) | (apply Y.ld; exact X.ld) | (apply Y.len; exact X.len) | (apply Y.nt; exact X.nt) | (apply Y.beql; exact X.beql) | (apply Y.bneq; exact X.bneq) | (apply Y.blss; exact X.blss) | (apply Y.bgeq; exact X.bgeq)); exact rfl) | refine X.l ?_ | refine X.w ?_ | refine X.a ?_ | (refine K.c_condD rfl (fun hc => ?_) (fun hc => ?_) <;> first | (exfalso; omega) | skip) | refine K.c_cond rfl (fun hc => ?_) (fun hc => ?_) | (refine K.s_guardD rfl rfl (fun hc => ?_) (fun hc => ?_) <;> first | (exfalso; omega) | skip) | refine K.s_guard rfl rfl (fun hc => ?_) (fun hc => ?_)))
          refine K.s_pure (K.p_loadN (vs := cV val) (Fx.agg rfl) (Fx.sz rfl) rfl (K.cels_own (pre := [_]) (post := [_, _, _, _]) 1 rfl rfl)) rfl ?_
          (repeat' (first | (apply K.s_pure; (first | (apply Y.mv; exact X.mv) | (apply Y.sg; exact X.sg) | (apply Y.pk; exact X.pk) | (apply Y.fa; exact X.fa) | (apply Y.ld; exact X.ld) | (apply Y.len; exact X.len) | (apply Y.nt; exact X.nt) | (apply Y.beql; exact X.beql) | (apply Y.bneq; exact X.bneq) | (apply Y.blss; exact X.blss) | (apply Y.bgeq; exact X.bgeq)); exact rfl) | refine X.l ?_ | refine X.w ?_ | refine X.a ?_ | (refine K.c_condD rfl (fun hc => ?_) (fun hc => ?_) <;> first | (exfalso; omega) | skip) | refine K.c_cond rfl (fun hc => ?_) (fun hc => ?_) | (refine K.s_guardD rfl rfl (fun hc => ?_) (fun hc => ?_) <;> first | (exfalso; omega) | skip) | refine K.s_guard rfl rfl (fun hc => ?_) (fun hc => ?_)))
          refine K.l_callV (Fx.cal rfl) rfl (ValueMay h val hval) (K.pp [] rfl) rfl rfl ?_
          simp only [List.nil_append]
          rw [hov]
          (repeat' (first | (apply K.s_pure; (first | (apply Y.mv; exact X.mv) | (apply Y.sg; exact X.sg) | (apply Y.pk; exact X.pk) | (apply Y.fa; exact X.fa) | (apply Y.ld; exact X.ld) | (apply Y.len; exact X.len) | (apply Y.nt; exact X.nt) | (apply Y.beql; exact X.beql) | (apply Y.bneq; exact X.bneq) | (apply Y.blss; exact X.blss) | (apply Y.bgeq; exact X.bgeq)); exact rfl) | refine X.l ?_ | refine X.w ?_ | refine X.a ?_ | (refine K.c_condD rfl (fun hc => ?_) (fun hc => ?_) <;> first | (exfalso; omega) | skip) | refine K.c_cond rfl (fun hc => ?_) (fun hc => ?_) | (refine K.s_guardD rfl rfl (fun hc => ?_) (fun hc => ?_) <;> first | (exfalso; omega) | skip) | refine K.s_guard rfl rfl (fun hc => ?_) (fun hc => ?_)))
          refine K.s_pure (K.p_makeFunc rfl) rfl ?_
          refine K.l_callV (Fx.cal rfl) rfl (CtnE h _ 30 [_] (Fx.cal rfl) _ es _ hv (by omega) hz (clo B2 3)) (K.pp [0] rfl) rfl rfl ?_
          simp only [List.cons_append, List.nil_append]
          rw [hel, any_no]
          (repeat' (first | (apply K.s_pure; (first | (apply Y.mv; exact X.mv) | (apply Y.sg; exact X.sg) | (apply Y.pk; exact X.pk) | (apply Y.fa; exact X.fa) | (apply Y.ld; exact X.ld) | (apply Y.len; exact X.len) | (apply Y.nt; exact X.nt) | (apply Y.beql; exact X.beql) | (apply Y.bneq; exact X.bneq) | (apply Y.blss; exact X.blss) | (apply Y.bgeq; exact X.bgeq)); exact rfl) | refine X.l ?_ | refine X.w ?_ | refine X.a ?_ | (refine K.c_condD rfl (fun hc => ?_) (fun hc => ?_) <;> first | (exfalso; omega) | skip) | refine K.c_cond rfl (fun hc => ?_) (fun hc => ?_) | (refine K.s_guardD rfl rfl (fun hc => ?_) (fun hc => ?_) <;> first | (exfalso; omega) | skip) | refine K.s_guard rfl rfl (fun hc => ?_) (fun hc => ?_)))
          rw [Bool.not_not]
          refine K.AT.sel [0, 0] rfl ?_
          refine K.done (by first | exact Or.inl rfl | exact Or.inr rfl) rfl (by first | exact K.Base.le.refl _ | assumption) (H' := []) rfl ⟨rfl, rfl, rfl⟩
      · by_cases h3 : op = 3 → 0 ≤ col ∧ col < n
        · have hf : (decide (partsQ op = args.length) && (decide (op = 1 → okV val = true) && decide (op = 3 → 0 ≤ col ∧ col < n)) && args.all (rightQ n)) = args.all (rightQ n) := by
            rw [decide_eq_true hp, decide_eq_true (show (op = 1 → okV val = true) from fun e => absurd e h1), decide_eq_true h3]; rfl
          rw [hf]
          (repeat' (first | (apply K.s_pure; (first | (apply Y.mv; exact X.mv) | (apply Y.sg; exact X.sg) | (apply Y.pk; exact X.pk) | (apply Y.fa; exact X.fa) | (apply Y.ld; exact X.ld) | (apply Y.len; exact X.len) | (apply Y.nt; exact X.nt) | (apply Y.beql; exact X.beql) | (apply Y.bneq; exact X.bneq) | (apply Y.blss; exact X.blss) | (apply Y.bgeq; exact X.bgeq)); exact rfl) | refine X.l ?_ | refine X.w ?_ | refine X.a ?_ | (refine K.c_condD rfl (fun hc => ?_) (fun hc => ?_) <;> first | (exfalso; omega) | skip) | refine K.c_cond rfl (fun hc => ?_) (fun hc => ?_) | (refine K.s_guardD rfl rfl (fun hc => ?_) (fun hc => ?_) <;> first | (exfalso; omega) | skip) | refine K.s_guard rfl rfl (fun hc => ?_) (fun hc => ?_)))
          all_goals
            refine K.s_pure (K.p_makeFunc rfl) rfl ?_
            refine K.l_callV (Fx.cal rfl) rfl (CtnE h _ 30 [_] (Fx.cal rfl) _ es _ hv (by omega) hz (clo B2 3)) (K.pp [0] rfl) rfl rfl ?_
            simp only [List.cons_append, List.nil_append]
            rw [hel, any_no]
            (repeat' (first | (apply K.s_pure; (first | (apply Y.mv; exact X.mv) | (apply Y.sg; exact X.sg) | (apply Y.pk; exact X.pk) | (apply Y.fa; exact X.fa) | (apply Y.ld; exact X.ld) | (apply Y.len; exact X.len) | (apply Y.nt; exact X.nt) | (apply Y.beql; exact X.beql) | (apply Y.bneq; exact X.bneq) | (apply Y.blss; exact X.blss) | (apply Y.bgeq; exact X.bgeq)); exact rfl) | refine X.l ?_ | refine X.w ?_ | refine X.a ?_ | (refine K.c_condD rfl (fun hc => ?_) (fun hc => ?_) <;> first | (exfalso; omega) | skip) | refine K.c_cond rfl (fun hc => ?_) (fun hc => ?_) | (refine K.s_guardD rfl rfl (fun hc => ?_) (fun hc => ?_) <;> first | (exfalso; omega) | skip) | refine K.s_guard rfl rfl (fun hc => ?_) (fun hc => ?_)))
            rw [Bool.not_not]
            refine K.AT.sel [0, 0] rfl ?_
            refine K.done (by first | exact Or.inl rfl | exact Or.inr rfl) rfl (by first | exact K.Base.le.refl _ | assumption) (H' := []) rfl ⟨rfl, rfl, rfl⟩
        · rw [decide_eq_false h3]
          (repeat' (first | (apply K.s_pure; (first | (apply Y.mv; exact X.mv) | (apply Y.sg; exact X.sg) | (apply Y.pk; exact X.pk) | (apply Y.fa; exact X.fa) | (apply Y.ld; exact X.ld) | (apply Y.len; exact X.len) | (apply Y.nt; exact X.nt) | (apply Y.beql; exact X.beql) | (apply Y.bneq; exact X.bneq) | (apply Y.blss; exact X.blss) | (apply Y.bgeq; exact X.bgeq)); exact rfl) | refine X.l ?_ | refine X.w ?_ | refine X.a ?_ | (refine K.c_condD rfl (fun hc => ?_) (fun hc => ?_) <;> first | (exfalso; omega) | skip) | refine K.c_cond rfl (fun hc => ?_) (fun hc => ?_) | (refine K.s_guardD rfl rfl (fun hc => ?_) (fun hc => ?_) <;> first | (exfalso; omega) | skip) | refine K.s_guard rfl rfl (fun hc => ?_) (fun hc => ?_)))
          all_goals exact no _ (by simp) _
    · rw [decide_eq_false hp]
      (repeat' (first | (apply K.s_pure; (first | (apply Y.mv; exact X.mv) | (apply Y.sg; exact X.sg) | (apply Y.pk; exact X.pk) | (apply Y.fa; exact X.fa) | (apply Y.ld; exact X.ld) | (apply Y.len; exact X.len) | (apply Y.nt; exact X.nt) | (apply Y.beql; exact X.beql) | (apply Y.bneq; exact X.bneq) | (apply Y.blss; exact X.blss) | (apply Y.bgeq; exact X.bgeq)); exact rfl) | refine X.l ?_ | refine X.w ?_ | refine X.a ?_ | (refine K.c_condD rfl (fun hc => ?_) (fun hc => ?_) <;> first | (exfalso; omega) | skip) | refine K.c_cond rfl (fun hc => ?_) (fun hc => ?_) | (refine K.s_guardD rfl rfl (fun hc => ?_) (fun hc => ?_) <;> first | (exfalso; omega) | skip) | refine K.s_guard rfl rfl (fun hc => ?_) (fun hc => ?_)))
      exact no _ (by simp) _
set_option maxHeartbeats 1000000 in
theorem RRight : ∀ (m : Nat) (h : Base) (cs : List Value) (e : Ex) (n : Int), ExC h m cs e → TrV Try.prog 11 [.agg cs.toArray, .int .i64 n] h [] (.bool (rightQ n e)) []
  | 0, h, cs, e, n, hx => hx.elim
  | m + 1, h, cs, .mk op val tb nm col args, n, ⟨⟨hop, hval, hcol⟩, av, es, hcs, hv, hel, hal, hr⟩ => by
    subst hcs
    have hz := SL.lens hv
    have ih := RRight m h
    obtain ⟨ao, ca, rfl⟩ := hv.len
    rw [hel] at hv ⊢
    have hqq : rightQ n (Ex.mk op val tb nm col args) = (decide (partsQ op = args.length) && (decide (op = 1 → okV val = true) && decide (op = 3 → 0 ≤ col ∧ col < n)) && args.all (rightQ n)) := by rw [rightQ, rightL_all]
    rw [hqq]
    have hpo : partsQ op = if op = 1 ∨ op = 3 then 0 else if 4 ≤ op ∧ op ≤ 7 then 1 else if 8 ≤ op ∧ op ≤ 21 then 2 else -1 := rfl
    refine K.enter Try.func11 rfl (Nat.le_of_ble_eq_true rfl) (fun F => ?_)
    (repeat' (first | (apply K.s_pure; (first | (apply Y.mv; exact X.mv) | (apply Y.sg; exact X.sg) | (apply Y.pk; exact X.pk) | (apply Y.fa; exact X.fa) | (apply Y.ld; exact X.ld) | (apply Y.ia; exact X.ia) | (apply Y.len; exact X.len) | (apply Y.nt; exact X.nt) | (apply Y.badd; exact X.badd) | (apply Y.beql; exact X.beql) | (apply Y.bneq; exact X.bneq) | (apply Y.blss; exact X.blss) | (apply Y.bgtr; exact X.bgtr) | (apply Y.bgeq; exact X.bgeq)); exact rfl) | refine X.l ?_ | refine X.w ?_ | refine X.a ?_ | (refine K.c_condD rfl (fun hc => ?_) (fun hc => ?_) <;> first | (exfalso; omega) | skip) | refine K.c_cond rfl (fun hc => ?_) (fun hc => ?_) | (refine K.s_guardD rfl rfl (fun hc => ?_) (fun hc => ?_) <;> first | (exfalso; omega) | skip) | refine K.s_guard rfl rfl (fun hc => ?_) (fun hc => ?_)))
    refine K.l_box rfl rfl rfl (fun B1 => ?_)
    have no : ∀ q : Bool, q = false → ∀ E, AT Try.prog Try.f11.ntmps (K.post Try.prog Try.f11 fun v w' => ∃ h' H', h.le h' ∧ (v = Value.bool q ∧ h' = h ∧ H' = []) ∧ Ok h' (H' ++ F) w') .ret ((4, .bool false) :: E) h (blk B1 26 (cE op val tb nm col (.slice ao args.length ca)) :: F) := fun q e E => by
      subst e
      refine K.AT.sel [0] rfl ?_
      refine K.done (by first | exact Or.inl rfl | exact Or.inr rfl) rfl (by first | exact K.Base.le.refl _ | assumption) (H' := []) rfl ⟨rfl, rfl, rfl⟩
    by_cases hp : partsQ op = args.length
    · by_cases h1 : op = 1
      · rw [if_pos (.inl h1)] at hpo
        have ha0 : args = [] := List.length_eq_zero_iff.1 (by omega)
        subst ha0
        rw [decide_eq_true hp, decide_eq_true (show (op = 3 → 0 ≤ col ∧ col < n) by omega), show decide (op = 1 → okV val = true) = okV val by rw [Bool.eq_iff_iff, decide_eq_true_iff]; exact ⟨fun e => e h1, fun e _ => e⟩]
        (repeat' (first | (apply K.s_pure; (first | (apply Y.mv; exact X.mv) | (apply Y.sg; exact X.sg) | (apply Y.pk; exact X.pk) | (apply Y.fa; exact X.fa) | (apply Y.ld; exact X.ld) | (apply Y.ia; exact X.ia) | (apply Y.len; exact X.len) | (apply Y.nt; exact X.nt) | (apply Y.badd; exact X.badd) | (apply Y.beql; exact X.beql) | (apply Y.bneq; exact X.bneq) | (apply Y.blss; exact X.blss) | (apply Y.bgtr; exact X.bgtr) | (apply Y.bgeq; exact X.bgeq)); exact rfl) | refine X.l ?_ | refine X.w ?_ | refine X.a ?_ | (refine K.c_condD rfl (fun hc => ?_) (fun hc => ?_) <;> first | (exfalso; omega) | skip) | refine K.c_cond rfl (fun hc => ?_) (fun hc => ?_) | (refine K.s_guardD rfl rfl (fun hc => ?_) (fun hc => ?_) <;> first | (exfalso; omega) | skip) | refine K.s_guard rfl rfl (fun hc => ?_) (fun hc => ?_)))
        refine K.s_pure (K.p_loadN (vs := cV val) (Fx.agg rfl) (Fx.sz rfl) rfl (K.cels_own (pre := [_]) (post := [_, _, _, _]) 0 rfl rfl)) rfl ?_
        refine K.l_callV (Fx.cal rfl) rfl (RefValueMay h val hval) (K.pp [] rfl) rfl rfl ?_
        simp only [List.nil_append]
        (repeat' (first | (apply K.s_pure; (first | (apply Y.mv; exact X.mv) | (apply Y.sg; exact X.sg) | (apply Y.pk; exact X.pk) | (apply Y.fa; exact X.fa) | (apply Y.ld; exact X.ld) | (apply Y.ia; exact X.ia) | (apply Y.len; exact X.len) | (apply Y.nt; exact X.nt) | (apply Y.badd; exact X.badd) | (apply Y.beql; exact X.beql) | (apply Y.bneq; exact X.bneq) | (apply Y.blss; exact X.blss) | (apply Y.bgtr; exact X.bgtr) | (apply Y.bgeq; exact X.bgeq)); exact rfl) | refine X.l ?_ | refine X.w ?_ | refine X.a ?_ | (refine K.c_condD rfl (fun hc => ?_) (fun hc => ?_) <;> first | (exfalso; omega) | skip) | refine K.c_cond rfl (fun hc => ?_) (fun hc => ?_) | (refine K.s_guardD rfl rfl (fun hc => ?_) (fun hc => ?_) <;> first | (exfalso; omega) | skip) | refine K.s_guard rfl rfl (fun hc => ?_) (fun hc => ?_)))
        refine K.AT.sel [0] rfl ?_
        refine K.done (by first | exact Or.inl rfl | exact Or.inr rfl) rfl (by first | exact K.Base.le.refl _ | assumption) (H' := []) rfl ⟨by simp [packV], rfl, rfl⟩
      · rw [decide_eq_true hp, decide_eq_true (show (op = 1 → okV val = true) from fun e => absurd e h1)]
        by_cases h3 : op = 3
        · rw [if_pos (.inr h3)] at hpo
          have ha0 : args = [] := List.length_eq_zero_iff.1 (by omega)
          subst ha0
          rw [show decide (op = 3 → 0 ≤ col ∧ col < n) = decide (0 ≤ col ∧ col < n) by rw [decide_eq_decide]; exact ⟨fun e => e h3, fun e _ => e⟩]
          (repeat' (first | (apply K.s_pure; (first | (apply Y.mv; exact X.mv) | (apply Y.sg; exact X.sg) | (apply Y.pk; exact X.pk) | (apply Y.fa; exact X.fa) | (apply Y.ld; exact X.ld) | (apply Y.ia; exact X.ia) | (apply Y.len; exact X.len) | (apply Y.nt; exact X.nt) | (apply Y.badd; exact X.badd) | (apply Y.beql; exact X.beql) | (apply Y.bneq; exact X.bneq) | (apply Y.blss; exact X.blss) | (apply Y.bgtr; exact X.bgtr) | (apply Y.bgeq; exact X.bgeq)); exact rfl) | refine X.l ?_ | refine X.w ?_ | refine X.a ?_ | (refine K.c_condD rfl (fun hc => ?_) (fun hc => ?_) <;> first | (exfalso; omega) | skip) | refine K.c_cond rfl (fun hc => ?_) (fun hc => ?_) | (refine K.s_guardD rfl rfl (fun hc => ?_) (fun hc => ?_) <;> first | (exfalso; omega) | skip) | refine K.s_guard rfl rfl (fun hc => ?_) (fun hc => ?_)))
          all_goals
            refine K.AT.sel [0] rfl ?_
            refine K.done (by first | exact Or.inl rfl | exact Or.inr rfl) rfl (by first | exact K.Base.le.refl _ | assumption) (H' := []) rfl ⟨?_, rfl, rfl⟩
            show Value.bool _ = Value.bool _
            congr 1
            simp only [List.all_nil, Bool.and_true, Bool.true_and]
            first
              | (rw [Bool.eq_iff_iff, decide_eq_true_iff, decide_eq_true_iff]; omega)
              | (refine (decide_eq_false ?_).symm; omega)
        · rw [if_neg (by omega)] at hpo
          have hf : (true && (true && decide (op = 3 → 0 ≤ col ∧ col < n)) && args.all (rightQ n)) = args.all (rightQ n) := by rw [decide_eq_true (show (op = 3 → 0 ≤ col ∧ col < n) by omega)]; rfl
          rw [hf]
          have hb : (4 ≤ op ∧ op ≤ 7 ∧ args.length = 1) ∨ (8 ≤ op ∧ op ≤ 21 ∧ args.length = 2) := by
            split at hpo
            · exact .inl (by omega)
            · split at hpo
              · exact .inr (by omega)
              · omega
          (repeat' (first | (apply K.s_pure; (first | (apply Y.mv; exact X.mv) | (apply Y.sg; exact X.sg) | (apply Y.pk; exact X.pk) | (apply Y.fa; exact X.fa) | (apply Y.ld; exact X.ld) | (apply Y.ia; exact X.ia) | (apply Y.len; exact X.len) | (apply Y.nt; exact X.nt) | (apply Y.badd; exact X.badd) | (apply Y.beql; exact X.beql) | (apply Y.bneq; exact X.bneq) | (apply Y.blss; exact X.blss) | (apply Y.bgtr; exact X.bgtr) | (apply Y.bgeq; exact X.bgeq)); exact rfl) | refine X.l ?_ | refine X.w ?_ | refine X.a ?_ | (refine K.c_condD rfl (fun hc => ?_) (fun hc => ?_) <;> first | (exfalso; omega) | skip) | refine K.c_cond rfl (fun hc => ?_) (fun hc => ?_) | (refine K.s_guardD rfl rfl (fun hc => ?_) (fun hc => ?_) <;> first | (exfalso; omega) | skip) | refine K.s_guard rfl rfl (fun hc => ?_) (fun hc => ?_)))
          all_goals
            refine K.c_loop (σ := Nat) (fun j => [(2, .pointer (some ⟨B1, 0, none⟩)), (1, .int .i64 n), (5, .int .i64 args.length), (6, .int .i64 j)]) (fun _ => h) (fun _ => blk B1 26 (cE op val tb nm col (.slice ao args.length ca)) :: F)
              (fun j => j ≤ args.length ∧ ∀ (i : Nat) e, i < j → args[i]? = some e → rightQ n e = true) (fun j => args.length - j) 0 ⟨Nat.zero_le _, fun i e hi => by omega⟩ (by
                have h5 : (args.length : Int) = 1 ∨ (args.length : Int) = 2 := by omega
                first
                  | (rw [show (args.length : Int) = 1 by omega]; exact (by repeat (first | exact K.Sub.nil _ | refine K.Sub.cons rfl ?_)))
                  | (rw [show (args.length : Int) = 2 by omega]; exact (by repeat (first | exact K.Sub.nil _ | refine K.Sub.cons rfl ?_)))) rfl rfl ?_
            rintro j ⟨hj, hyes⟩ KL hKL
            by_cases hjl : j < args.length
            · have hc1 : es[j]? = some (es[j]'(by omega)) := List.getElem?_eq_getElem (by omega)
              have hc0 : es[((j : Nat) : Int).toNat]? = some (es[j]'(by omega)) := by rw [Int.toNat_natCast]; exact hc1
              have he1 : args[j]? = some args[j] := List.getElem?_eq_getElem hjl
              generalize es[j]'(by omega) = c at hc0 hc1
              have hmem : args[j] ∈ args := List.getElem_mem hjl
              generalize args[j] = e at he1 hmem
              have hce := hr j c e hc1 he1
              (repeat' (first | (apply K.s_pure; (first | (apply Y.mv; exact X.mv) | (apply Y.sg; exact X.sg) | (apply Y.pk; exact X.pk) | (apply Y.fa; exact X.fa) | (apply Y.ld; exact X.ld) | (apply Y.ia; exact X.ia) | (apply Y.len; exact X.len) | (apply Y.nt; exact X.nt) | (apply Y.badd; exact X.badd) | (apply Y.beql; exact X.beql) | (apply Y.bneq; exact X.bneq) | (apply Y.blss; exact X.blss) | (apply Y.bgtr; exact X.bgtr) | (apply Y.bgeq; exact X.bgeq)); exact rfl) | refine X.l ?_ | refine X.w ?_ | refine X.a ?_ | (refine K.c_condD rfl (fun hc => ?_) (fun hc => ?_) <;> first | (exfalso; omega) | skip) | refine K.c_cond rfl (fun hc => ?_) (fun hc => ?_) | (refine K.s_guardD rfl rfl (fun hc => ?_) (fun hc => ?_) <;> first | (exfalso; omega) | skip) | refine K.s_guard rfl rfl (fun hc => ?_) (fun hc => ?_)))
              refine K.s_pureE (K.p_indexL hv (Fx.und rfl) (Fx.sz rfl) rfl rfl (by omega) hc0) rfl ?_
              rintro v2 ⟨b, o, rfl, hcel⟩
              refine K.s_pure (K.p_loadM (Fx.agg rfl) rfl (Cels.up hcel) (Fx.sz rfl) hce.len) rfl ?_
              (repeat' (first | (apply K.s_pure; (first | (apply Y.mv; exact X.mv) | (apply Y.sg; exact X.sg) | (apply Y.pk; exact X.pk) | (apply Y.fa; exact X.fa) | (apply Y.ld; exact X.ld) | (apply Y.ia; exact X.ia) | (apply Y.len; exact X.len) | (apply Y.nt; exact X.nt) | (apply Y.badd; exact X.badd) | (apply Y.beql; exact X.beql) | (apply Y.bneq; exact X.bneq) | (apply Y.blss; exact X.blss) | (apply Y.bgtr; exact X.bgtr) | (apply Y.bgeq; exact X.bgeq)); exact rfl) | refine X.l ?_ | refine X.w ?_ | refine X.a ?_ | (refine K.c_condD rfl (fun hc => ?_) (fun hc => ?_) <;> first | (exfalso; omega) | skip) | refine K.c_cond rfl (fun hc => ?_) (fun hc => ?_) | (refine K.s_guardD rfl rfl (fun hc => ?_) (fun hc => ?_) <;> first | (exfalso; omega) | skip) | refine K.s_guard rfl rfl (fun hc => ?_) (fun hc => ?_)))
              refine K.l_callV (Fx.cal rfl) rfl (ih c e n hce) (K.pp [] rfl) rfl rfl ?_
              simp only [List.nil_append]
              cases hre : rightQ n e with
              | false =>
                (repeat' (first | (apply K.s_pure; (first | (apply Y.mv; exact X.mv) | (apply Y.sg; exact X.sg) | (apply Y.pk; exact X.pk) | (apply Y.fa; exact X.fa) | (apply Y.ld; exact X.ld) | (apply Y.ia; exact X.ia) | (apply Y.len; exact X.len) | (apply Y.nt; exact X.nt) | (apply Y.badd; exact X.badd) | (apply Y.beql; exact X.beql) | (apply Y.bneq; exact X.bneq) | (apply Y.blss; exact X.blss) | (apply Y.bgtr; exact X.bgtr) | (apply Y.bgeq; exact X.bgeq)); exact rfl) | refine X.l ?_ | refine X.w ?_ | refine X.a ?_ | (refine K.c_condD rfl (fun hc => ?_) (fun hc => ?_) <;> first | (exfalso; omega) | skip) | refine K.c_cond rfl (fun hc => ?_) (fun hc => ?_) | (refine K.s_guardD rfl rfl (fun hc => ?_) (fun hc => ?_) <;> first | (exfalso; omega) | skip) | refine K.s_guard rfl rfl (fun hc => ?_) (fun hc => ?_)))
                exact no _ (List.all_eq_false.2 ⟨e, hmem, by rw [hre]; decide⟩) _
              | true =>
                (repeat' (first | (apply K.s_pure; (first | (apply Y.mv; exact X.mv) | (apply Y.sg; exact X.sg) | (apply Y.pk; exact X.pk) | (apply Y.fa; exact X.fa) | (apply Y.ld; exact X.ld) | (apply Y.ia; exact X.ia) | (apply Y.len; exact X.len) | (apply Y.nt; exact X.nt) | (apply Y.badd; exact X.badd) | (apply Y.beql; exact X.beql) | (apply Y.bneq; exact X.bneq) | (apply Y.blss; exact X.blss) | (apply Y.bgtr; exact X.bgtr) | (apply Y.bgeq; exact X.bgeq)); exact rfl) | refine X.l ?_ | refine X.w ?_ | refine X.a ?_ | (refine K.c_condD rfl (fun hc => ?_) (fun hc => ?_) <;> first | (exfalso; omega) | skip) | refine K.c_cond rfl (fun hc => ?_) (fun hc => ?_) | (refine K.s_guardD rfl rfl (fun hc => ?_) (fun hc => ?_) <;> first | (exfalso; omega) | skip) | refine K.s_guard rfl rfl (fun hc => ?_) (fun hc => ?_)))
                refine K.a_round hKL (j + 1) ⟨by omega, fun i e' hi hi2 => ?_⟩ (by repeat (first | exact K.Sub.nil _ | refine K.Sub.cons rfl ?_)) rfl rfl (by omega)
                by_cases hij : i < j
                · exact hyes i e' hij hi2
                · obtain rfl : i = j := by omega
                  rw [he1] at hi2; cases hi2; exact hre
            · obtain rfl : j = args.length := by omega
              have ht : args.all (rightQ n) = true := List.all_eq_true.2 fun e he => by
                obtain ⟨i, hi, e1⟩ := List.getElem_of_mem he
                exact hyes i e hi (by rw [List.getElem?_eq_getElem hi, e1])
              rw [ht]
              (repeat' (first | (apply K.s_pure; (first | (apply Y.mv; exact X.mv) | (apply Y.sg; exact X.sg) | (apply Y.pk; exact X.pk) | (apply Y.fa; exact X.fa) | (apply Y.ld; exact X.ld) | (apply Y.ia; exact X.ia) | (apply Y.len; exact X.len) | (apply Y.nt; exact X.nt) | (apply Y.badd; exact X.badd) | (apply Y.beql; exact X.beql) | (apply Y.bneq; exact X.bneq) | (apply Y.blss; exact X.blss) | (apply Y.bgtr; exact X.bgtr) | (apply Y.bgeq; exact X.bgeq)); exact rfl) | refine X.l ?_ | refine X.w ?_ | refine X.a ?_ | (refine K.c_condD rfl (fun hc => ?_) (fun hc => ?_) <;> first | (exfalso; omega) | skip) | refine K.c_cond rfl (fun hc => ?_) (fun hc => ?_) | (refine K.s_guardD rfl rfl (fun hc => ?_) (fun hc => ?_) <;> first | (exfalso; omega) | skip) | refine K.s_guard rfl rfl (fun hc => ?_) (fun hc => ?_)))
              refine K.AT.sel [0] rfl ?_
              refine K.done (by first | exact Or.inl rfl | exact Or.inr rfl) rfl (by first | exact K.Base.le.refl _ | assumption) (H' := []) rfl ⟨rfl, rfl, rfl⟩
    · rw [decide_eq_false hp]
      have hno : (false && (decide (op = 1 → okV val = true) && decide (op = 3 → 0 ≤ col ∧ col < n)) && args.all (rightQ n)) = false := by simp
      by_cases hp2 : partsQ op = -1
      · have : ¬ (op = 1 ∨ op = 3) ∧ ¬ (4 ≤ op ∧ op ≤ 7) ∧ ¬ (8 ≤ op ∧ op ≤ 21) := by
          refine ⟨fun e => ?_, fun e => ?_, fun e => ?_⟩
          · rw [if_pos e] at hpo; omega
          · rw [if_neg (by omega), if_pos e] at hpo; omega
          · rw [if_neg (by omega), if_neg (by omega), if_pos e] at hpo; omega
        (repeat' (first | (apply K.s_pure; (first | (apply Y.mv; exact X.mv) | (apply Y.sg; exact X.sg) | (apply Y.pk; exact X.pk) | (apply Y.fa; exact X.fa) | (apply Y.ld; exact X.ld) | (apply Y.ia; exact X.ia) | (apply Y.len; exact X.len) | (apply Y.nt; exact X.nt) | (apply Y.badd; exact X.badd) | (apply Y.beql; exact X.beql) | (apply Y.bneq; exact X.bneq) | (apply Y.blss; exact X.blss) | (apply Y.bgtr; exact X.bgtr) | (apply Y.bgeq; exact X.bgeq)); exact rfl) | refine X.l ?_ | refine X.w ?_ | refine X.a ?_ | (refine K.c_condD rfl (fun hc => ?_) (fun hc => ?_) <;> first | (exfalso; omega) | skip) | refine K.c_cond rfl (fun hc => ?_) (fun hc => ?_) | (refine K.s_guardD rfl rfl (fun hc => ?_) (fun hc => ?_) <;> first | (exfalso; omega) | skip) | refine K.s_guard rfl rfl (fun hc => ?_) (fun hc => ?_)))
        all_goals exact no _ hno _
      · have : (op = 1 ∨ op = 3) ∧ args.length ≠ 0 ∨ (4 ≤ op ∧ op ≤ 7) ∧ args.length ≠ 1 ∨ (8 ≤ op ∧ op ≤ 21) ∧ args.length ≠ 2 := by
          split at hpo
          · exact .inl (by omega)
          · split at hpo
            · exact .inr (.inl (by omega))
            · split at hpo
              · exact .inr (.inr (by omega))
              · omega
        (repeat' (first | (apply K.s_pure; (first | (apply Y.mv; exact X.mv) | (apply Y.sg; exact X.sg) | (apply Y.pk; exact X.pk) | (apply Y.fa; exact X.fa) | (apply Y.ld; exact X.ld) | (apply Y.ia; exact X.ia) | (apply Y.len; exact X.len) | (apply Y.nt; exact X.nt) | (apply Y.badd; exact X.badd) | (apply Y.beql; exact X.beql) | (apply Y.bneq; exact X.bneq) | (apply Y.blss; exact X.blss) | (apply Y.bgtr; exact X.bgtr) | (apply Y.bgeq; exact X.bgeq)); exact rfl) | refine X.l ?_ | refine X.w ?_ | refine X.a ?_ | (refine K.c_condD rfl (fun hc => ?_) (fun hc => ?_) <;> first | (exfalso; omega) | skip) | refine K.c_cond rfl (fun hc => ?_) (fun hc => ?_) | (refine K.s_guardD rfl rfl (fun hc => ?_) (fun hc => ?_) <;> first | (exfalso; omega) | skip) | refine K.s_guard rfl rfl (fun hc => ?_) (fun hc => ?_)))
        all_goals exact no _ hno _
set_option maxHeartbeats 1000000 in
theorem Safe : ∀ (m : Nat) (h : Base) (cs : List Value) (e : Ex), ExC h m cs e → TrV Try.prog 12 [.agg cs.toArray] h [] (.bool (safeQ e)) []
  | 0, h, cs, e, hx => hx.elim
  | m + 1, h, cs, .mk op val tb nm col args, ⟨⟨hop, hval, hcol⟩, av, es, hcs, hv, hel, hal, hr⟩ => by
    subst hcs
    have hz := SL.lens hv
    have ih := Safe m h
    obtain ⟨ao, ca, rfl⟩ := hv.len
    rw [hel] at hv ⊢
    have clo : ∀ j c, es[j]? = some c → TrV Try.prog 31 [.agg c.toArray] h [] (.bool (noQ safeQ args j)) [] := fun j c hj => by
      obtain ⟨e, he⟩ := getE (k := 0) hel hj
      have hc := hr j c e hj he
      rw [noQ_at he]
      refine K.enter Try.func31 rfl (Nat.le_of_ble_eq_true rfl) (fun F => ?_)
      (repeat' (first | (apply K.s_pure; (first | (apply Y.sg; exact X.sg) | (apply Y.ld; exact X.ld) | (apply Y.nt; exact X.nt)); exact rfl) | refine X.l ?_ | refine X.w ?_ | refine X.a ?_ | (refine K.c_condD rfl (fun hc => ?_) (fun hc => ?_) <;> first | (exfalso; omega) | skip) | refine K.c_cond rfl (fun hc => ?_) (fun hc => ?_)))
      refine K.l_box rfl rfl rfl (fun B1 => ?_)
      (repeat' (first | (apply K.s_pure; (first | (apply Y.sg; exact X.sg) | (apply Y.ld; exact X.ld) | (apply Y.nt; exact X.nt)); exact rfl) | refine X.l ?_ | refine X.w ?_ | refine X.a ?_ | (refine K.c_condD rfl (fun hc => ?_) (fun hc => ?_) <;> first | (exfalso; omega) | skip) | refine K.c_cond rfl (fun hc => ?_) (fun hc => ?_)))
      refine K.s_pure (K.p_loadW 0 rfl rfl (Fx.agg rfl) (by rw [hc.len]; exact (Fx.sz rfl))) rfl ?_
      (repeat' (first | (apply K.s_pure; (first | (apply Y.sg; exact X.sg) | (apply Y.ld; exact X.ld) | (apply Y.nt; exact X.nt)); exact rfl) | refine X.l ?_ | refine X.w ?_ | refine X.a ?_ | (refine K.c_condD rfl (fun hc => ?_) (fun hc => ?_) <;> first | (exfalso; omega) | skip) | refine K.c_cond rfl (fun hc => ?_) (fun hc => ?_)))
      refine K.l_callV (Fx.cal rfl) rfl (ih c e hc) (K.pp [] rfl) rfl rfl ?_
      simp only [List.nil_append]
      (repeat' (first | (apply K.s_pure; (first | (apply Y.sg; exact X.sg) | (apply Y.ld; exact X.ld) | (apply Y.nt; exact X.nt)); exact rfl) | refine X.l ?_ | refine X.w ?_ | refine X.a ?_ | (refine K.c_condD rfl (fun hc => ?_) (fun hc => ?_) <;> first | (exfalso; omega) | skip) | refine K.c_cond rfl (fun hc => ?_) (fun hc => ?_)))
      refine K.AT.drop ?_
      refine K.done (by first | exact Or.inl rfl | exact Or.inr rfl) rfl (by first | exact K.Base.le.refl _ | assumption) (H' := []) rfl ⟨rfl, rfl, rfl⟩
    have hqq : safeQ (Ex.mk op val tb nm col args) = (decide (safeOp op) && args.all safeQ) := by rw [safeQ, safeL_all]
    rw [hqq]
    show TrV Try.prog 12 _ h [] _ []
    refine K.enter Try.func12 rfl (Nat.le_of_ble_eq_true rfl) (fun F => ?_)
    (repeat' (first | (apply K.s_pure; (first | (apply Y.mv; exact X.mv) | (apply Y.sg; exact X.sg) | (apply Y.pk; exact X.pk) | (apply Y.fa; exact X.fa) | (apply Y.ld; exact X.ld) | (apply Y.nt; exact X.nt) | (apply Y.beql; exact X.beql) | (apply Y.bleq; exact X.bleq) | (apply Y.bgeq; exact X.bgeq)); exact rfl) | refine X.l ?_ | refine X.w ?_ | refine X.a ?_ | (refine K.c_condD rfl (fun hc => ?_) (fun hc => ?_) <;> first | (exfalso; omega) | skip) | refine K.c_cond rfl (fun hc => ?_) (fun hc => ?_) | (refine K.s_guardD rfl rfl (fun hc => ?_) (fun hc => ?_) <;> first | (exfalso; omega) | skip) | refine K.s_guard rfl rfl (fun hc => ?_) (fun hc => ?_)))
    refine K.l_box rfl rfl rfl (fun B1 => ?_)
    by_cases hs : safeOp op
    · rw [decide_eq_true hs, Bool.true_and]
      unfold safeOp at hs
      (repeat' (first | (apply K.s_pure; (first | (apply Y.mv; exact X.mv) | (apply Y.sg; exact X.sg) | (apply Y.pk; exact X.pk) | (apply Y.fa; exact X.fa) | (apply Y.ld; exact X.ld) | (apply Y.nt; exact X.nt) | (apply Y.beql; exact X.beql) | (apply Y.bleq; exact X.bleq) | (apply Y.bgeq; exact X.bgeq)); exact rfl) | refine X.l ?_ | refine X.w ?_ | refine X.a ?_ | (refine K.c_condD rfl (fun hc => ?_) (fun hc => ?_) <;> first | (exfalso; omega) | skip) | refine K.c_cond rfl (fun hc => ?_) (fun hc => ?_) | (refine K.s_guardD rfl rfl (fun hc => ?_) (fun hc => ?_) <;> first | (exfalso; omega) | skip) | refine K.s_guard rfl rfl (fun hc => ?_) (fun hc => ?_)))
      all_goals
        refine K.l_callV (Fx.cal rfl) rfl (CtnE h _ 31 [] (Fx.cal rfl) _ es _ hv (by omega) hz clo) (K.pp [] rfl) rfl rfl ?_
        simp only [List.cons_append, List.nil_append]
        rw [hel, any_no]
        (repeat' (first | (apply K.s_pure; (first | (apply Y.mv; exact X.mv) | (apply Y.sg; exact X.sg) | (apply Y.pk; exact X.pk) | (apply Y.fa; exact X.fa) | (apply Y.ld; exact X.ld) | (apply Y.nt; exact X.nt) | (apply Y.beql; exact X.beql) | (apply Y.bleq; exact X.bleq) | (apply Y.bgeq; exact X.bgeq)); exact rfl) | refine X.l ?_ | refine X.w ?_ | refine X.a ?_ | (refine K.c_condD rfl (fun hc => ?_) (fun hc => ?_) <;> first | (exfalso; omega) | skip) | refine K.c_cond rfl (fun hc => ?_) (fun hc => ?_) | (refine K.s_guardD rfl rfl (fun hc => ?_) (fun hc => ?_) <;> first | (exfalso; omega) | skip) | refine K.s_guard rfl rfl (fun hc => ?_) (fun hc => ?_)))
        rw [Bool.not_not]
        refine K.AT.sel [0] rfl ?_
        refine K.done (by first | exact Or.inl rfl | exact Or.inr rfl) rfl (by first | exact K.Base.le.refl _ | assumption) (H' := []) rfl ⟨rfl, rfl, rfl⟩
    · rw [decide_eq_false hs, Bool.false_and]
      unfold safeOp at hs
      (repeat' (first | (apply K.s_pure; (first | (apply Y.mv; exact X.mv) | (apply Y.sg; exact X.sg) | (apply Y.pk; exact X.pk) | (apply Y.fa; exact X.fa) | (apply Y.ld; exact X.ld) | (apply Y.nt; exact X.nt) | (apply Y.beql; exact X.beql) | (apply Y.bleq; exact X.bleq) | (apply Y.bgeq; exact X.bgeq)); exact rfl) | refine X.l ?_ | refine X.w ?_ | refine X.a ?_ | (refine K.c_condD rfl (fun hc => ?_) (fun hc => ?_) <;> first | (exfalso; omega) | skip) | refine K.c_cond rfl (fun hc => ?_) (fun hc => ?_) | (refine K.s_guardD rfl rfl (fun hc => ?_) (fun hc => ?_) <;> first | (exfalso; omega) | skip) | refine K.s_guard rfl rfl (fun hc => ?_) (fun hc => ?_)))
      all_goals
        refine K.AT.sel [0] rfl ?_
        refine K.done (by first | exact Or.inl rfl | exact Or.inr rfl) rfl (by first | exact K.Base.le.refl _ | assumption) (H' := []) rfl ⟨rfl, rfl, rfl⟩
set_option maxHeartbeats 1000000 in
theorem RSafe : ∀ (m : Nat) (h : Base) (cs : List Value) (e : Ex), ExC h m cs e → TrV Try.prog 13 [.agg cs.toArray] h [] (.bool (safeQ e)) []
  | 0, h, cs, e, hx => hx.elim
  | m + 1, h, cs, .mk op val tb nm col args, ⟨⟨hop, hval, hcol⟩, av, es, hcs, hv, hel, hal, hr⟩ => by
    subst hcs
    have ih := RSafe m h
    obtain ⟨ao, ca, rfl⟩ := hv.len
    rw [hel] at hv ⊢
    have hqq : safeQ (Ex.mk op val tb nm col args) = (decide (safeOp op) && args.all safeQ) := by rw [safeQ, safeL_all]
    rw [hqq]
    show TrV Try.prog 13 _ h [] _ []
    refine K.enter Try.func13 rfl (Nat.le_of_ble_eq_true rfl) (fun F => ?_)
    (repeat' (first | (apply K.s_pure; (first | (apply Y.mv; exact X.mv) | (apply Y.sg; exact X.sg) | (apply Y.pk; exact X.pk) | (apply Y.fa; exact X.fa) | (apply Y.ld; exact X.ld) | (apply Y.ia; exact X.ia) | (apply Y.len; exact X.len) | (apply Y.badd; exact X.badd) | (apply Y.beql; exact X.beql) | (apply Y.blss; exact X.blss) | (apply Y.bleq; exact X.bleq) | (apply Y.bgeq; exact X.bgeq)); exact rfl) | refine X.l ?_ | refine X.w ?_ | refine X.a ?_ | (refine K.c_condD rfl (fun hc => ?_) (fun hc => ?_) <;> first | (exfalso; omega) | skip) | refine K.c_cond rfl (fun hc => ?_) (fun hc => ?_) | (refine K.s_guardD rfl rfl (fun hc => ?_) (fun hc => ?_) <;> first | (exfalso; omega) | skip) | refine K.s_guard rfl rfl (fun hc => ?_) (fun hc => ?_)))
    refine K.l_box rfl rfl rfl (fun B1 => ?_)
    refine K.s_pure X.sg rfl ?_
    refine X.l ?_
    refine X.a ?_
    refine K.c_cut (σ := Unit) (fun _ => [(1, .pointer (some ⟨B1, 0, none⟩)), (3, .bool (decide (safeOp op)))]) (fun _ => h) (fun _ => blk B1 26 (cE op val tb nm col (.slice ao args.length ca)) :: F) (fun _ => True) (fun _ _ => ?_) (fun KK hKK => ?_)
    · (repeat' (first | (apply K.s_pure; (first | (apply Y.mv; exact X.mv) | (apply Y.sg; exact X.sg) | (apply Y.pk; exact X.pk) | (apply Y.fa; exact X.fa) | (apply Y.ld; exact X.ld) | (apply Y.ia; exact X.ia) | (apply Y.len; exact X.len) | (apply Y.badd; exact X.badd) | (apply Y.beql; exact X.beql) | (apply Y.blss; exact X.blss) | (apply Y.bleq; exact X.bleq) | (apply Y.bgeq; exact X.bgeq)); exact rfl) | refine X.l ?_ | refine X.w ?_ | refine X.a ?_ | (refine K.c_condD rfl (fun hc => ?_) (fun hc => ?_) <;> first | (exfalso; omega) | skip) | refine K.c_cond rfl (fun hc => ?_) (fun hc => ?_) | (refine K.s_guardD rfl rfl (fun hc => ?_) (fun hc => ?_) <;> first | (exfalso; omega) | skip) | refine K.s_guard rfl rfl (fun hc => ?_) (fun hc => ?_)))
      refine K.c_loop (σ := Nat × Bool) (fun q => [(1, .pointer (some ⟨B1, 0, none⟩)), (3, .bool q.2), (4, .int .i64 q.1)]) (fun _ => h) (fun _ => blk B1 26 (cE op val tb nm col (.slice ao args.length ca)) :: F)
        (fun q => q.1 ≤ args.length ∧ (q.2 = true → safeOp op ∧ ∀ (i : Nat) e, i < q.1 → args[i]? = some e → safeQ e = true) ∧ (q.2 = false → (decide (safeOp op) && args.all safeQ) = false)) (fun q => args.length - q.1) (0, decide (safeOp op)) ⟨Nat.zero_le _, fun e => ⟨of_decide_eq_true e, fun i e hi => by omega⟩, fun e => by have e2 : decide (safeOp op) = false := e; rw [e2]; rfl⟩ (by repeat (first | exact K.Sub.nil _ | refine K.Sub.cons rfl ?_)) rfl rfl ?_
      rintro ⟨j, b⟩ ⟨hj, hyes, hno⟩ KL hKL
      dsimp only at hj hyes hno ⊢
      cases b with
      | false =>
        rw [hno rfl]
        (repeat' (first | (apply K.s_pure; (first | (apply Y.mv; exact X.mv) | (apply Y.sg; exact X.sg) | (apply Y.pk; exact X.pk) | (apply Y.fa; exact X.fa) | (apply Y.ld; exact X.ld) | (apply Y.ia; exact X.ia) | (apply Y.len; exact X.len) | (apply Y.badd; exact X.badd) | (apply Y.beql; exact X.beql) | (apply Y.blss; exact X.blss) | (apply Y.bleq; exact X.bleq) | (apply Y.bgeq; exact X.bgeq)); exact rfl) | refine X.l ?_ | refine X.w ?_ | refine X.a ?_ | (refine K.c_condD rfl (fun hc => ?_) (fun hc => ?_) <;> first | (exfalso; omega) | skip) | refine K.c_cond rfl (fun hc => ?_) (fun hc => ?_) | (refine K.s_guardD rfl rfl (fun hc => ?_) (fun hc => ?_) <;> first | (exfalso; omega) | skip) | refine K.s_guard rfl rfl (fun hc => ?_) (fun hc => ?_)))
        all_goals
          refine K.AT.sel [0] rfl ?_
          refine K.done (by first | exact Or.inl rfl | exact Or.inr rfl) rfl (by first | exact K.Base.le.refl _ | assumption) (H' := []) rfl ⟨rfl, rfl, rfl⟩
      | true =>
        obtain ⟨hso, hyes⟩ := hyes rfl
        by_cases hjl : j < args.length
        · have hc1 : es[j]? = some (es[j]'(by omega)) := List.getElem?_eq_getElem (by omega)
          have hc0 : es[((j : Nat) : Int).toNat]? = some (es[j]'(by omega)) := by rw [Int.toNat_natCast]; exact hc1
          have he1 : args[j]? = some args[j] := List.getElem?_eq_getElem hjl
          generalize es[j]'(by omega) = c at hc0 hc1
          have hmem : args[j] ∈ args := List.getElem_mem hjl
          generalize args[j] = e at he1 hmem
          have hce := hr j c e hc1 he1
          (repeat' (first | (apply K.s_pure; (first | (apply Y.mv; exact X.mv) | (apply Y.sg; exact X.sg) | (apply Y.pk; exact X.pk) | (apply Y.fa; exact X.fa) | (apply Y.ld; exact X.ld) | (apply Y.ia; exact X.ia) | (apply Y.len; exact X.len) | (apply Y.badd; exact X.badd) | (apply Y.beql; exact X.beql) | (apply Y.blss; exact X.blss) | (apply Y.bleq; exact X.bleq) | (apply Y.bgeq; exact X.bgeq)); exact rfl) | refine X.l ?_ | refine X.w ?_ | refine X.a ?_ | (refine K.c_condD rfl (fun hc => ?_) (fun hc => ?_) <;> first | (exfalso; omega) | skip) | refine K.c_cond rfl (fun hc => ?_) (fun hc => ?_) | (refine K.s_guardD rfl rfl (fun hc => ?_) (fun hc => ?_) <;> first | (exfalso; omega) | skip) | refine K.s_guard rfl rfl (fun hc => ?_) (fun hc => ?_)))
          refine K.s_pureE (K.p_indexL hv (Fx.und rfl) (Fx.sz rfl) rfl rfl (by omega) hc0) rfl ?_
          rintro v2 ⟨b, o, rfl, hcel⟩
          refine K.s_pure (K.p_loadM (Fx.agg rfl) rfl (Cels.up hcel) (Fx.sz rfl) hce.len) rfl ?_
          (repeat' (first | (apply K.s_pure; (first | (apply Y.mv; exact X.mv) | (apply Y.sg; exact X.sg) | (apply Y.pk; exact X.pk) | (apply Y.fa; exact X.fa) | (apply Y.ld; exact X.ld) | (apply Y.ia; exact X.ia) | (apply Y.len; exact X.len) | (apply Y.badd; exact X.badd) | (apply Y.beql; exact X.beql) | (apply Y.blss; exact X.blss) | (apply Y.bleq; exact X.bleq) | (apply Y.bgeq; exact X.bgeq)); exact rfl) | refine X.l ?_ | refine X.w ?_ | refine X.a ?_ | (refine K.c_condD rfl (fun hc => ?_) (fun hc => ?_) <;> first | (exfalso; omega) | skip) | refine K.c_cond rfl (fun hc => ?_) (fun hc => ?_) | (refine K.s_guardD rfl rfl (fun hc => ?_) (fun hc => ?_) <;> first | (exfalso; omega) | skip) | refine K.s_guard rfl rfl (fun hc => ?_) (fun hc => ?_)))
          refine K.l_callV (Fx.cal rfl) rfl (ih c e hce) (K.pp [] rfl) rfl rfl ?_
          simp only [List.nil_append]
          (repeat' (first | (apply K.s_pure; (first | (apply Y.mv; exact X.mv) | (apply Y.sg; exact X.sg) | (apply Y.pk; exact X.pk) | (apply Y.fa; exact X.fa) | (apply Y.ld; exact X.ld) | (apply Y.ia; exact X.ia) | (apply Y.len; exact X.len) | (apply Y.badd; exact X.badd) | (apply Y.beql; exact X.beql) | (apply Y.blss; exact X.blss) | (apply Y.bleq; exact X.bleq) | (apply Y.bgeq; exact X.bgeq)); exact rfl) | refine X.l ?_ | refine X.w ?_ | refine X.a ?_ | (refine K.c_condD rfl (fun hc => ?_) (fun hc => ?_) <;> first | (exfalso; omega) | skip) | refine K.c_cond rfl (fun hc => ?_) (fun hc => ?_) | (refine K.s_guardD rfl rfl (fun hc => ?_) (fun hc => ?_) <;> first | (exfalso; omega) | skip) | refine K.s_guard rfl rfl (fun hc => ?_) (fun hc => ?_)))
          refine K.a_round hKL (j + 1, safeQ e) ⟨by dsimp only; omega, fun hse => ⟨hso, fun i e' hi hi2 => ?_⟩, fun hse => ?_⟩ (by repeat (first | exact K.Sub.nil _ | refine K.Sub.cons rfl ?_)) rfl rfl (by dsimp only; omega)
          · dsimp only at hi hse
            by_cases hij : i < j
            · exact hyes i e' hij hi2
            · obtain rfl : i = j := by omega
              rw [he1] at hi2; cases hi2; exact hse
          · dsimp only at hse
            rw [List.all_eq_false.2 ⟨e, hmem, by rw [hse]; decide⟩, Bool.and_false]
        · obtain rfl : j = args.length := by omega
          have ht : (decide (safeOp op) && args.all safeQ) = true := by
            rw [decide_eq_true hso, List.all_eq_true.2 fun e he => ?_]
            · rfl
            · obtain ⟨i, hi, e1⟩ := List.getElem_of_mem he
              exact hyes i e hi (by rw [List.getElem?_eq_getElem hi, e1])
          rw [ht]
          (repeat' (first | (apply K.s_pure; (first | (apply Y.mv; exact X.mv) | (apply Y.sg; exact X.sg) | (apply Y.pk; exact X.pk) | (apply Y.fa; exact X.fa) | (apply Y.ld; exact X.ld) | (apply Y.ia; exact X.ia) | (apply Y.len; exact X.len) | (apply Y.badd; exact X.badd) | (apply Y.beql; exact X.beql) | (apply Y.blss; exact X.blss) | (apply Y.bleq; exact X.bleq) | (apply Y.bgeq; exact X.bgeq)); exact rfl) | refine X.l ?_ | refine X.w ?_ | refine X.a ?_ | (refine K.c_condD rfl (fun hc => ?_) (fun hc => ?_) <;> first | (exfalso; omega) | skip) | refine K.c_cond rfl (fun hc => ?_) (fun hc => ?_) | (refine K.s_guardD rfl rfl (fun hc => ?_) (fun hc => ?_) <;> first | (exfalso; omega) | skip) | refine K.s_guard rfl rfl (fun hc => ?_) (fun hc => ?_)))
          refine K.AT.sel [0] rfl ?_
          refine K.done (by first | exact Or.inl rfl | exact Or.inr rfl) rfl (by first | exact K.Base.le.refl _ | assumption) (H' := []) rfl ⟨rfl, rfl, rfl⟩
    · have hso : safeOp op ↔ (op = 1 ∨ op = 3 ∨ op = 5 ∨ op = 6 ∨ op = 7 ∨ (14 ≤ op ∧ op ≤ 21)) := Iff.rfl
      by_cases hs : safeOp op
      · rw [decide_eq_true hs] at hKK
        rw [hso] at hs
        (repeat' (first | (apply K.s_pure; (first | (apply Y.mv; exact X.mv) | (apply Y.sg; exact X.sg) | (apply Y.pk; exact X.pk) | (apply Y.fa; exact X.fa) | (apply Y.ld; exact X.ld) | (apply Y.ia; exact X.ia) | (apply Y.len; exact X.len) | (apply Y.badd; exact X.badd) | (apply Y.beql; exact X.beql) | (apply Y.blss; exact X.blss) | (apply Y.bleq; exact X.bleq) | (apply Y.bgeq; exact X.bgeq)); exact rfl) | refine X.l ?_ | refine X.w ?_ | refine X.a ?_ | (refine K.c_condD rfl (fun hc => ?_) (fun hc => ?_) <;> first | (exfalso; omega) | skip) | refine K.c_cond rfl (fun hc => ?_) (fun hc => ?_) | (refine K.s_guardD rfl rfl (fun hc => ?_) (fun hc => ?_) <;> first | (exfalso; omega) | skip) | refine K.s_guard rfl rfl (fun hc => ?_) (fun hc => ?_)))
        all_goals first
          | (rw [decide_eq_true (show op ≤ 21 by omega)]; refine K.a_cut hKK () trivial (by repeat (first | exact K.Sub.nil _ | refine K.Sub.cons rfl ?_)) rfl rfl)
          | (refine K.a_cut hKK () trivial (by repeat (first | exact K.Sub.nil _ | refine K.Sub.cons rfl ?_)) rfl rfl)
      · rw [decide_eq_false hs] at hKK
        rw [hso] at hs
        (repeat' (first | (apply K.s_pure; (first | (apply Y.mv; exact X.mv) | (apply Y.sg; exact X.sg) | (apply Y.pk; exact X.pk) | (apply Y.fa; exact X.fa) | (apply Y.ld; exact X.ld) | (apply Y.ia; exact X.ia) | (apply Y.len; exact X.len) | (apply Y.badd; exact X.badd) | (apply Y.beql; exact X.beql) | (apply Y.blss; exact X.blss) | (apply Y.bleq; exact X.bleq) | (apply Y.bgeq; exact X.bgeq)); exact rfl) | refine X.l ?_ | refine X.w ?_ | refine X.a ?_ | (refine K.c_condD rfl (fun hc => ?_) (fun hc => ?_) <;> first | (exfalso; omega) | skip) | refine K.c_cond rfl (fun hc => ?_) (fun hc => ?_) | (refine K.s_guardD rfl rfl (fun hc => ?_) (fun hc => ?_) <;> first | (exfalso; omega) | skip) | refine K.s_guard rfl rfl (fun hc => ?_) (fun hc => ?_)))
        all_goals first
          | (rw [decide_eq_false (show ¬ op ≤ 21 by omega)]; refine K.a_cut hKK () trivial (by repeat (first | exact K.Sub.nil _ | refine K.Sub.cons rfl ?_)) rfl rfl)
          | (refine K.a_cut hKK () trivial (by repeat (first | exact K.Sub.nil _ | refine K.Sub.cons rfl ?_)) rfl rfl)
/-! All values of a row -/
theorem clw (h : Base) (r : List Val) (hx : ∀ c ∈ r, wfV c) : ∀ j c, (r.map cV)[j]? = some c → TrV Try.prog 42 [.agg c.toArray] h [] (.bool (noQ okV r j)) [] := fun j c hj => by
  obtain ⟨v, hv⟩ := getE (k := 0) (List.length_map ..) hj
  rw [List.getElem?_map, hv] at hj
  cases hj
  rw [noQ_at hv]
  refine K.enter Try.func42 rfl (Nat.le_of_ble_eq_true rfl) (fun F => ?_)
  (repeat' (first | (apply K.s_pure; (first | (apply Y.sg; exact X.sg) | (apply Y.ld; exact X.ld) | (apply Y.nt; exact X.nt)); exact rfl) | refine X.l ?_ | refine X.w ?_ | refine X.a ?_ | (refine K.c_condD rfl (fun hc => ?_) (fun hc => ?_) <;> first | (exfalso; omega) | skip) | refine K.c_cond rfl (fun hc => ?_) (fun hc => ?_)))
  refine K.l_box rfl rfl rfl (fun B => ?_)
  (repeat' (first | (apply K.s_pure; (first | (apply Y.sg; exact X.sg) | (apply Y.ld; exact X.ld) | (apply Y.nt; exact X.nt)); exact rfl) | refine X.l ?_ | refine X.w ?_ | refine X.a ?_ | (refine K.c_condD rfl (fun hc => ?_) (fun hc => ?_) <;> first | (exfalso; omega) | skip) | refine K.c_cond rfl (fun hc => ?_) (fun hc => ?_)))
  refine K.l_callV (Fx.cal rfl) rfl (ValueMay h v (hx v (List.mem_of_getElem? hv))) (K.pp [] rfl) rfl rfl ?_
  simp only [List.nil_append]
  generalize okV v = q
  (repeat' (first | (apply K.s_pure; (first | (apply Y.sg; exact X.sg) | (apply Y.ld; exact X.ld) | (apply Y.nt; exact X.nt)); exact rfl) | refine X.l ?_ | refine X.w ?_ | refine X.a ?_ | (refine K.c_condD rfl (fun hc => ?_) (fun hc => ?_) <;> first | (exfalso; omega) | skip) | refine K.c_cond rfl (fun hc => ?_) (fun hc => ?_)))
  refine K.AT.drop ?_
  refine K.done (by first | exact Or.inl rfl | exact Or.inr rfl) rfl (by first | exact K.Base.le.refl _ | assumption) (H' := []) rfl ⟨rfl, rfl, rfl⟩
theorem Whole (h : Base) (v : Value) (r : List Val) (hv : SL h 3 v (r.map cV)) (hx : ∀ c ∈ r, wfV c) (hr : r.length ≤ 9223372036854775807) : TrV Try.prog 23 [v] h [] (.bool (r.all okV)) [] := by
  have hlen : (r.map cV).length = r.length := List.length_map ..
  refine K.enter Try.func23 rfl (Nat.le_of_ble_eq_true rfl) (fun F => ?_)
  simp only [List.nil_append]
  (repeat' (first | (apply K.s_pure; (first | (apply Y.mv; exact X.mv) | (apply Y.sg; exact X.sg) | (apply Y.nt; exact X.nt)); exact rfl) | refine X.l ?_ | refine X.w ?_ | refine X.a ?_ | (refine K.c_condD rfl (fun hc => ?_) (fun hc => ?_) <;> first | (exfalso; omega) | skip) | refine K.c_cond rfl (fun hc => ?_) (fun hc => ?_)))
  refine K.l_callV (Fx.cal rfl) rfl (CtnV h _ 42 [] (Fx.cal rfl) _ _ _ hv (by omega) (SL.lens hv) (clw h r hx)) (K.pp [] rfl) rfl rfl ?_
  simp only [List.nil_append]
  rw [hlen, any_no]
  generalize r.all okV = q
  (repeat' (first | (apply K.s_pure; (first | (apply Y.mv; exact X.mv) | (apply Y.sg; exact X.sg) | (apply Y.nt; exact X.nt)); exact rfl) | refine X.l ?_ | refine X.w ?_ | refine X.a ?_ | (refine K.c_condD rfl (fun hc => ?_) (fun hc => ?_) <;> first | (exfalso; omega) | skip) | refine K.c_cond rfl (fun hc => ?_) (fun hc => ?_)))
  rw [Bool.not_not]
  refine K.done (by first | exact Or.inl rfl | exact Or.inr rfl) rfl (by first | exact K.Base.le.refl _ | assumption) (H' := []) rfl ⟨rfl, rfl, rfl⟩
theorem RWhole (h : Base) (v : Value) (r : List Val) (hv : SL h 3 v (r.map cV)) (hx : ∀ c ∈ r, wfV c) (hr : r.length ≤ 9223372036854775807) : TrV Try.prog 25 [v] h [] (.bool (r.all okV)) [] := by
  have hlen : (r.map cV).length = r.length := List.length_map ..
  obtain ⟨ao, ca, rfl⟩ := hv.len
  rw [hlen] at hv ⊢
  refine K.enter Try.func25 rfl (Nat.le_of_ble_eq_true rfl) (fun F => ?_)
  simp only [List.nil_append]
  (repeat' (first | (apply K.s_pure; (first | (apply Y.mv; exact X.mv) | (apply Y.sg; exact X.sg) | (apply Y.ld; exact X.ld) | (apply Y.ia; exact X.ia) | (apply Y.len; exact X.len) | (apply Y.nt; exact X.nt) | (apply Y.badd; exact X.badd) | (apply Y.blss; exact X.blss)); exact rfl) | refine X.l ?_ | refine X.w ?_ | refine X.a ?_ | (refine K.c_condD rfl (fun hc => ?_) (fun hc => ?_) <;> first | (exfalso; omega) | skip) | refine K.c_cond rfl (fun hc => ?_) (fun hc => ?_)))
  refine K.c_loop (σ := Nat) (fun j => [(0, .slice ao r.length ca), (3, .int .i64 j)]) (fun _ => h) (fun _ => F)
    (fun j => j ≤ r.length ∧ ∀ (i : Nat) (c : Val), i < j → r[i]? = some c → okV c = true) (fun j => r.length - j) 0 ⟨Nat.zero_le _, fun i c hi => by omega⟩ (by repeat (first | exact K.Sub.nil _ | refine K.Sub.cons rfl ?_)) rfl rfl ?_
  rintro j ⟨hj, hok⟩ KL hKL
  by_cases hjl : j < r.length
  · have hc0 : (r.map cV)[((j : Nat) : Int).toNat]? = some (cV r[j]) := by rw [Int.toNat_natCast, List.getElem?_map, List.getElem?_eq_getElem hjl]; rfl
    have hc1 : r[j]? = some r[j] := List.getElem?_eq_getElem hjl
    have hmem : r[j] ∈ r := List.getElem_mem hjl
    have hwc : wfV r[j] := hx _ hmem
    generalize r[j] = c at hc0 hc1 hwc hmem
    (repeat' (first | (apply K.s_pure; (first | (apply Y.mv; exact X.mv) | (apply Y.sg; exact X.sg) | (apply Y.ld; exact X.ld) | (apply Y.ia; exact X.ia) | (apply Y.len; exact X.len) | (apply Y.nt; exact X.nt) | (apply Y.badd; exact X.badd) | (apply Y.blss; exact X.blss)); exact rfl) | refine X.l ?_ | refine X.w ?_ | refine X.a ?_ | (refine K.c_condD rfl (fun hc => ?_) (fun hc => ?_) <;> first | (exfalso; omega) | skip) | refine K.c_cond rfl (fun hc => ?_) (fun hc => ?_)))
    refine K.s_pureE (K.p_indexL hv (Fx.und rfl) (Fx.sz rfl) rfl rfl (by omega) hc0) rfl ?_
    rintro v2 ⟨b, o, rfl, hcel⟩
    refine K.s_pure (K.p_loadM (Fx.agg rfl) rfl (Cels.up hcel) (Fx.sz rfl) rfl) rfl ?_
    refine K.l_callV (Fx.cal rfl) rfl (RefValueMay h c hwc) (K.pp [] rfl) rfl rfl ?_
    simp only [List.nil_append]
    cases hov : okV c with
    | false =>
      rw [List.all_eq_false.2 ⟨c, hmem, by rw [hov]; decide⟩]
      (repeat' (first | (apply K.s_pure; (first | (apply Y.mv; exact X.mv) | (apply Y.sg; exact X.sg) | (apply Y.ld; exact X.ld) | (apply Y.ia; exact X.ia) | (apply Y.len; exact X.len) | (apply Y.nt; exact X.nt) | (apply Y.badd; exact X.badd) | (apply Y.blss; exact X.blss)); exact rfl) | refine X.l ?_ | refine X.w ?_ | refine X.a ?_ | (refine K.c_condD rfl (fun hc => ?_) (fun hc => ?_) <;> first | (exfalso; omega) | skip) | refine K.c_cond rfl (fun hc => ?_) (fun hc => ?_)))
      refine K.done (by first | exact Or.inl rfl | exact Or.inr rfl) rfl (by first | exact K.Base.le.refl _ | assumption) (H' := []) rfl ⟨rfl, rfl, rfl⟩
    | true =>
      (repeat' (first | (apply K.s_pure; (first | (apply Y.mv; exact X.mv) | (apply Y.sg; exact X.sg) | (apply Y.ld; exact X.ld) | (apply Y.ia; exact X.ia) | (apply Y.len; exact X.len) | (apply Y.nt; exact X.nt) | (apply Y.badd; exact X.badd) | (apply Y.blss; exact X.blss)); exact rfl) | refine X.l ?_ | refine X.w ?_ | refine X.a ?_ | (refine K.c_condD rfl (fun hc => ?_) (fun hc => ?_) <;> first | (exfalso; omega) | skip) | refine K.c_cond rfl (fun hc => ?_) (fun hc => ?_)))
      refine K.a_round hKL (j + 1) ⟨by omega, fun i d hi e => ?_⟩ (by repeat (first | exact K.Sub.nil _ | refine K.Sub.cons rfl ?_)) rfl rfl (by omega)
      by_cases hij : i < j
      · exact hok i d hij e
      · obtain rfl : i = j := by omega
        rw [hc1] at e; cases e; exact hov
  · obtain rfl : j = r.length := by omega
    rw [List.all_eq_true.2 fun c hc => by
      obtain ⟨j, hj, e⟩ := List.getElem_of_mem hc
      exact hok j c hj (by rw [List.getElem?_eq_getElem hj, e])]
    (repeat' (first | (apply K.s_pure; (first | (apply Y.mv; exact X.mv) | (apply Y.sg; exact X.sg) | (apply Y.ld; exact X.ld) | (apply Y.ia; exact X.ia) | (apply Y.len; exact X.len) | (apply Y.nt; exact X.nt) | (apply Y.badd; exact X.badd) | (apply Y.blss; exact X.blss)); exact rfl) | refine X.l ?_ | refine X.w ?_ | refine X.a ?_ | (refine K.c_condD rfl (fun hc => ?_) (fun hc => ?_) <;> first | (exfalso; omega) | skip) | refine K.c_cond rfl (fun hc => ?_) (fun hc => ?_)))
    refine K.done (by first | exact Or.inl rfl | exact Or.inr rfl) rfl (by first | exact K.Base.le.refl _ | assumption) (H' := []) rfl ⟨rfl, rfl, rfl⟩
end Go.Proofs.Yteminhinpbcepaa.Rw
