/-
  Values: what the operations on them answer; the code's. Conditions: each theorem's own.
-/
import Derived.Test.YtmkhejdamjibgaaEa
import Derived.Test.YtmkhejdamjibgaaKY

namespace Go.Proofs.Ytmkhejdamjibgaa.Rw
open Go Go.K Go.Proofs Go.Proofs.Ytmkhejdamjibgaa
set_option linter.unusedVariables false
set_option linter.unusedSimpArgs false
set_option maxRecDepth 10000

def vN : Val := ⟨0, 0, ⟨#[]⟩⟩
def vB (b : Bool) : Val := ⟨3, if b then 1 else 0, ⟨#[]⟩⟩
def vI (n : Int) : Val := ⟨1, n, ⟨#[]⟩⟩
/-- A value and an error. -/
def rV (r : Val × Int) : Value := .tuple #[.agg (cV r.1).toArray, .int .i64 r.2]
/-- May they all be, and are they of a kind, or Null? -/
def fitQ (k : Int) (l : List Val) : Int := if l.all okV then (if l.all (fun v => decide (v.kind = 0 ∨ v.kind = k)) then 0 else 30) else 5
theorem fitQ_form {k : Int} {l : List Val} {v : Val} (hv : v ∈ l) (ho : okV v = false) : fitQ k l = 5 := by
  rw [fitQ, if_neg]
  intro h
  rw [List.all_eq_true] at h
  have := h v hv
  rw [ho] at this; cases this
theorem fitQ_kind {k : Int} {l : List Val} {v : Val} (hv : v ∈ l) (ha : ∀ u ∈ l, okV u = true) (ho : ¬ (v.kind = 0 ∨ v.kind = k)) : fitQ k l = 30 := by
  rw [fitQ, if_pos (List.all_eq_true.2 ha), if_neg]
  intro h
  rw [List.all_eq_true] at h
  exact ho (of_decide_eq_true (h v hv))
theorem fitQ_zero {k : Int} {l : List Val} (ha : ∀ u ∈ l, okV u = true) (ho : ∀ u ∈ l, u.kind = 0 ∨ u.kind = k) : fitQ k l = 0 := by
  rw [fitQ, if_pos (List.all_eq_true.2 ha), if_pos (List.all_eq_true.2 fun u hu => decide_eq_true (ho u hu))]
theorem fitQ_ok {k : Int} {l : List Val} (h : fitQ k l = 0) : (∀ u ∈ l, okV u = true) ∧ ∀ u ∈ l, u.kind = 0 ∨ u.kind = k := by
  unfold fitQ at h
  split at h
  · rename_i h1
    split at h
    · rename_i h2
      exact ⟨List.all_eq_true.1 h1, fun u hu => of_decide_eq_true (List.all_eq_true.1 h2 u hu)⟩
    · cases h
  · cases h
theorem fitQ_cases (k : Int) (l : List Val) : fitQ k l = 0 ∨ fitQ k l = 5 ∨ fitQ k l = 30 := by
  unfold fitQ
  split
  · split
    · exact .inl rfl
    · exact .inr (.inr rfl)
  · exact .inr (.inl rfl)

set_option maxHeartbeats 1000000 in
theorem All (h : Base) (K0 : List Asrt) (k : Int) (u : Value) (r : List Val) (hu : SLK h K0 3 u (r.map cV)) (hx : ∀ c ∈ r, wfV c) (hr : r.length ≤ 9223372036854775807) :
    TrV Try.prog 53 [.int .i64 k, u] h K0 (.int .i64 (fitQ k r)) K0 := by
  have hlen : (r.map cV).length = r.length := List.length_map ..
  obtain ⟨ao, ca, rfl⟩ := hu.len
  rw [hlen] at hu ⊢
  refine K.enter Try.func53 rfl (Nat.le_of_ble_eq_true rfl) (fun F => ?_)
  have hsub : ∀ A ∈ K0, A ∈ K0 ++ F := fun A hA => List.mem_append_left _ hA
  (repeat' (first | refine X.rq ?_ | (refine X.rc ?_ ?_ <;> intro hc <;> first | (exfalso; omega) | skip)))
  refine K.c_loop (σ := Nat) (fun j => [(0, .int .i64 k), (1, .slice ao r.length ca), (9, .slice ao r.length ca), (10, .int .i64 r.length), (11, .int .i64 j)]) (fun _ => h) (fun _ => K0 ++ F)
    (fun j => j ≤ r.length ∧ ∀ (i : Nat) (c : Val), i < j → r[i]? = some c → okV c = true) (fun j => r.length - j) 0 ⟨Nat.zero_le _, fun i c hi => by omega⟩ (by repeat (first | exact K.Sub.nil _ | refine K.Sub.cons rfl ?_)) rfl rfl ?_
  rintro j ⟨hj, hok⟩ KL hKL
  by_cases hjl : j < r.length
  · have hc0 : (r.map cV)[((j : Nat) : Int).toNat]? = some (cV r[j]) := by rw [Int.toNat_natCast, List.getElem?_map, List.getElem?_eq_getElem hjl]; rfl
    have hc1 : r[j]? = some r[j] := List.getElem?_eq_getElem hjl
    have hmem : r[j] ∈ r := List.getElem_mem hjl
    have hwc : wfV r[j] := hx _ hmem
    generalize r[j] = c at hc0 hc1 hwc hmem
    (repeat' (first | refine X.rq ?_ | (refine X.rc ?_ ?_ <;> intro hc <;> first | (exfalso; omega) | skip)))
    refine K.s_pureE (K.p_indexK hu (Fx.und rfl) (Fx.sz rfl) rfl rfl (by omega) hc0) rfl ?_
    rintro v2 ⟨b, o, rfl, hcel⟩
    refine K.s_pure (K.p_loadM (Fx.agg rfl) rfl (Cels.sub hcel hsub) (Fx.sz rfl) rfl) rfl ?_
    refine K.l_alloc (Fx.zr rfl) rfl rfl (fun B => ?_)
    refine X.stw ?_
    (repeat' (first | refine X.rq ?_ | (refine X.rc ?_ ?_ <;> intro hc <;> first | (exfalso; omega) | skip)))
    refine K.l_callV (Fx.cal rfl) rfl (ValueMay h c hwc) (K.pp [] rfl) rfl rfl ?_
    simp only [List.nil_append]
    cases hov : okV c with
    | false =>
      rw [fitQ_form hmem hov]
      (repeat' (first | refine X.rq ?_ | (refine X.rc ?_ ?_ <;> intro hc <;> first | (exfalso; omega) | skip)))
      refine K.AT.drop ?_
      refine K.done (by first | exact Or.inl rfl | exact Or.inr rfl) rfl (by first | exact K.Base.le.refl _ | assumption) (H' := K0) rfl ⟨rfl, rfl, rfl⟩
    | true =>
      (repeat' (first | refine X.rq ?_ | (refine X.rc ?_ ?_ <;> intro hc <;> first | (exfalso; omega) | skip)))
      refine K.AT.drop ?_
      refine K.a_round hKL (j + 1) ⟨by omega, fun i d hi e => ?_⟩ (by repeat (first | exact K.Sub.nil _ | refine K.Sub.cons rfl ?_)) rfl rfl (by omega)
      by_cases hij : i < j
      · exact hok i d hij e
      · obtain rfl : i = j := by omega
        rw [hc1] at e; cases e; exact hov
  · obtain rfl : j = r.length := by omega
    have hall : ∀ c ∈ r, okV c = true := fun c hc => by
      obtain ⟨j, hj, e⟩ := List.getElem_of_mem hc
      exact hok j c hj (by rw [List.getElem?_eq_getElem hj, e])
    (repeat' (first | refine X.rq ?_ | (refine X.rc ?_ ?_ <;> intro hc <;> first | (exfalso; omega) | skip)))
    refine K.c_loop (σ := Nat) (fun j => [(0, .int .i64 k), (1, .slice ao r.length ca), (19, .slice ao r.length ca), (20, .int .i64 r.length), (21, .int .i64 j)]) (fun _ => h) (fun _ => K0 ++ F)
      (fun j => j ≤ r.length ∧ ∀ (i : Nat) (c : Val), i < j → r[i]? = some c → c.kind = 0 ∨ c.kind = k) (fun j => r.length - j) 0 ⟨Nat.zero_le _, fun i c hi => by omega⟩ (by repeat (first | exact K.Sub.nil _ | refine K.Sub.cons rfl ?_)) rfl rfl ?_
    rintro j ⟨hj, hkd⟩ KM hKM
    by_cases hjl : j < r.length
    · have hc0 : (r.map cV)[((j : Nat) : Int).toNat]? = some (cV r[j]) := by rw [Int.toNat_natCast, List.getElem?_map, List.getElem?_eq_getElem hjl]; rfl
      have hc1 : r[j]? = some r[j] := List.getElem?_eq_getElem hjl
      have hmem : r[j] ∈ r := List.getElem_mem hjl
      generalize r[j] = c at hc0 hc1 hmem
      (repeat' (first | refine X.rq ?_ | (refine X.rc ?_ ?_ <;> intro hc <;> first | (exfalso; omega) | skip)))
      refine K.s_pureE (K.p_indexK hu (Fx.und rfl) (Fx.sz rfl) rfl rfl (by omega) hc0) rfl ?_
      rintro v2 ⟨b, o, rfl, hcel⟩
      refine K.s_pure (K.p_loadM (Fx.agg rfl) rfl (Cels.sub hcel hsub) (Fx.sz rfl) rfl) rfl ?_
      refine K.l_alloc (Fx.zr rfl) rfl rfl (fun B => ?_)
      refine X.stw ?_
      (repeat' (first | refine X.rq ?_ | (refine X.rc ?_ ?_ <;> intro hc <;> first | (exfalso; omega) | skip)))
      all_goals refine K.AT.drop ?_
      all_goals first
        | (rw [fitQ_kind hmem hall (by omega)]
           refine K.done (by first | exact Or.inl rfl | exact Or.inr rfl) rfl (by first | exact K.Base.le.refl _ | assumption) (H' := K0) rfl ⟨rfl, rfl, rfl⟩)
        | (refine K.a_round hKM (j + 1) ⟨by omega, fun i d hi e => ?_⟩ (by repeat (first | exact K.Sub.nil _ | refine K.Sub.cons rfl ?_)) rfl rfl (by omega)
           by_cases hij : i < j
           · exact hkd i d hij e
           · obtain rfl : i = j := by omega
             rw [hc1] at e; cases e; omega)
    · obtain rfl : j = r.length := by omega
      rw [fitQ_zero hall (fun c hc => by
        obtain ⟨j, hj, e⟩ := List.getElem_of_mem hc
        exact hkd j c hj (by rw [List.getElem?_eq_getElem hj, e]))]
      (repeat' (first | refine X.rq ?_ | (refine X.rc ?_ ?_ <;> intro hc <;> first | (exfalso; omega) | skip)))
      refine K.done (by first | exact Or.inl rfl | exact Or.inr rfl) rfl (by first | exact K.Base.le.refl _ | assumption) (H' := K0) rfl ⟨rfl, rfl, rfl⟩

/-- Rows of known values, as a slice. -/
theorem slk_blk {h : Base} {KK : List Asrt} {B T sz n : Nat} {es : List (List Value)} (i : Nat) (hi : KK[i]? = some (blk B T es.flatten)) (hz : ∀ e ∈ es, e.length = sz) (hn : es.length = n) : SLK h KK sz (.slice (some ⟨B, 0, none⟩) n n) es := by
  subst hn
  refine .inr ⟨B, 0, es.length, rfl, Nat.le_refl _, fun j hj => ⟨hz _ (List.getElem_mem hj), ?_⟩⟩
  obtain ⟨p1, p2⟩ := K.flat_parts es j hj hz
  rw [p1] at hi
  exact K.cels_own i hi (by rw [Nat.zero_add]; exact p2)
theorem slk_2 {h : Base} {B T : Nat} (a b : Val) : SLK h [blk B T (cellsL [(0, .agg (cV a).toArray), (1, .agg (cV b).toArray)])] 3 (.slice (some ⟨B, 0, none⟩) 2 2) ([a, b].map cV) :=
  slk_blk (es := [cV a, cV b]) 0 rfl (fun e he => by
    simp only [List.mem_cons, List.not_mem_nil, or_false] at he
    rcases he with rfl | rfl <;> rfl) rfl
theorem slk_1 {h : Base} {B T : Nat} (a : Val) : SLK h [blk B T (cellsL [(0, .agg (cV a).toArray)])] 3 (.slice (some ⟨B, 0, none⟩) 1 1) ([a].map cV) :=
  slk_blk (es := [cV a]) 0 rfl (fun e he => by
    simp only [List.mem_cons, List.not_mem_nil, or_false] at he
    rcases he with rfl <;> rfl) rfl
theorem wf2 {a b : Val} (ha : wfV a) (hb : wfV b) : ∀ c ∈ [a, b], wfV c := fun c hc => by
  simp only [List.mem_cons, List.not_mem_nil, or_false] at hc
  rcases hc with rfl | rfl
  · exact ha
  · exact hb
theorem wf1 {a : Val} (ha : wfV a) : ∀ c ∈ [a], wfV c := fun c hc => by
  simp only [List.mem_cons, List.not_mem_nil, or_false] at hc
  subst hc; exact ha

theorem Yes (h : Base) (b : Bool) : TrV Try.prog 54 [.bool b] h [] (.agg (cV (vB b)).toArray) [] := by
  refine K.enter Try.func54 rfl (Nat.le_of_ble_eq_true rfl) (fun F => ?_)
  cases b <;>
  · (repeat' (first | refine X.rq ?_ | (refine X.rc ?_ ?_ <;> intro hc <;> first | (exfalso; omega) | skip)))
    refine K.l_alloc (Fx.zr rfl) rfl rfl (fun B => ?_)
    (repeat' (first | refine X.rq ?_ | (refine X.rc ?_ ?_ <;> intro hc <;> first | (exfalso; omega) | skip)))
    refine X.stw ?_
    (repeat' (first | refine X.rq ?_ | (refine X.rc ?_ ?_ <;> intro hc <;> first | (exfalso; omega) | skip)))
    refine K.doneC (by first | exact Or.inl rfl | exact Or.inr rfl) (.cell rfl (Fx.agg rfl) (Fx.sz rfl) (by first | exact K.cels_own (pre := []) (post := []) 0 rfl rfl | exact K.cels_own (pre := []) (post := []) 1 rfl rfl | exact K.cels_own (pre := []) (post := []) 2 rfl rfl | exact K.cels_own (pre := []) (post := []) 3 rfl rfl | exact K.cels_own (pre := []) (post := []) 4 rfl rfl | exact K.cels_own (pre := []) (post := []) 5 rfl rfl) .nil) (by first | exact K.Base.le.refl _ | assumption) (D := [_]) (H' := []) rfl ⟨rfl, rfl, rfl⟩
/-- What comes of two numbers whose exact answer is e. -/
def recQ (e : Int) (a b : Val) : Val × Int := if fitQ 1 [a, b] ≠ 0 ∨ a.kind = 0 ∨ b.kind = 0 then (vN, fitQ 1 [a, b]) else if in64 e then (vI e, 0) else (vN, 31)
theorem Reckoned (h : Base) (a b : Val) (ha : wfV a) (hb : wfV b) (f : FuncId) (hcal : Callable Try.prog f) (e : Int) (hf : fitQ 1 [a, b] = 0 → a.kind ≠ 0 → b.kind ≠ 0 → Tr Try.prog f [.int .i64 a.n, .int .i64 b.n] h [] (NumP h e)) :
    TrV Try.prog 51 [.agg (cV a).toArray, .agg (cV b).toArray, .func (.func f) #[] #[]] h [] (rV (recQ e a b)) [] := by
  refine K.enter Try.func51 rfl (Nat.le_of_ble_eq_true rfl) (fun F => ?_)
  (repeat' (first | refine X.rq ?_ | (refine X.rc ?_ ?_ <;> intro hc <;> first | (exfalso; omega) | skip)))
  refine K.l_box rfl rfl rfl (fun B => ?_)
  refine K.l_box rfl rfl rfl (fun B => ?_)
  refine K.l_alloc (Fx.zr rfl) rfl rfl (fun B => ?_)
  (repeat' (first | refine X.rq ?_ | (refine X.rc ?_ ?_ <;> intro hc <;> first | (exfalso; omega) | skip)))
  refine X.bs (fun B => ?_)
  refine K.l_callV (Fx.cal rfl) rfl (All h _ 1 _ [a, b] (slk_2 a b) (wf2 ha hb) (Nat.le_of_ble_eq_true rfl)) (K.pp [0] rfl) rfl rfl ?_
  simp only [List.cons_append, List.nil_append]
  by_cases h1 : fitQ 1 [a, b] ≠ 0 ∨ a.kind = 0 ∨ b.kind = 0
  · rw [recQ, if_pos h1]
    (repeat' (first | refine X.rq ?_ | (refine X.rc ?_ ?_ <;> intro hc <;> first | (exfalso; omega) | skip)))
    all_goals
      refine X.stw ?_
      (repeat' (first | refine X.rq ?_ | (refine X.rc ?_ ?_ <;> intro hc <;> first | (exfalso; omega) | skip)))
      refine K.doneC (by first | exact Or.inl rfl | exact Or.inr rfl) (.cell rfl (Fx.agg rfl) (Fx.sz rfl) (by first | exact K.cels_own (pre := []) (post := []) 0 rfl rfl | exact K.cels_own (pre := []) (post := []) 1 rfl rfl | exact K.cels_own (pre := []) (post := []) 2 rfl rfl | exact K.cels_own (pre := []) (post := []) 3 rfl rfl | exact K.cels_own (pre := []) (post := []) 4 rfl rfl | exact K.cels_own (pre := []) (post := []) 5 rfl rfl) (.tmp rfl .nil)) (by first | exact K.Base.le.refl _ | assumption) (D := [_, _, _, _]) (H' := []) rfl ⟨rfl, rfl, rfl⟩
  · rw [recQ, if_neg h1]
    (repeat' (first | refine X.rq ?_ | (refine X.rc ?_ ?_ <;> intro hc <;> first | (exfalso; omega) | skip)))
    refine K.l_callF (caps := []) hcal rfl rfl (hf (by omega) (by omega) (by omega)) (K.pp [] rfl) rfl ?_
    rintro u h' H' - ⟨rfl, rfl, z, rfl, hz⟩
    simp only [List.nil_append]
    (repeat' (first | refine X.rq ?_ | (refine X.rc ?_ ?_ <;> intro hc <;> first | (exfalso; omega) | skip)))
    · have hc' := hc
      rw [if_neg hc']
      (repeat' (first | refine X.rq ?_ | (refine X.rc ?_ ?_ <;> intro hc <;> first | (exfalso; omega) | skip)))
      refine X.stw ?_
      (repeat' (first | refine X.rq ?_ | (refine X.rc ?_ ?_ <;> intro hc <;> first | (exfalso; omega) | skip)))
      refine K.doneC (by first | exact Or.inl rfl | exact Or.inr rfl) (.cell rfl (Fx.agg rfl) (Fx.sz rfl) (by first | exact K.cels_own (pre := []) (post := []) 0 rfl rfl | exact K.cels_own (pre := []) (post := []) 1 rfl rfl | exact K.cels_own (pre := []) (post := []) 2 rfl rfl | exact K.cels_own (pre := []) (post := []) 3 rfl rfl | exact K.cels_own (pre := []) (post := []) 4 rfl rfl | exact K.cels_own (pre := []) (post := []) 5 rfl rfl) (.tmp rfl .nil)) (by first | exact K.Base.le.refl _ | assumption) (D := [_, _, _, _]) (H' := []) rfl ⟨rfl, rfl, rfl⟩
    · have hc' := hc
      have hc2 := Classical.not_not.1 hc'
      rw [hz hc2, if_pos hc2]
      (repeat' (first | refine X.rq ?_ | (refine X.rc ?_ ?_ <;> intro hc <;> first | (exfalso; omega) | skip)))
      refine X.stw ?_
      (repeat' (first | refine X.rq ?_ | (refine X.rc ?_ ?_ <;> intro hc <;> first | (exfalso; omega) | skip)))
      refine K.doneC (by first | exact Or.inl rfl | exact Or.inr rfl) (.cell rfl (Fx.agg rfl) (Fx.sz rfl) (by first | exact K.cels_own (pre := []) (post := []) 0 rfl rfl | exact K.cels_own (pre := []) (post := []) 1 rfl rfl | exact K.cels_own (pre := []) (post := []) 2 rfl rfl | exact K.cels_own (pre := []) (post := []) 3 rfl rfl | exact K.cels_own (pre := []) (post := []) 4 rfl rfl | exact K.cels_own (pre := []) (post := []) 5 rfl rfl) (.tmp rfl .nil)) (by first | exact K.Base.le.refl _ | assumption) (D := [_, _, _, _]) (H' := []) rfl ⟨rfl, rfl, rfl⟩
/-- An operation on numbers: 0 and, 1 less, 2 times, 3 by, 4 the rest. -/
def reckQ (k : Nat) (a b : Val) : Val × Int := if fitQ 1 [a, b] = 0 ∧ a.kind ≠ 0 ∧ b.kind ≠ 0 ∧ 3 ≤ k ∧ b.n = 0 then (vN, 32) else recQ (exQ k a.n b.n) a b
theorem reckQ_low {k : Nat} (hk : k < 3) (a b : Val) : reckQ k a b = recQ (exQ k a.n b.n) a b := by
  rw [reckQ, if_neg]; omega
theorem wf_in {v : Val} (h : wfV v) : in64 v.n := ⟨h.n1, h.n2⟩
theorem wfI {n : Int} (h : in64 n) : wfV (vI n) := ⟨(by decide : (-9223372036854775808 : Int) ≤ 1), (by decide : (1 : Int) ≤ 9223372036854775807), h.1, h.2, (by show 0 ≤ _; omega)⟩
theorem VAdd (h : Base) (a b : Val) (ha : wfV a) (hb : wfV b) : TrV Try.prog 55 [.agg (cV a).toArray, .agg (cV b).toArray] h [] (rV (reckQ 0 a b)) [] := by
  refine K.enter Try.func55 rfl (Nat.le_of_ble_eq_true rfl) (fun F => ?_)
  rw [reckQ_low (by decide)]
  (repeat' (first | refine X.rq ?_ | (refine X.rc ?_ ?_ <;> intro hc <;> first | (exfalso; omega) | skip)))
  refine K.l_box rfl rfl rfl (fun B => ?_)
  refine K.l_box rfl rfl rfl (fun B => ?_)
  refine K.l_alloc (Fx.zr rfl) rfl rfl (fun B => ?_)
  (repeat' (first | refine X.rq ?_ | (refine X.rc ?_ ?_ <;> intro hc <;> first | (exfalso; omega) | skip)))
  refine K.l_callV (Fx.cal rfl) rfl (Reckoned h a b ha hb 75 (Fx.cal rfl) _ fun _ _ _ => AddF h a.n b.n (wf_in ha) (wf_in hb)) (K.pp [] rfl) rfl rfl ?_
  simp only [List.nil_append]
  (repeat' (first | refine X.rq ?_ | (refine X.rc ?_ ?_ <;> intro hc <;> first | (exfalso; omega) | skip)))
  refine X.stw ?_
  (repeat' (first | refine X.rq ?_ | (refine X.rc ?_ ?_ <;> intro hc <;> first | (exfalso; omega) | skip)))
  refine K.doneC (by first | exact Or.inl rfl | exact Or.inr rfl) (.cell rfl (Fx.agg rfl) (Fx.sz rfl) (by first | exact K.cels_own (pre := []) (post := []) 0 rfl rfl | exact K.cels_own (pre := []) (post := []) 1 rfl rfl | exact K.cels_own (pre := []) (post := []) 2 rfl rfl | exact K.cels_own (pre := []) (post := []) 3 rfl rfl | exact K.cels_own (pre := []) (post := []) 4 rfl rfl | exact K.cels_own (pre := []) (post := []) 5 rfl rfl) (.tmp rfl .nil)) (by first | exact K.Base.le.refl _ | assumption) (D := [_, _, _]) (H' := []) rfl ⟨rfl, rfl, rfl⟩
theorem VSub (h : Base) (a b : Val) (ha : wfV a) (hb : wfV b) : TrV Try.prog 56 [.agg (cV a).toArray, .agg (cV b).toArray] h [] (rV (reckQ 1 a b)) [] := by
  refine K.enter Try.func56 rfl (Nat.le_of_ble_eq_true rfl) (fun F => ?_)
  rw [reckQ_low (by decide)]
  (repeat' (first | refine X.rq ?_ | (refine X.rc ?_ ?_ <;> intro hc <;> first | (exfalso; omega) | skip)))
  refine K.l_box rfl rfl rfl (fun B => ?_)
  refine K.l_box rfl rfl rfl (fun B => ?_)
  refine K.l_alloc (Fx.zr rfl) rfl rfl (fun B => ?_)
  (repeat' (first | refine X.rq ?_ | (refine X.rc ?_ ?_ <;> intro hc <;> first | (exfalso; omega) | skip)))
  refine K.l_callV (Fx.cal rfl) rfl (Reckoned h a b ha hb 76 (Fx.cal rfl) _ fun _ _ _ => SubF h a.n b.n (wf_in ha) (wf_in hb)) (K.pp [] rfl) rfl rfl ?_
  simp only [List.nil_append]
  (repeat' (first | refine X.rq ?_ | (refine X.rc ?_ ?_ <;> intro hc <;> first | (exfalso; omega) | skip)))
  refine X.stw ?_
  (repeat' (first | refine X.rq ?_ | (refine X.rc ?_ ?_ <;> intro hc <;> first | (exfalso; omega) | skip)))
  refine K.doneC (by first | exact Or.inl rfl | exact Or.inr rfl) (.cell rfl (Fx.agg rfl) (Fx.sz rfl) (by first | exact K.cels_own (pre := []) (post := []) 0 rfl rfl | exact K.cels_own (pre := []) (post := []) 1 rfl rfl | exact K.cels_own (pre := []) (post := []) 2 rfl rfl | exact K.cels_own (pre := []) (post := []) 3 rfl rfl | exact K.cels_own (pre := []) (post := []) 4 rfl rfl | exact K.cels_own (pre := []) (post := []) 5 rfl rfl) (.tmp rfl .nil)) (by first | exact K.Base.le.refl _ | assumption) (D := [_, _, _]) (H' := []) rfl ⟨rfl, rfl, rfl⟩
theorem VMul (h : Base) (a b : Val) (ha : wfV a) (hb : wfV b) : TrV Try.prog 57 [.agg (cV a).toArray, .agg (cV b).toArray] h [] (rV (reckQ 2 a b)) [] := by
  refine K.enter Try.func57 rfl (Nat.le_of_ble_eq_true rfl) (fun F => ?_)
  rw [reckQ_low (by decide)]
  (repeat' (first | refine X.rq ?_ | (refine X.rc ?_ ?_ <;> intro hc <;> first | (exfalso; omega) | skip)))
  refine K.l_box rfl rfl rfl (fun B => ?_)
  refine K.l_box rfl rfl rfl (fun B => ?_)
  refine K.l_alloc (Fx.zr rfl) rfl rfl (fun B => ?_)
  (repeat' (first | refine X.rq ?_ | (refine X.rc ?_ ?_ <;> intro hc <;> first | (exfalso; omega) | skip)))
  refine K.l_callV (Fx.cal rfl) rfl (Reckoned h a b ha hb 77 (Fx.cal rfl) _ fun _ _ _ => MulF h a.n b.n (wf_in ha) (wf_in hb)) (K.pp [] rfl) rfl rfl ?_
  simp only [List.nil_append]
  (repeat' (first | refine X.rq ?_ | (refine X.rc ?_ ?_ <;> intro hc <;> first | (exfalso; omega) | skip)))
  refine X.stw ?_
  (repeat' (first | refine X.rq ?_ | (refine X.rc ?_ ?_ <;> intro hc <;> first | (exfalso; omega) | skip)))
  refine K.doneC (by first | exact Or.inl rfl | exact Or.inr rfl) (.cell rfl (Fx.agg rfl) (Fx.sz rfl) (by first | exact K.cels_own (pre := []) (post := []) 0 rfl rfl | exact K.cels_own (pre := []) (post := []) 1 rfl rfl | exact K.cels_own (pre := []) (post := []) 2 rfl rfl | exact K.cels_own (pre := []) (post := []) 3 rfl rfl | exact K.cels_own (pre := []) (post := []) 4 rfl rfl | exact K.cels_own (pre := []) (post := []) 5 rfl rfl) (.tmp rfl .nil)) (by first | exact K.Base.le.refl _ | assumption) (D := [_, _, _]) (H' := []) rfl ⟨rfl, rfl, rfl⟩
theorem VNeg (h : Base) (a : Val) (ha : wfV a) : TrV Try.prog 36 [.agg (cV a).toArray] h [] (rV (reckQ 1 (vI 0) a)) [] := by
  refine K.enter Try.func36 rfl (Nat.le_of_ble_eq_true rfl) (fun F => ?_)
  rw [reckQ_low (by decide)]
  (repeat' (first | refine X.rq ?_ | (refine X.rc ?_ ?_ <;> intro hc <;> first | (exfalso; omega) | skip)))
  refine K.l_box rfl rfl rfl (fun B => ?_)
  refine K.l_alloc (Fx.zr rfl) rfl rfl (fun B => ?_)
  (repeat' (first | refine X.rq ?_ | (refine X.rc ?_ ?_ <;> intro hc <;> first | (exfalso; omega) | skip)))
  refine K.l_callV (Fx.cal rfl) rfl (Reckoned h (vI 0) a (wfI (by decide)) ha 52 (Fx.cal rfl) _ fun _ _ _ => NegF h 0 a.n rfl (wf_in ha)) (K.pp [] rfl) rfl rfl ?_
  simp only [List.nil_append]
  (repeat' (first | refine X.rq ?_ | (refine X.rc ?_ ?_ <;> intro hc <;> first | (exfalso; omega) | skip)))
  refine X.stw ?_
  (repeat' (first | refine X.rq ?_ | (refine X.rc ?_ ?_ <;> intro hc <;> first | (exfalso; omega) | skip)))
  refine K.doneC (by first | exact Or.inl rfl | exact Or.inr rfl) (.cell rfl (Fx.agg rfl) (Fx.sz rfl) (by first | exact K.cels_own (pre := []) (post := []) 0 rfl rfl | exact K.cels_own (pre := []) (post := []) 1 rfl rfl | exact K.cels_own (pre := []) (post := []) 2 rfl rfl | exact K.cels_own (pre := []) (post := []) 3 rfl rfl | exact K.cels_own (pre := []) (post := []) 4 rfl rfl | exact K.cels_own (pre := []) (post := []) 5 rfl rfl) (.tmp rfl .nil)) (by first | exact K.Base.le.refl _ | assumption) (D := [_, _]) (H' := []) rfl ⟨rfl, rfl, rfl⟩
theorem VDiv (h : Base) (a b : Val) (ha : wfV a) (hb : wfV b) : TrV Try.prog 58 [.agg (cV a).toArray, .agg (cV b).toArray] h [] (rV (reckQ 3 a b)) [] := by
  refine K.enter Try.func58 rfl (Nat.le_of_ble_eq_true rfl) (fun F => ?_)
  (repeat' (first | refine X.rq ?_ | (refine X.rc ?_ ?_ <;> intro hc <;> first | (exfalso; omega) | skip)))
  refine K.l_box rfl rfl rfl (fun B => ?_)
  refine K.l_box rfl rfl rfl (fun B => ?_)
  refine K.l_alloc (Fx.zr rfl) rfl rfl (fun B => ?_)
  (repeat' (first | refine X.rq ?_ | (refine X.rc ?_ ?_ <;> intro hc <;> first | (exfalso; omega) | skip)))
  refine X.bs (fun B => ?_)
  refine K.l_callV (Fx.cal rfl) rfl (All h _ 1 _ [a, b] (slk_2 a b) (wf2 ha hb) (Nat.le_of_ble_eq_true rfl)) (K.pp [0] rfl) rfl rfl ?_
  simp only [List.cons_append, List.nil_append]
  by_cases h1 : fitQ 1 [a, b] = 0 ∧ a.kind ≠ 0 ∧ b.kind ≠ 0 ∧ 3 ≤ 3 ∧ b.n = 0
  · rw [reckQ, if_pos h1]
    (repeat' (first | refine X.rq ?_ | (refine X.rc ?_ ?_ <;> intro hc <;> first | (exfalso; omega) | skip)))
    refine X.stw ?_
    (repeat' (first | refine X.rq ?_ | (refine X.rc ?_ ?_ <;> intro hc <;> first | (exfalso; omega) | skip)))
    refine K.doneC (by first | exact Or.inl rfl | exact Or.inr rfl) (.cell rfl (Fx.agg rfl) (Fx.sz rfl) (by first | exact K.cels_own (pre := []) (post := []) 0 rfl rfl | exact K.cels_own (pre := []) (post := []) 1 rfl rfl | exact K.cels_own (pre := []) (post := []) 2 rfl rfl | exact K.cels_own (pre := []) (post := []) 3 rfl rfl | exact K.cels_own (pre := []) (post := []) 4 rfl rfl | exact K.cels_own (pre := []) (post := []) 5 rfl rfl) (.tmp rfl .nil)) (by first | exact K.Base.le.refl _ | assumption) (D := [_, _, _, _]) (H' := []) rfl ⟨rfl, rfl, rfl⟩
  · rw [reckQ, if_neg h1]
    (repeat' (first | refine X.rq ?_ | (refine X.rc ?_ ?_ <;> intro hc <;> first | (exfalso; omega) | skip)))
    all_goals
      refine K.l_callV (Fx.cal rfl) rfl (Reckoned h a b ha hb 78 (Fx.cal rfl) _ fun _ _ _ => DivF h a.n b.n (wf_in ha) (wf_in hb) (by omega)) (K.pp [] rfl) rfl rfl ?_
      simp only [List.nil_append]
      (repeat' (first | refine X.rq ?_ | (refine X.rc ?_ ?_ <;> intro hc <;> first | (exfalso; omega) | skip)))
      refine X.stw ?_
      (repeat' (first | refine X.rq ?_ | (refine X.rc ?_ ?_ <;> intro hc <;> first | (exfalso; omega) | skip)))
      refine K.doneC (by first | exact Or.inl rfl | exact Or.inr rfl) (.cell rfl (Fx.agg rfl) (Fx.sz rfl) (by first | exact K.cels_own (pre := []) (post := []) 0 rfl rfl | exact K.cels_own (pre := []) (post := []) 1 rfl rfl | exact K.cels_own (pre := []) (post := []) 2 rfl rfl | exact K.cels_own (pre := []) (post := []) 3 rfl rfl | exact K.cels_own (pre := []) (post := []) 4 rfl rfl | exact K.cels_own (pre := []) (post := []) 5 rfl rfl) (.tmp rfl .nil)) (by first | exact K.Base.le.refl _ | assumption) (D := [_, _, _, _]) (H' := []) rfl ⟨rfl, rfl, rfl⟩
theorem VMod (h : Base) (a b : Val) (ha : wfV a) (hb : wfV b) : TrV Try.prog 59 [.agg (cV a).toArray, .agg (cV b).toArray] h [] (rV (reckQ 4 a b)) [] := by
  refine K.enter Try.func59 rfl (Nat.le_of_ble_eq_true rfl) (fun F => ?_)
  (repeat' (first | refine X.rq ?_ | (refine X.rc ?_ ?_ <;> intro hc <;> first | (exfalso; omega) | skip)))
  refine K.l_box rfl rfl rfl (fun B => ?_)
  refine K.l_box rfl rfl rfl (fun B => ?_)
  refine K.l_alloc (Fx.zr rfl) rfl rfl (fun B => ?_)
  (repeat' (first | refine X.rq ?_ | (refine X.rc ?_ ?_ <;> intro hc <;> first | (exfalso; omega) | skip)))
  refine X.bs (fun B => ?_)
  refine K.l_callV (Fx.cal rfl) rfl (All h _ 1 _ [a, b] (slk_2 a b) (wf2 ha hb) (Nat.le_of_ble_eq_true rfl)) (K.pp [0] rfl) rfl rfl ?_
  simp only [List.cons_append, List.nil_append]
  by_cases h1 : fitQ 1 [a, b] = 0 ∧ a.kind ≠ 0 ∧ b.kind ≠ 0 ∧ 3 ≤ 4 ∧ b.n = 0
  · rw [reckQ, if_pos h1]
    (repeat' (first | refine X.rq ?_ | (refine X.rc ?_ ?_ <;> intro hc <;> first | (exfalso; omega) | skip)))
    refine X.stw ?_
    (repeat' (first | refine X.rq ?_ | (refine X.rc ?_ ?_ <;> intro hc <;> first | (exfalso; omega) | skip)))
    refine K.doneC (by first | exact Or.inl rfl | exact Or.inr rfl) (.cell rfl (Fx.agg rfl) (Fx.sz rfl) (by first | exact K.cels_own (pre := []) (post := []) 0 rfl rfl | exact K.cels_own (pre := []) (post := []) 1 rfl rfl | exact K.cels_own (pre := []) (post := []) 2 rfl rfl | exact K.cels_own (pre := []) (post := []) 3 rfl rfl | exact K.cels_own (pre := []) (post := []) 4 rfl rfl | exact K.cels_own (pre := []) (post := []) 5 rfl rfl) (.tmp rfl .nil)) (by first | exact K.Base.le.refl _ | assumption) (D := [_, _, _, _]) (H' := []) rfl ⟨rfl, rfl, rfl⟩
  · rw [reckQ, if_neg h1]
    (repeat' (first | refine X.rq ?_ | (refine X.rc ?_ ?_ <;> intro hc <;> first | (exfalso; omega) | skip)))
    all_goals
      refine K.l_callV (Fx.cal rfl) rfl (Reckoned h a b ha hb 79 (Fx.cal rfl) _ fun _ _ _ => ModF h a.n b.n (wf_in ha) (wf_in hb) (by omega)) (K.pp [] rfl) rfl rfl ?_
      simp only [List.nil_append]
      (repeat' (first | refine X.rq ?_ | (refine X.rc ?_ ?_ <;> intro hc <;> first | (exfalso; omega) | skip)))
      refine X.stw ?_
      (repeat' (first | refine X.rq ?_ | (refine X.rc ?_ ?_ <;> intro hc <;> first | (exfalso; omega) | skip)))
      refine K.doneC (by first | exact Or.inl rfl | exact Or.inr rfl) (.cell rfl (Fx.agg rfl) (Fx.sz rfl) (by first | exact K.cels_own (pre := []) (post := []) 0 rfl rfl | exact K.cels_own (pre := []) (post := []) 1 rfl rfl | exact K.cels_own (pre := []) (post := []) 2 rfl rfl | exact K.cels_own (pre := []) (post := []) 3 rfl rfl | exact K.cels_own (pre := []) (post := []) 4 rfl rfl | exact K.cels_own (pre := []) (post := []) 5 rfl rfl) (.tmp rfl .nil)) (by first | exact K.Base.le.refl _ | assumption) (D := [_, _, _, _]) (H' := []) rfl ⟨rfl, rfl, rfl⟩
/-! The logic of three -/
def partQ (v : Val) : Int := if v.kind = 0 then 1 else 2 * v.n
def wholeQ (n : Int) : Val := if n = 1 then vN else vB (decide (n = 2))
def notQ (a : Val) : Val × Int := if fitQ 3 [a] = 0 then (wholeQ (2 - partQ a), 0) else (vN, fitQ 3 [a])
def andQ (a b : Val) : Val × Int := if fitQ 3 [a, b] = 0 then (wholeQ (min (partQ a) (partQ b)), 0) else (vN, fitQ 3 [a, b])
def orQ (a b : Val) : Val × Int := if fitQ 3 [a, b] = 0 then (wholeQ (max (partQ a) (partQ b)), 0) else (vN, fitQ 3 [a, b])
theorem three {v : Val} (h : okV v = true) (hk : v.kind = 0 ∨ v.kind = 3) : v = vN ∨ v = vB true ∨ v = vB false := by
  rw [okV_iff] at h
  obtain ⟨k, n, s⟩ := v
  unfold okVP at h
  simp only at h hk
  simp only [vN, vB, Val.mk.injEq, if_true, Bool.false_eq_true, if_false]
  rcases h with ⟨a1, a2, a3⟩ | ⟨a1, a2⟩ | ⟨a1, a2, a3⟩ | ⟨a1, a2, a3⟩
  · exact .inl ⟨a1, a2, a3⟩
  · omega
  · omega
  · rcases a3 with a3 | a3
    · exact .inr (.inr ⟨a1, a3, a2⟩)
    · exact .inr (.inl ⟨a1, a3, a2⟩)
theorem eqV_dec (a b : Val) : (decide (a.kind = b.kind) && (decide (a.n = b.n) && (decide (a.s = b.s) && true))) = decide (a = b) := by
  rw [Bool.eq_iff_iff]
  obtain ⟨k, n, s⟩ := a
  obtain ⟨k', n', s'⟩ := b
  simp
theorem VNot (h : Base) (a : Val) (ha : wfV a) : TrV Try.prog 37 [.agg (cV a).toArray] h [] (rV (notQ a)) [] := by
  refine K.enter Try.func37 rfl (Nat.le_of_ble_eq_true rfl) (fun F => ?_)
  (repeat' (first | refine X.rq ?_ | (refine X.rc ?_ ?_ <;> intro hc <;> first | (exfalso; omega) | skip)))
  refine K.l_box rfl rfl rfl (fun B => ?_)
  refine K.l_alloc (Fx.zr rfl) rfl rfl (fun B => ?_)
  (repeat' (first | refine X.rq ?_ | (refine X.rc ?_ ?_ <;> intro hc <;> first | (exfalso; omega) | skip)))
  refine X.bs (fun B => ?_)
  refine K.l_callV (Fx.cal rfl) rfl (All h _ 3 _ [a] (slk_1 a) (wf1 ha) (Nat.le_of_ble_eq_true rfl)) (K.pp [0] rfl) rfl rfl ?_
  simp only [List.cons_append, List.nil_append]
  by_cases h1 : fitQ 3 [a] = 0
  · rw [notQ, if_pos h1]
    have h2 := (fitQ_ok h1).1 a (List.mem_cons_self ..)
    have h3 := (fitQ_ok h1).2 a (List.mem_cons_self ..)
    rw [h1]
    rcases three h2 h3 with rfl | rfl | rfl
    · (repeat' (first | refine X.rq ?_ | (refine X.rc ?_ ?_ <;> intro hc <;> first | (exfalso; omega) | skip)))
      refine X.stw ?_
      (repeat' (first | refine X.rq ?_ | (refine X.rc ?_ ?_ <;> intro hc <;> first | (exfalso; omega) | skip)))
      refine K.doneC (by first | exact Or.inl rfl | exact Or.inr rfl) (.cell rfl (Fx.agg rfl) (Fx.sz rfl) (by first | exact K.cels_own (pre := []) (post := []) 0 rfl rfl | exact K.cels_own (pre := []) (post := []) 1 rfl rfl | exact K.cels_own (pre := []) (post := []) 2 rfl rfl | exact K.cels_own (pre := []) (post := []) 3 rfl rfl | exact K.cels_own (pre := []) (post := []) 4 rfl rfl | exact K.cels_own (pre := []) (post := []) 5 rfl rfl) (.tmp rfl .nil)) (by first | exact K.Base.le.refl _ | assumption) (D := [_, _, _]) (H' := []) rfl ⟨rfl, rfl, rfl⟩
    · (repeat' (first | refine X.rq ?_ | (refine X.rc ?_ ?_ <;> intro hc <;> first | (exfalso; omega) | skip)))
      refine K.l_callV (Fx.cal rfl) rfl (Yes h false) (K.pp [] rfl) rfl rfl ?_
      simp only [List.nil_append]
      (repeat' (first | refine X.rq ?_ | (refine X.rc ?_ ?_ <;> intro hc <;> first | (exfalso; omega) | skip)))
      refine X.stw ?_
      (repeat' (first | refine X.rq ?_ | (refine X.rc ?_ ?_ <;> intro hc <;> first | (exfalso; omega) | skip)))
      refine K.doneC (by first | exact Or.inl rfl | exact Or.inr rfl) (.cell rfl (Fx.agg rfl) (Fx.sz rfl) (by first | exact K.cels_own (pre := []) (post := []) 0 rfl rfl | exact K.cels_own (pre := []) (post := []) 1 rfl rfl | exact K.cels_own (pre := []) (post := []) 2 rfl rfl | exact K.cels_own (pre := []) (post := []) 3 rfl rfl | exact K.cels_own (pre := []) (post := []) 4 rfl rfl | exact K.cels_own (pre := []) (post := []) 5 rfl rfl) (.tmp rfl .nil)) (by first | exact K.Base.le.refl _ | assumption) (D := [_, _, _]) (H' := []) rfl ⟨rfl, rfl, rfl⟩
    · (repeat' (first | refine X.rq ?_ | (refine X.rc ?_ ?_ <;> intro hc <;> first | (exfalso; omega) | skip)))
      refine K.l_callV (Fx.cal rfl) rfl (Yes h true) (K.pp [] rfl) rfl rfl ?_
      simp only [List.nil_append]
      (repeat' (first | refine X.rq ?_ | (refine X.rc ?_ ?_ <;> intro hc <;> first | (exfalso; omega) | skip)))
      refine X.stw ?_
      (repeat' (first | refine X.rq ?_ | (refine X.rc ?_ ?_ <;> intro hc <;> first | (exfalso; omega) | skip)))
      refine K.doneC (by first | exact Or.inl rfl | exact Or.inr rfl) (.cell rfl (Fx.agg rfl) (Fx.sz rfl) (by first | exact K.cels_own (pre := []) (post := []) 0 rfl rfl | exact K.cels_own (pre := []) (post := []) 1 rfl rfl | exact K.cels_own (pre := []) (post := []) 2 rfl rfl | exact K.cels_own (pre := []) (post := []) 3 rfl rfl | exact K.cels_own (pre := []) (post := []) 4 rfl rfl | exact K.cels_own (pre := []) (post := []) 5 rfl rfl) (.tmp rfl .nil)) (by first | exact K.Base.le.refl _ | assumption) (D := [_, _, _]) (H' := []) rfl ⟨rfl, rfl, rfl⟩
  · rw [notQ, if_neg h1]
    (repeat' (first | refine X.rq ?_ | (refine X.rc ?_ ?_ <;> intro hc <;> first | (exfalso; omega) | skip)))
    refine X.stw ?_
    (repeat' (first | refine X.rq ?_ | (refine X.rc ?_ ?_ <;> intro hc <;> first | (exfalso; omega) | skip)))
    refine K.doneC (by first | exact Or.inl rfl | exact Or.inr rfl) (.cell rfl (Fx.agg rfl) (Fx.sz rfl) (by first | exact K.cels_own (pre := []) (post := []) 0 rfl rfl | exact K.cels_own (pre := []) (post := []) 1 rfl rfl | exact K.cels_own (pre := []) (post := []) 2 rfl rfl | exact K.cels_own (pre := []) (post := []) 3 rfl rfl | exact K.cels_own (pre := []) (post := []) 4 rfl rfl | exact K.cels_own (pre := []) (post := []) 5 rfl rfl) (.tmp rfl .nil)) (by first | exact K.Base.le.refl _ | assumption) (D := [_, _, _]) (H' := []) rfl ⟨rfl, rfl, rfl⟩
theorem VAnd (h : Base) (a b : Val) (ha : wfV a) (hb : wfV b) : TrV Try.prog 67 [.agg (cV a).toArray, .agg (cV b).toArray] h [] (rV (andQ a b)) [] := by
  refine K.enter Try.func67 rfl (Nat.le_of_ble_eq_true rfl) (fun F => ?_)
  (repeat' (first | refine X.rq ?_ | (refine X.rc ?_ ?_ <;> intro hc <;> first | (exfalso; omega) | skip)))
  refine K.l_box rfl rfl rfl (fun B => ?_)
  refine K.l_box rfl rfl rfl (fun B => ?_)
  refine K.l_alloc (Fx.zr rfl) rfl rfl (fun B => ?_)
  (repeat' (first | refine X.rq ?_ | (refine X.rc ?_ ?_ <;> intro hc <;> first | (exfalso; omega) | skip)))
  refine X.bs (fun B => ?_)
  refine K.l_callV (Fx.cal rfl) rfl (All h _ 3 _ [a, b] (slk_2 a b) (wf2 ha hb) (Nat.le_of_ble_eq_true rfl)) (K.pp [0] rfl) rfl rfl ?_
  simp only [List.cons_append, List.nil_append]
  by_cases h1 : fitQ 3 [a, b] = 0
  · rw [andQ, if_pos h1]
    have h2 := (fitQ_ok h1).1 a (List.mem_cons_self ..)
    have h3 := (fitQ_ok h1).2 a (List.mem_cons_self ..)
    have h4 := (fitQ_ok h1).1 b (List.mem_cons_of_mem _ (List.mem_cons_self ..))
    have h5 := (fitQ_ok h1).2 b (List.mem_cons_of_mem _ (List.mem_cons_self ..))
    rw [h1]
    (repeat' (first | refine X.rq ?_ | (refine X.rc ?_ ?_ <;> intro hc <;> first | (exfalso; omega) | skip)))
    refine K.l_callV (Fx.cal rfl) rfl (Yes h false) (K.pp [] rfl) rfl rfl ?_
    simp only [List.nil_append]
    refine K.l_alloc (Fx.zr rfl) rfl rfl (fun B => ?_)
    refine X.stw ?_
    have hq0 : (a = vB false ∨ b = vB false) → wholeQ (min (partQ a) (partQ b)) = vB false := fun hh => by
      rcases three h2 h3 with rfl | rfl | rfl <;> rcases three h4 h5 with rfl | rfl | rfl <;> first | rfl | (revert hh; decide)
    have hq1 : ¬ (a = vB false) → ¬ (b = vB false) → (a.kind = 0 ∨ b.kind = 0) → wholeQ (min (partQ a) (partQ b)) = vN := fun h6 h7 hh => by
      rcases three h2 h3 with rfl | rfl | rfl <;> rcases three h4 h5 with rfl | rfl | rfl <;> first | rfl | (revert h6; decide) | (revert h7; decide) | (revert hh; decide)
    have hq2 : ¬ (a = vB false) → ¬ (b = vB false) → ¬ a.kind = 0 → ¬ b.kind = 0 → wholeQ (min (partQ a) (partQ b)) = vB true := fun h6 h7 h8 h9 => by
      rcases three h2 h3 with rfl | rfl | rfl <;> rcases three h4 h5 with rfl | rfl | rfl <;> first | rfl | (revert h6; decide) | (revert h7; decide) | (revert h8; decide) | (revert h9; decide)
    clear h1 h2 h3 h4 h5
    generalize wholeQ (min (partQ a) (partQ b)) = rr at hq0 hq1 hq2 ⊢
    have ea := eqV_dec a (vB false)
    have eb := eqV_dec b (vB false)
    by_cases ca : a = vB false
    · obtain rfl := hq0 (.inl ca)
      rw [decide_eq_true ca] at ea
      (repeat' (first | refine X.rq ?_ | (refine X.rc ?_ ?_ <;> intro hc <;> first | (exfalso; omega) | skip)))
      all_goals try (exfalso; simp_all; done)
      refine X.stw ?_
      (repeat' (first | refine X.rq ?_ | (refine X.rc ?_ ?_ <;> intro hc <;> first | (exfalso; omega) | skip)))
      refine K.doneC (by first | exact Or.inl rfl | exact Or.inr rfl) (.cell rfl (Fx.agg rfl) (Fx.sz rfl) (by first | exact K.cels_own (pre := []) (post := []) 0 rfl rfl | exact K.cels_own (pre := []) (post := []) 1 rfl rfl | exact K.cels_own (pre := []) (post := []) 2 rfl rfl | exact K.cels_own (pre := []) (post := []) 3 rfl rfl | exact K.cels_own (pre := []) (post := []) 4 rfl rfl | exact K.cels_own (pre := []) (post := []) 5 rfl rfl) (.tmp rfl .nil)) (by first | exact K.Base.le.refl _ | assumption) (D := [_, _, _, _, _]) (H' := []) rfl ⟨rfl, rfl, rfl⟩
    · by_cases cb : b = vB false
      · obtain rfl := hq0 (.inr cb)
        rw [decide_eq_false ca] at ea
        rw [decide_eq_true cb] at eb
        (repeat' (first | refine X.rq ?_ | (refine X.rc ?_ ?_ <;> intro hc <;> first | (exfalso; omega) | skip)))
        all_goals try (exfalso; simp_all; done)
        refine X.stw ?_
        (repeat' (first | refine X.rq ?_ | (refine X.rc ?_ ?_ <;> intro hc <;> first | (exfalso; omega) | skip)))
        refine K.doneC (by first | exact Or.inl rfl | exact Or.inr rfl) (.cell rfl (Fx.agg rfl) (Fx.sz rfl) (by first | exact K.cels_own (pre := []) (post := []) 0 rfl rfl | exact K.cels_own (pre := []) (post := []) 1 rfl rfl | exact K.cels_own (pre := []) (post := []) 2 rfl rfl | exact K.cels_own (pre := []) (post := []) 3 rfl rfl | exact K.cels_own (pre := []) (post := []) 4 rfl rfl | exact K.cels_own (pre := []) (post := []) 5 rfl rfl) (.tmp rfl .nil)) (by first | exact K.Base.le.refl _ | assumption) (D := [_, _, _, _, _]) (H' := []) rfl ⟨rfl, rfl, rfl⟩
      · rw [decide_eq_false ca] at ea
        rw [decide_eq_false cb] at eb
        (repeat' (first | refine X.rq ?_ | (refine X.rc ?_ ?_ <;> intro hc <;> first | (exfalso; omega) | skip)))
        all_goals try (exfalso; simp_all; done)
        all_goals first
          | (obtain rfl := hq1 ca cb (by omega)
             refine X.stw ?_
             (repeat' (first | refine X.rq ?_ | (refine X.rc ?_ ?_ <;> intro hc <;> first | (exfalso; omega) | skip)))
             refine K.doneC (by first | exact Or.inl rfl | exact Or.inr rfl) (.cell rfl (Fx.agg rfl) (Fx.sz rfl) (by first | exact K.cels_own (pre := []) (post := []) 0 rfl rfl | exact K.cels_own (pre := []) (post := []) 1 rfl rfl | exact K.cels_own (pre := []) (post := []) 2 rfl rfl | exact K.cels_own (pre := []) (post := []) 3 rfl rfl | exact K.cels_own (pre := []) (post := []) 4 rfl rfl | exact K.cels_own (pre := []) (post := []) 5 rfl rfl) (.tmp rfl .nil)) (by first | exact K.Base.le.refl _ | assumption) (D := [_, _, _, _, _]) (H' := []) rfl ⟨rfl, rfl, rfl⟩)
          | (obtain rfl := hq2 ca cb (by assumption) (by assumption)
             refine K.l_callV (Fx.cal rfl) rfl (Yes h true) (K.pp [] rfl) rfl rfl ?_
             simp only [List.nil_append]
             (repeat' (first | refine X.rq ?_ | (refine X.rc ?_ ?_ <;> intro hc <;> first | (exfalso; omega) | skip)))
             refine X.stw ?_
             (repeat' (first | refine X.rq ?_ | (refine X.rc ?_ ?_ <;> intro hc <;> first | (exfalso; omega) | skip)))
             refine K.doneC (by first | exact Or.inl rfl | exact Or.inr rfl) (.cell rfl (Fx.agg rfl) (Fx.sz rfl) (by first | exact K.cels_own (pre := []) (post := []) 0 rfl rfl | exact K.cels_own (pre := []) (post := []) 1 rfl rfl | exact K.cels_own (pre := []) (post := []) 2 rfl rfl | exact K.cels_own (pre := []) (post := []) 3 rfl rfl | exact K.cels_own (pre := []) (post := []) 4 rfl rfl | exact K.cels_own (pre := []) (post := []) 5 rfl rfl) (.tmp rfl .nil)) (by first | exact K.Base.le.refl _ | assumption) (D := [_, _, _, _, _]) (H' := []) rfl ⟨rfl, rfl, rfl⟩)
  · rw [andQ, if_neg h1]
    (repeat' (first | refine X.rq ?_ | (refine X.rc ?_ ?_ <;> intro hc <;> first | (exfalso; omega) | skip)))
    refine X.stw ?_
    (repeat' (first | refine X.rq ?_ | (refine X.rc ?_ ?_ <;> intro hc <;> first | (exfalso; omega) | skip)))
    refine K.doneC (by first | exact Or.inl rfl | exact Or.inr rfl) (.cell rfl (Fx.agg rfl) (Fx.sz rfl) (by first | exact K.cels_own (pre := []) (post := []) 0 rfl rfl | exact K.cels_own (pre := []) (post := []) 1 rfl rfl | exact K.cels_own (pre := []) (post := []) 2 rfl rfl | exact K.cels_own (pre := []) (post := []) 3 rfl rfl | exact K.cels_own (pre := []) (post := []) 4 rfl rfl | exact K.cels_own (pre := []) (post := []) 5 rfl rfl) (.tmp rfl .nil)) (by first | exact K.Base.le.refl _ | assumption) (D := [_, _, _, _]) (H' := []) rfl ⟨rfl, rfl, rfl⟩
theorem VOr (h : Base) (a b : Val) (ha : wfV a) (hb : wfV b) : TrV Try.prog 68 [.agg (cV a).toArray, .agg (cV b).toArray] h [] (rV (orQ a b)) [] := by
  refine K.enter Try.func68 rfl (Nat.le_of_ble_eq_true rfl) (fun F => ?_)
  (repeat' (first | refine X.rq ?_ | (refine X.rc ?_ ?_ <;> intro hc <;> first | (exfalso; omega) | skip)))
  refine K.l_box rfl rfl rfl (fun B => ?_)
  refine K.l_box rfl rfl rfl (fun B => ?_)
  refine K.l_alloc (Fx.zr rfl) rfl rfl (fun B => ?_)
  (repeat' (first | refine X.rq ?_ | (refine X.rc ?_ ?_ <;> intro hc <;> first | (exfalso; omega) | skip)))
  refine X.bs (fun B => ?_)
  refine K.l_callV (Fx.cal rfl) rfl (All h _ 3 _ [a, b] (slk_2 a b) (wf2 ha hb) (Nat.le_of_ble_eq_true rfl)) (K.pp [0] rfl) rfl rfl ?_
  simp only [List.cons_append, List.nil_append]
  by_cases h1 : fitQ 3 [a, b] = 0
  · rw [orQ, if_pos h1]
    have h2 := (fitQ_ok h1).1 a (List.mem_cons_self ..)
    have h3 := (fitQ_ok h1).2 a (List.mem_cons_self ..)
    have h4 := (fitQ_ok h1).1 b (List.mem_cons_of_mem _ (List.mem_cons_self ..))
    have h5 := (fitQ_ok h1).2 b (List.mem_cons_of_mem _ (List.mem_cons_self ..))
    rw [h1]
    (repeat' (first | refine X.rq ?_ | (refine X.rc ?_ ?_ <;> intro hc <;> first | (exfalso; omega) | skip)))
    refine K.l_callV (Fx.cal rfl) rfl (Yes h true) (K.pp [] rfl) rfl rfl ?_
    simp only [List.nil_append]
    refine K.l_alloc (Fx.zr rfl) rfl rfl (fun B => ?_)
    refine X.stw ?_
    have hq0 : (a = vB true ∨ b = vB true) → wholeQ (max (partQ a) (partQ b)) = vB true := fun hh => by
      rcases three h2 h3 with rfl | rfl | rfl <;> rcases three h4 h5 with rfl | rfl | rfl <;> first | rfl | (revert hh; decide)
    have hq1 : ¬ (a = vB true) → ¬ (b = vB true) → (a.kind = 0 ∨ b.kind = 0) → wholeQ (max (partQ a) (partQ b)) = vN := fun h6 h7 hh => by
      rcases three h2 h3 with rfl | rfl | rfl <;> rcases three h4 h5 with rfl | rfl | rfl <;> first | rfl | (revert h6; decide) | (revert h7; decide) | (revert hh; decide)
    have hq2 : ¬ (a = vB true) → ¬ (b = vB true) → ¬ a.kind = 0 → ¬ b.kind = 0 → wholeQ (max (partQ a) (partQ b)) = vB false := fun h6 h7 h8 h9 => by
      rcases three h2 h3 with rfl | rfl | rfl <;> rcases three h4 h5 with rfl | rfl | rfl <;> first | rfl | (revert h6; decide) | (revert h7; decide) | (revert h8; decide) | (revert h9; decide)
    clear h1 h2 h3 h4 h5
    generalize wholeQ (max (partQ a) (partQ b)) = rr at hq0 hq1 hq2 ⊢
    have ea := eqV_dec a (vB true)
    have eb := eqV_dec b (vB true)
    by_cases ca : a = vB true
    · obtain rfl := hq0 (.inl ca)
      rw [decide_eq_true ca] at ea
      (repeat' (first | refine X.rq ?_ | (refine X.rc ?_ ?_ <;> intro hc <;> first | (exfalso; omega) | skip)))
      all_goals try (exfalso; simp_all; done)
      refine X.stw ?_
      (repeat' (first | refine X.rq ?_ | (refine X.rc ?_ ?_ <;> intro hc <;> first | (exfalso; omega) | skip)))
      refine K.doneC (by first | exact Or.inl rfl | exact Or.inr rfl) (.cell rfl (Fx.agg rfl) (Fx.sz rfl) (by first | exact K.cels_own (pre := []) (post := []) 0 rfl rfl | exact K.cels_own (pre := []) (post := []) 1 rfl rfl | exact K.cels_own (pre := []) (post := []) 2 rfl rfl | exact K.cels_own (pre := []) (post := []) 3 rfl rfl | exact K.cels_own (pre := []) (post := []) 4 rfl rfl | exact K.cels_own (pre := []) (post := []) 5 rfl rfl) (.tmp rfl .nil)) (by first | exact K.Base.le.refl _ | assumption) (D := [_, _, _, _, _]) (H' := []) rfl ⟨rfl, rfl, rfl⟩
    · by_cases cb : b = vB true
      · obtain rfl := hq0 (.inr cb)
        rw [decide_eq_false ca] at ea
        rw [decide_eq_true cb] at eb
        (repeat' (first | refine X.rq ?_ | (refine X.rc ?_ ?_ <;> intro hc <;> first | (exfalso; omega) | skip)))
        all_goals try (exfalso; simp_all; done)
        refine X.stw ?_
        (repeat' (first | refine X.rq ?_ | (refine X.rc ?_ ?_ <;> intro hc <;> first | (exfalso; omega) | skip)))
        refine K.doneC (by first | exact Or.inl rfl | exact Or.inr rfl) (.cell rfl (Fx.agg rfl) (Fx.sz rfl) (by first | exact K.cels_own (pre := []) (post := []) 0 rfl rfl | exact K.cels_own (pre := []) (post := []) 1 rfl rfl | exact K.cels_own (pre := []) (post := []) 2 rfl rfl | exact K.cels_own (pre := []) (post := []) 3 rfl rfl | exact K.cels_own (pre := []) (post := []) 4 rfl rfl | exact K.cels_own (pre := []) (post := []) 5 rfl rfl) (.tmp rfl .nil)) (by first | exact K.Base.le.refl _ | assumption) (D := [_, _, _, _, _]) (H' := []) rfl ⟨rfl, rfl, rfl⟩
      · rw [decide_eq_false ca] at ea
        rw [decide_eq_false cb] at eb
        (repeat' (first | refine X.rq ?_ | (refine X.rc ?_ ?_ <;> intro hc <;> first | (exfalso; omega) | skip)))
        all_goals try (exfalso; simp_all; done)
        all_goals first
          | (obtain rfl := hq1 ca cb (by omega)
             refine X.stw ?_
             (repeat' (first | refine X.rq ?_ | (refine X.rc ?_ ?_ <;> intro hc <;> first | (exfalso; omega) | skip)))
             refine K.doneC (by first | exact Or.inl rfl | exact Or.inr rfl) (.cell rfl (Fx.agg rfl) (Fx.sz rfl) (by first | exact K.cels_own (pre := []) (post := []) 0 rfl rfl | exact K.cels_own (pre := []) (post := []) 1 rfl rfl | exact K.cels_own (pre := []) (post := []) 2 rfl rfl | exact K.cels_own (pre := []) (post := []) 3 rfl rfl | exact K.cels_own (pre := []) (post := []) 4 rfl rfl | exact K.cels_own (pre := []) (post := []) 5 rfl rfl) (.tmp rfl .nil)) (by first | exact K.Base.le.refl _ | assumption) (D := [_, _, _, _, _]) (H' := []) rfl ⟨rfl, rfl, rfl⟩)
          | (obtain rfl := hq2 ca cb (by assumption) (by assumption)
             refine K.l_callV (Fx.cal rfl) rfl (Yes h false) (K.pp [] rfl) rfl rfl ?_
             simp only [List.nil_append]
             (repeat' (first | refine X.rq ?_ | (refine X.rc ?_ ?_ <;> intro hc <;> first | (exfalso; omega) | skip)))
             refine X.stw ?_
             (repeat' (first | refine X.rq ?_ | (refine X.rc ?_ ?_ <;> intro hc <;> first | (exfalso; omega) | skip)))
             refine K.doneC (by first | exact Or.inl rfl | exact Or.inr rfl) (.cell rfl (Fx.agg rfl) (Fx.sz rfl) (by first | exact K.cels_own (pre := []) (post := []) 0 rfl rfl | exact K.cels_own (pre := []) (post := []) 1 rfl rfl | exact K.cels_own (pre := []) (post := []) 2 rfl rfl | exact K.cels_own (pre := []) (post := []) 3 rfl rfl | exact K.cels_own (pre := []) (post := []) 4 rfl rfl | exact K.cels_own (pre := []) (post := []) 5 rfl rfl) (.tmp rfl .nil)) (by first | exact K.Base.le.refl _ | assumption) (D := [_, _, _, _, _]) (H' := []) rfl ⟨rfl, rfl, rfl⟩)
  · rw [orQ, if_neg h1]
    (repeat' (first | refine X.rq ?_ | (refine X.rc ?_ ?_ <;> intro hc <;> first | (exfalso; omega) | skip)))
    refine X.stw ?_
    (repeat' (first | refine X.rq ?_ | (refine X.rc ?_ ?_ <;> intro hc <;> first | (exfalso; omega) | skip)))
    refine K.doneC (by first | exact Or.inl rfl | exact Or.inr rfl) (.cell rfl (Fx.agg rfl) (Fx.sz rfl) (by first | exact K.cels_own (pre := []) (post := []) 0 rfl rfl | exact K.cels_own (pre := []) (post := []) 1 rfl rfl | exact K.cels_own (pre := []) (post := []) 2 rfl rfl | exact K.cels_own (pre := []) (post := []) 3 rfl rfl | exact K.cels_own (pre := []) (post := []) 4 rfl rfl | exact K.cels_own (pre := []) (post := []) 5 rfl rfl) (.tmp rfl .nil)) (by first | exact K.Base.le.refl _ | assumption) (D := [_, _, _, _]) (H' := []) rfl ⟨rfl, rfl, rfl⟩
end Go.Proofs.Ytmkhejdamjibgaa.Rw
