/-
  What a row says, into a schema: the code's. Conditions: each theorem's own.
-/
import Derived.Test.YtdjacjhojbkgjaaGreatQ30
namespace Go.Proofs.YtdjacjhojbkgjaaGreat.Ct
open Go Go.K Go.Proofs Go.Proofs.YtdjacjhojbkgjaaGreat Go.Proofs.YtdjacjhojbkgjaaGreat.Rw
set_option linter.unusedVariables false
set_option linter.unusedSimpArgs false
set_option maxRecDepth 10000

/-! ### What it says -/
def nnV (v : Val) : Bool := decide (0 ≤ v.n ∧ v.n ≤ 4294967295)
def addCol (id : Nat) (c : Col) : List PTab → Option (List PTab)
  | [] => none
  | t :: l => if t.id = id then some ({ t with cols := t.cols ++ [c] } :: l) else (addCol id c l).map (t :: ·)
def addKey (id : Nat) (n : Int) : List PIdx → Option (List PIdx)
  | [] => none
  | t :: l => if t.id = id then some ({ t with cols := t.cols ++ [n] } :: l) else (addKey id n l).map (t :: ·)
theorem addCol_at {id : Nat} {c : Col} : ∀ {l : List PTab} {k : Nat} {t : PTab}, (∀ (i : Nat) (u : PTab), i < k → l[i]? = some u → u.id ≠ id) → l[k]? = some t → t.id = id → addCol id c l = some (l.set k { t with cols := t.cols ++ [c] })
  | [], k, t, _, h, _ => by simp at h
  | u :: l, 0, t, _, h, e => by
    simp at h; subst h
    rw [addCol, if_pos e]
    rfl
  | u :: l, k + 1, t, hn, h, e => by
    rw [addCol, if_neg (hn 0 u (by omega) rfl), addCol_at (k := k) (fun i v hi hv => hn (i + 1) v (by omega) (by simpa using hv)) (by simpa using h) e]
    rfl
theorem addCol_none {id : Nat} {c : Col} : ∀ {l : List PTab}, (∀ (i : Nat) (u : PTab), l[i]? = some u → u.id ≠ id) → addCol id c l = none
  | [], _ => rfl
  | u :: l, hn => by
    rw [addCol, if_neg (hn 0 u rfl), addCol_none fun i v hv => hn (i + 1) v (by simpa using hv)]
    rfl
theorem addKey_at {id : Nat} {c : Int} : ∀ {l : List PIdx} {k : Nat} {t : PIdx}, (∀ (i : Nat) (u : PIdx), i < k → l[i]? = some u → u.id ≠ id) → l[k]? = some t → t.id = id → addKey id c l = some (l.set k { t with cols := t.cols ++ [c] })
  | [], k, t, _, h, _ => by simp at h
  | u :: l, 0, t, _, h, e => by
    simp at h; subst h
    rw [addKey, if_pos e]
    rfl
  | u :: l, k + 1, t, hn, h, e => by
    rw [addKey, if_neg (hn 0 u (by omega) rfl), addKey_at (k := k) (fun i v hi hv => hn (i + 1) v (by omega) (by simpa using hv)) (by simpa using h) e]
    rfl
theorem addKey_none {id : Nat} {c : Int} : ∀ {l : List PIdx}, (∀ (i : Nat) (u : PIdx), l[i]? = some u → u.id ≠ id) → addKey id c l = none
  | [], _ => rfl
  | u :: l, hn => by
    rw [addKey, if_neg (hn 0 u rfl), addKey_none fun i v hv => hn (i + 1) v (by simpa using hv)]
    rfl
def putQ (s : PSch) (r : List Val) : Option PSch := match r with
  | [r0, r1, r2, r3, r4, r5] => if nnV r1 && (nnV r2 && nnV r4) then
      if r0.n = 1 then some ⟨s.tabs ++ [⟨r1.n.toNat, r3.s, [], r4.n.toNat⟩], s.idxs⟩
      else if r0.n = 2 then (addCol r1.n.toNat ⟨r3.s, r4.n, decide (r5.n = 1)⟩ s.tabs).map fun l => ⟨l, s.idxs⟩
      else if r0.n = 3 then some ⟨s.tabs, s.idxs ++ [⟨r1.n.toNat, r2.n.toNat, r3.s, [], decide (r5.n = 1), r4.n.toNat⟩]⟩
      else if r0.n = 4 then (addKey r1.n.toNat r4.n s.idxs).map fun l => ⟨s.tabs, l⟩
      else none
    else none
  | _ => none

/-! ### A schema that is being written -/
structure Ot where
  t : PTab
  a : Option Nat
  k : Nat
structure Ox where
  x : PIdx
  a : Option Nat
  k : Nat
def Ot.c (o : Ot) : List Value := cTab o.t (bufV o.a o.t.cols.length o.k)
def Ot.A (o : Ot) : Asrt := bufA 39 3 o.a o.t.cols.length o.k (o.t.cols.map cC).flatten
def Ox.c (o : Ox) : List Value := cIdx o.x (bufV o.a o.x.cols.length o.k)
def Ox.A (o : Ox) : Asrt := bufA 3 1 o.a o.x.cols.length o.k (rowN o.x.cols).flatten
theorem ot4 (l : List Ot) : ∀ e ∈ l.map Ot.c, e.length = 4 := fun e he => by
  obtain ⟨x, _, rfl⟩ := List.mem_map.1 he
  rfl
theorem ox6 (l : List Ox) : ∀ e ∈ l.map Ox.c, e.length = 6 := fun e he => by
  obtain ⟨x, _, rfl⟩ := List.mem_map.1 he
  rfl
abbrev schO (B : Nat) (a : Option Nat) (k : Nat) (a2 : Option Nat) (k2 : Nat) (ot : List Ot) (ox : List Ox) : List Asrt :=
  [blk B 25 [bufV a ot.length k, bufV a2 ox.length k2], bufA 37 4 a ot.length k (ot.map Ot.c).flatten, bufA 43 6 a2 ox.length k2 (ox.map Ox.c).flatten, all (ot.map Ot.A), all (ox.map Ox.A)]
abbrev schP (ot : List Ot) (ox : List Ox) : PSch := ⟨ot.map Ot.t, ox.map Ox.x⟩
section
variable {P : Program} {n : NN} {Q : Exit → Act → World → Prop} {E : Env} {h : Base} {F : List Asrt} {ops : Array Oper}
theorem Ok.allTake {Hs : List Asrt} {i : Nat} {A : Asrt} {w : World} (hi : Hs[i]? = some A) : Ok h (all Hs :: F) w ↔ Ok h (A :: all (Hs.eraseIdx i) :: F) w := by
  have hp : (Hs ++ F).Perm (A :: (Hs.eraseIdx i ++ F)) := (at_perm hi).append_right F
  have hq : ∀ w, Ok h (A :: (Hs.eraseIdx i ++ F)) w ↔ Ok h (A :: all (Hs.eraseIdx i) :: F) w := fun w => by
    constructor
    · intro ok
      exact (Ok.all_iff.2 (ok.perm List.perm_middle.symm)).perm (List.Perm.swap _ _ _)
    · intro ok
      exact (Ok.all_iff.1 (ok.perm (List.Perm.swap _ _ _))).perm List.perm_middle
  constructor
  · intro ok; exact (hq w).1 ((Ok.all_iff.1 ok).perm hp)
  · intro ok; exact Ok.all_iff.2 (((hq w).2 ok).perm hp.symm)
theorem WL.allTake {L : List Oper} {Hs : List Asrt} {A : Asrt} (i : Nat) (hi : Hs[i]? = some A) (hx : WL P n ops Q L E h (A :: all (Hs.eraseIdx i) :: F)) : WL P n ops Q L E h (all Hs :: F) := ⟨fun a w fa ok => hx.run a w fa ((Ok.allTake hi).1 ok)⟩
theorem WC.allTake {c : Code} {Hs : List Asrt} {A : Asrt} (i : Nat) (hi : Hs[i]? = some A) (hx : WC P n c Q E h (A :: all (Hs.eraseIdx i) :: F)) : WC P n c Q E h (all Hs :: F) := ⟨fun a w fa ok => hx.run a w fa ((Ok.allTake hi).1 ok)⟩
theorem AT.allBack {q : Exit} {Hs : List Asrt} {A : Asrt} {i : Nat} (hi : i < Hs.length) (hx : AT P n Q q E h (all (Hs.set i A) :: F)) : AT P n Q q E h (A :: all (Hs.eraseIdx i) :: F) := ⟨fun a w fa ok => hx.run a w fa ((Ok.allTake (List.getElem?_set_self hi)).2 (by rw [List.eraseIdx_set_eq]; exact ok))⟩
theorem AT.allNil {q : Exit} {Hs : List Asrt} (T s : Nat) (hx : AT P n Q q E h (all (Hs ++ [bufA T s none 0 0 []]) :: F)) : AT P n Q q E h (all Hs :: F) := ⟨fun a w fa ok => hx.run a w fa (ok.allLe (fun X hX => by
  rcases List.mem_append.1 hX with h' | h'
  · exact .inl h'
  · rw [List.mem_singleton.1 h']; exact .inr fun w => ⟨rfl, rfl, rfl⟩) (by rw [idsOf_append]; simp [idsOf, bufA]))⟩
end
set_option maxHeartbeats 8000000 in
theorem Put (h : Base) (BS : Nat) (a : Option Nat) (k : Nat) (a2 : Option Nat) (k2 : Nat) (ot : List Ot) (ox : List Ox) (v : Value) (r : List Val) (hr : SL h 3 v (r.map cV)) (h6 : r.length = 6)
    (hl1 : ot.length ≤ 1000000) (hl2 : ox.length ≤ 1000000) (hc1 : ∀ x ∈ ot, x.t.cols.length ≤ 1000000) (hc2 : ∀ x ∈ ox, x.x.cols.length ≤ 1000000) :
    Tr Tryz.prog 52 [.pointer (some ⟨BS, 0, none⟩), v] h (schO BS a k a2 k2 ot ox)
      (fun u h' H' => h' = h ∧ ∃ a k a2 k2 ot' ox', H' = schO BS a k a2 k2 ot' ox' ∧ u = .bool (putQ (schP ot ox) r).isSome ∧ ∀ s', putQ (schP ot ox) r = some s' → s' = schP ot' ox') := by
  match r, h6 with
  | [r0, r1, r2, r3, r4, r5], _ =>
  obtain ⟨rb, ro, rc, rfl, hc0⟩ : ∃ b o c, v = .slice (some ⟨b, o, none⟩) 6 c ∧ ∀ j x, [r0, r1, r2, r3, r4, r5][j]? = some x → Cels h [] b (o + j * 3) (cV x) := by
    rcases hr with ⟨_, _, _, e⟩ | ⟨b, o, c, e, hc, hj⟩
    · cases e
    · refine ⟨b, o, c, e, fun j x hx => ?_⟩
      have hx' : ([r0, r1, r2, r3, r4, r5].map cV)[j]? = some (cV x) := by rw [List.getElem?_map, hx]; rfl
      obtain ⟨hjl, e2⟩ := List.getElem?_eq_some_iff.1 hx'
      have := (hj j hjl).2
      rw [e2] at this
      exact this
  have c0 := hc0 0 r0 rfl; have c1 := hc0 1 r1 rfl; have c2 := hc0 2 r2 rfl; have c3 := hc0 3 r3 rfl; have c4 := hc0 4 r4 rfl; have c5 := hc0 5 r5 rfl
  refine K.enter Tryz.func52 rfl (Nat.le_of_ble_eq_true rfl) (fun F => ?_)
  simp only [List.set_cons_zero, List.set_cons_succ, List.eraseIdx_cons_zero, List.eraseIdx_cons_succ, List.cons_append, List.nil_append]
  have no : putQ (schP ot ox) [r0, r1, r2, r3, r4, r5] = none → ∀ E, K.lk E 4 = some (.bool false) → ∀ e, (e = .ret ∨ e = .normal) → AT Tryz.prog Tryz.f52.ntmps (K.post Tryz.prog Tryz.f52 fun v w' => ∃ h' H', h.le h' ∧ (h' = h ∧ ∃ a k a2 k2 ot' ox', H' = schO BS a k a2 k2 ot' ox' ∧ v = .bool (putQ (schP ot ox) [r0, r1, r2, r3, r4, r5]).isSome ∧ ∀ s', putQ (schP ot ox) [r0, r1, r2, r3, r4, r5] = some s' → s' = schP ot' ox') ∧ Ok h' (H' ++ F) w') e E h (schO BS a k a2 k2 ot ox ++ F) := fun hno E hE e he => by
    rw [hno]
    exact K.done (vs := [_]) he (by show resV E [.tmp 4] = _; simp only [resV, hE]; rfl) (K.Base.le.refl _) (H' := schO BS a k a2 k2 ot ox) rfl ⟨rfl, a, k, a2, k2, ot, ox, rfl, rfl, fun s' e => by cases e⟩
  have hsm1 := Small h r1
  have hsm2 := Small h r2
  have hsm4 := Small h r4
  by_cases g1 : 0 ≤ r1.n ∧ r1.n ≤ 4294967295
  case neg =>
    have hno := no (by simp only [putQ, nnV, decide_eq_false g1, Bool.false_and]; rfl)
    rw [decide_eq_false g1] at hsm1
    (repeat' (first | refine X.rq ?_ | (refine X.rc ?_ ?_ <;> intro hc <;> first | (exfalso; omega) | skip)))
    refine K.s_pure (K.p_loadM (Fx.agg rfl) rfl (Cels.up c1) (Fx.sz rfl) rfl) rfl ?_
    refine K.l_callV (Fx.cal rfl) rfl hsm1 (K.pp [] rfl) rfl rfl ?_
    simp only [List.nil_append]
    (repeat' (first | refine X.rq ?_ | (refine X.rc ?_ ?_ <;> intro hc <;> first | (exfalso; omega) | skip)))
    exact hno _ rfl _ (.inl rfl)
  by_cases g2 : 0 ≤ r2.n ∧ r2.n ≤ 4294967295
  case neg =>
    have hno := no (by simp only [putQ, nnV, decide_eq_false g2, Bool.false_and, Bool.and_false]; rfl)
    rw [decide_eq_true g1] at hsm1
    rw [decide_eq_false g2] at hsm2
    (repeat' (first | refine X.rq ?_ | (refine X.rc ?_ ?_ <;> intro hc <;> first | (exfalso; omega) | skip)))
    refine K.s_pure (K.p_loadM (Fx.agg rfl) rfl (Cels.up c1) (Fx.sz rfl) rfl) rfl ?_
    refine K.l_callV (Fx.cal rfl) rfl hsm1 (K.pp [] rfl) rfl rfl ?_
    simp only [List.nil_append]
    (repeat' (first | refine X.rq ?_ | (refine X.rc ?_ ?_ <;> intro hc <;> first | (exfalso; omega) | skip)))
    refine K.s_pure (K.p_loadM (Fx.agg rfl) rfl (Cels.up c2) (Fx.sz rfl) rfl) rfl ?_
    (repeat' (first | refine X.rq ?_ | (refine X.rc ?_ ?_ <;> intro hc <;> first | (exfalso; omega) | skip)))
    refine K.l_callV (Fx.cal rfl) rfl hsm2 (K.pp [] rfl) rfl rfl ?_
    simp only [List.nil_append]
    (repeat' (first | refine X.rq ?_ | (refine X.rc ?_ ?_ <;> intro hc <;> first | (exfalso; omega) | skip)))
    exact hno _ rfl _ (.inl rfl)
  by_cases g4 : 0 ≤ r4.n ∧ r4.n ≤ 4294967295
  case neg =>
    have hno := no (by simp only [putQ, nnV, decide_eq_false g4, Bool.false_and, Bool.and_false]; rfl)
    rw [decide_eq_true g1] at hsm1
    rw [decide_eq_true g2] at hsm2
    rw [decide_eq_false g4] at hsm4
    (repeat' (first | refine X.rq ?_ | (refine X.rc ?_ ?_ <;> intro hc <;> first | (exfalso; omega) | skip)))
    refine K.s_pure (K.p_loadM (Fx.agg rfl) rfl (Cels.up c1) (Fx.sz rfl) rfl) rfl ?_
    refine K.l_callV (Fx.cal rfl) rfl hsm1 (K.pp [] rfl) rfl rfl ?_
    simp only [List.nil_append]
    (repeat' (first | refine X.rq ?_ | (refine X.rc ?_ ?_ <;> intro hc <;> first | (exfalso; omega) | skip)))
    refine K.s_pure (K.p_loadM (Fx.agg rfl) rfl (Cels.up c2) (Fx.sz rfl) rfl) rfl ?_
    (repeat' (first | refine X.rq ?_ | (refine X.rc ?_ ?_ <;> intro hc <;> first | (exfalso; omega) | skip)))
    refine K.l_callV (Fx.cal rfl) rfl hsm2 (K.pp [] rfl) rfl rfl ?_
    simp only [List.nil_append]
    (repeat' (first | refine X.rq ?_ | (refine X.rc ?_ ?_ <;> intro hc <;> first | (exfalso; omega) | skip)))
    refine K.s_pure (K.p_loadM (Fx.agg rfl) rfl (Cels.up c4) (Fx.sz rfl) rfl) rfl ?_
    (repeat' (first | refine X.rq ?_ | (refine X.rc ?_ ?_ <;> intro hc <;> first | (exfalso; omega) | skip)))
    refine K.l_callV (Fx.cal rfl) rfl hsm4 (K.pp [] rfl) rfl rfl ?_
    simp only [List.nil_append]
    (repeat' (first | refine X.rq ?_ | (refine X.rc ?_ ?_ <;> intro hc <;> first | (exfalso; omega) | skip)))
    exact hno _ rfl _ (.inl rfl)
  rw [decide_eq_true g1] at hsm1
  rw [decide_eq_true g2] at hsm2
  rw [decide_eq_true g4] at hsm4
  have hq : putQ (schP ot ox) [r0, r1, r2, r3, r4, r5] = if r0.n = 1 then some ⟨ot.map Ot.t ++ [⟨r1.n.toNat, r3.s, [], r4.n.toNat⟩], ox.map Ox.x⟩
      else if r0.n = 2 then (addCol r1.n.toNat ⟨r3.s, r4.n, decide (r5.n = 1)⟩ (ot.map Ot.t)).map fun l => ⟨l, ox.map Ox.x⟩
      else if r0.n = 3 then some ⟨ot.map Ot.t, ox.map Ox.x ++ [⟨r1.n.toNat, r2.n.toNat, r3.s, [], decide (r5.n = 1), r4.n.toNat⟩]⟩
      else if r0.n = 4 then (addKey r1.n.toNat r4.n (ox.map Ox.x)).map fun l => ⟨ot.map Ot.t, l⟩
      else none := by
    simp only [putQ, nnV, decide_eq_true g1, decide_eq_true g2, decide_eq_true g4, Bool.and_self, if_true]
  obtain ⟨n1, hn1⟩ := Int.eq_ofNat_of_zero_le g1.1
  obtain ⟨n2, hn2⟩ := Int.eq_ofNat_of_zero_le g2.1
  obtain ⟨n4, hn4⟩ := Int.eq_ofNat_of_zero_le g4.1
  rw [hn1, hn2, hn4] at hq
  simp only [Int.toNat_natCast] at hq
  have d0 : Cel h [] rb (ro + 0 * 3 + 1) (.int .i64 r0.n) := c0.2.1
  have d1 : Cel h [] rb (ro + 1 * 3 + 1) (.int .i64 n1) := hn1 ▸ c1.2.1
  have d2 : Cel h [] rb (ro + 2 * 3 + 1) (.int .i64 n2) := hn2 ▸ c2.2.1
  have d3 : Cel h [] rb (ro + 3 * 3 + 2) (.string r3.s) := c3.2.2.1
  have d4 : Cel h [] rb (ro + 4 * 3 + 1) (.int .i64 n4) := hn4 ▸ c4.2.1
  have d5 : Cel h [] rb (ro + 5 * 3 + 1) (.int .i64 r5.n) := c5.2.1
  have up : ∀ {o : Nat} {u : Value} {KK : List Asrt}, Cel h [] rb o u → Cel h KK rb o u := fun hc => hc.sub fun A hA => by cases hA
  rw [hn1] at g1; rw [hn2] at g2; rw [hn4] at g4
  (repeat' (first | refine X.rq ?_ | (refine X.rc ?_ ?_ <;> intro hc <;> first | (exfalso; omega) | skip)))
  refine K.s_pure (K.p_loadM (Fx.agg rfl) rfl (Cels.up c1) (Fx.sz rfl) rfl) rfl ?_
  refine K.l_callV (Fx.cal rfl) rfl hsm1 (K.pp [] rfl) rfl rfl ?_
  simp only [List.nil_append]
  (repeat' (first | refine X.rq ?_ | (refine X.rc ?_ ?_ <;> intro hc <;> first | (exfalso; omega) | skip)))
  refine K.s_pure (K.p_loadM (Fx.agg rfl) rfl (Cels.up c2) (Fx.sz rfl) rfl) rfl ?_
  (repeat' (first | refine X.rq ?_ | (refine X.rc ?_ ?_ <;> intro hc <;> first | (exfalso; omega) | skip)))
  refine K.l_callV (Fx.cal rfl) rfl hsm2 (K.pp [] rfl) rfl rfl ?_
  simp only [List.nil_append]
  (repeat' (first | refine X.rq ?_ | (refine X.rc ?_ ?_ <;> intro hc <;> first | (exfalso; omega) | skip)))
  refine K.s_pure (K.p_loadM (Fx.agg rfl) rfl (Cels.up c4) (Fx.sz rfl) rfl) rfl ?_
  (repeat' (first | refine X.rq ?_ | (refine X.rc ?_ ?_ <;> intro hc <;> first | (exfalso; omega) | skip)))
  refine K.l_callV (Fx.cal rfl) rfl hsm4 (K.pp [] rfl) rfl rfl ?_
  simp only [List.nil_append]
  clear c0 c1 c2 c3 c4 c5 hc0 hsm1 hsm2 hsm4
  (repeat' (first | refine X.rq ?_ | (refine X.rc ?_ ?_ <;> intro hc <;> first | (exfalso; omega) | skip)))
  refine K.s_pure (K.p_load (Fx.agg rfl) rfl (up d1)) rfl ?_
  (repeat' (first | refine X.rq ?_ | (refine X.rc ?_ ?_ <;> intro hc <;> first | (exfalso; omega) | skip)))
  refine K.s_pure (K.p_load (Fx.agg rfl) rfl (up d0)) rfl ?_
  by_cases b1 : r0.n = 1
  · rw [if_pos b1] at hq
    (repeat' (first | refine X.rq ?_ | (refine X.rc ?_ ?_ <;> intro hc <;> first | (exfalso; omega) | skip)))
    all_goals first | (exfalso; omega) | skip
    simp only [schO, List.cons_append, List.nil_append]
    refine X.draw ([blk BS 25 [bufV a ot.length k, bufV a2 ox.length k2]]) [20] (.pu 0 (.pu 1 (.pu 2 (.pu 3 (.pu 5 (.pu 6 (.pu 7 (.pu 8 (.pu 10 (.pu 11 (.pu 12 (.st 4 (.st 9 (.st 13 (.pu 14 (.pu 15 (.on 16 (.on 17 (.pu 18 (.pu 19 (.cl 20 .nil))))))))))))))))))))) ?_
    refine K.d_pu rfl (fun _ _ => X.mv) rfl ?_
    refine K.d_pu rfl (fun _ _ => X.mv) rfl ?_
    refine K.d_pu rfl (fun _ _ => X.nc) rfl ?_
    refine K.d_pu rfl (fun _ _ => X.fa) rfl ?_
    refine K.d_pu rfl (fun _ _ => X.mv) rfl ?_
    refine K.d_pu rfl (fun _ _ => X.mv) rfl ?_
    refine K.d_pu rfl (fun _ _ => X.ia) rfl ?_
    refine K.d_pu rfl (fun _ _ => X.fa) rfl ?_
    refine K.d_pu rfl (fun _ _ => X.mv) rfl ?_
    refine K.d_pu rfl (fun _ _ => X.ia) rfl ?_
    refine K.d_pu rfl (fun _ _ => X.fa) rfl ?_
    refine K.d_st rfl X.ld rfl ?_
    refine K.d_st rfl (K.p_load (Fx.agg rfl) rfl (up d3)) rfl ?_
    refine K.d_st rfl (K.p_load (Fx.agg rfl) rfl (up d4)) rfl ?_
    refine K.d_pu rfl (fun _ _ => X.cv) rfl ?_
    refine K.d_pu rfl (fun _ _ => X.bd) rfl ?_
    refine K.d_on rfl (fun KK hKK => ?_)
    refine X.bs (fun B => ?_)
    refine K.l_nil ?_
    refine X.onE hKK ?_
    refine K.d_on rfl (fun KK hKK => ?_)
    refine K.l_append_at 2 rfl (Fx.und rfl) (Fx.und rfl) rfl (Fx.sz rfl) (Fx.zr rfl) rfl (Fx.byt rfl) rfl rfl (K.src_cells (K.cels_own (pre := []) (cs := cTab ⟨n1, r3.s, [], n4⟩ (bufV none 0 0)) (post := []) 0 rfl rfl) rfl (by simp [oneCell, cTab, bufV])) (by omega) (by omega) rfl (fun a3 k3 => ?_)
    simp only [List.set_cons_zero, List.set_cons_succ, List.eraseIdx_cons_zero, List.eraseIdx_cons_succ, List.cons_append, List.nil_append]
    refine K.l_nil ?_
    refine X.onE hKK ?_
    refine K.d_pu rfl (fun _ _ => X.nc) rfl ?_
    refine K.d_pu rfl (fun _ _ => X.fa) rfl ?_
    refine K.d_cl rfl (fun KK hKK => ?_)
    refine X.sto ?_
    simp only [List.set_cons_zero, List.set_cons_succ, List.eraseIdx_cons_zero, List.eraseIdx_cons_succ, List.cons_append, List.nil_append]
    refine K.l_nil ?_
    refine K.d_clE hKK ?_
    refine K.d_nil ?_
    (repeat' (first | refine X.rq ?_ | (refine X.rc ?_ ?_ <;> intro hc <;> first | (exfalso; omega) | skip)))
    refine K.AT.sel [0] rfl (K.AT.perm (K.pp [3] rfl) (AT.allNil 39 3 (K.AT.perm (K.pp [1, 1, 1, 0] rfl) ?_)))
    simp only [List.set_cons_zero, List.set_cons_succ, List.eraseIdx_cons_zero, List.eraseIdx_cons_succ, List.cons_append, List.nil_append]
    refine K.done (vs := [.bool true]) (.inl rfl) rfl (K.Base.le.refl _) (H' := schO BS a3 k3 a2 k2 (ot ++ [⟨⟨n1, r3.s, [], n4⟩, none, 0⟩]) ox) ?_ ⟨rfl, a3, k3, a2, k2, ot ++ [⟨⟨n1, r3.s, [], n4⟩, none, 0⟩], ox, rfl, by rw [hq]; rfl, fun s' e => by rw [hq] at e; cases e; simp [schP]⟩
    simp only [schO, List.length_append, List.map_append, List.flatten_append, List.map_cons, List.map_nil, List.flatten_cons, List.flatten_nil, List.append_nil, List.length_cons, List.length_nil]
    rfl
  rw [if_neg b1] at hq
  by_cases b2 : r0.n = 2
  · rw [if_pos b2] at hq
    (repeat' (first | refine X.rq ?_ | (refine X.rc ?_ ?_ <;> intro hc <;> first | (exfalso; omega) | skip)))
    all_goals first | (exfalso; omega) | skip
    refine K.c_loop (σ := Nat) (fun j => [(0, .pointer (some ⟨BS, 0, none⟩)), (1, .slice (some ⟨rb, ro, none⟩) 6 rc), (5, .int .u32 n1), (64, .int .i64 ot.length), (65, .int .i64 j)]) (fun _ => h) (fun _ => schO BS a k a2 k2 ot ox ++ F)
      (fun j => j ≤ ot.length ∧ ∀ (i : Nat) (u : PTab), i < j → (ot.map Ot.t)[i]? = some u → u.id ≠ n1) (fun j => ot.length - j) 0 ⟨Nat.zero_le _, fun i u hi => absurd hi (Nat.not_lt_zero _)⟩ (by repeat (first | exact K.Sub.nil _ | refine K.Sub.cons rfl ?_)) rfl rfl ?_
    rintro j ⟨hj, hnot⟩ KL hKL
    by_cases hjl : j < ot.length
    · have hx1 : ot[j]? = some ot[j] := List.getElem?_eq_getElem hjl
      have hlc := hc1 _ (List.getElem_mem hjl)
      generalize ot[j] = o at hx1 hlc
      have hoc : (ot.map Ot.c)[j]? = some o.c := by rw [List.getElem?_map, hx1]; rfl
      have hoa : (ot.map Ot.A)[j]? = some o.A := by rw [List.getElem?_map, hx1]; rfl
      have hot : (ot.map Ot.t)[j]? = some o.t := by rw [List.getElem?_map, hx1]; rfl
      refine K.WC.someBuf 1 rfl (by omega) (fun b eb => ?_)
      subst eb
      simp only [List.set_cons_zero, List.set_cons_succ, List.eraseIdx_cons_zero, List.eraseIdx_cons_succ, List.cons_append, List.nil_append]
      have ce : ∀ (KK : List Asrt) (i q : Nat) (u : Value), KK[i]? = some (bufA 37 4 (some b) ot.length k (ot.map Ot.c).flatten) → o.c[q]? = some u → Cel h KK b (((j : Nat) : Int).toNat * 4 + q) u := fun KK i q u hi hq => K.cel_rowZ (h := h) i hi (ot4 ot) hoc hq
      have ce0 : ∀ (KK : List Asrt) (i q : Nat) (u : Value), KK[i]? = some (bufA 37 4 (some b) ot.length k (ot.map Ot.c).flatten) → o.c[q]? = some u → Cel h KK b (0 + ((j : Nat) : Int).toNat * 4 + q) u := fun KK i q u hi hq => by
        rw [Nat.zero_add]
        exact ce KK i q u hi hq
      (repeat' (first | refine X.rq ?_ | (refine X.rc ?_ ?_ <;> intro hc <;> first | (exfalso; omega) | skip)))
      refine K.s_pure (K.p_load (v := .int .u32 o.t.id) (Fx.agg rfl) rfl (ce _ 1 0 _ rfl rfl)) rfl ?_
      by_cases hid : o.t.id = n1
      · (repeat' (first | refine X.rq ?_ | (refine X.rc ?_ ?_ <;> intro hc <;> first | (exfalso; omega) | skip)))
        all_goals first | (exfalso; omega) | skip
        refine K.WC.perm (K.pp [3] rfl) (WC.allTake j hoa ?_)
        simp only [List.set_cons_zero, List.set_cons_succ, List.eraseIdx_cons_zero, List.eraseIdx_cons_succ, List.cons_append, List.nil_append]
        refine X.draw ([blk BS 25 [bufV (some b) ot.length k, bufV a2 ox.length k2], bufA 37 4 (some b) ot.length k (ot.map Ot.c).flatten]) [31] (.pu 0 (.pu 1 (.pu 2 (.pu 4 (.pu 5 (.pu 6 (.pu 7 (.pu 9 (.pu 13 (.pu 14 (.pu 15 (.pu 17 (.pu 18 (.pu 19 (.pu 21 (.pu 22 (.pu 23 (.st 3 (.st 8 (.pu 10 (.pu 11 (.st 12 (.st 16 (.st 20 (.st 24 (.pu 25 (.pu 26 (.on 27 (.on 28 (.pu 29 (.pu 30 (.cl 31 .nil)))))))))))))))))))))))))))))))) ?_ (hQ := by repeat (first | with_reducible refine K.NoPanic.then ?_ | with_reducible refine K.NoPanic.inBlock ?_ | with_reducible exact K.post_noPanic _ _ | exact K.post_noPanic _ _))
        refine K.d_pu rfl (fun _ _ => X.mv) rfl ?_
        refine K.d_pu rfl (fun _ _ => X.nc) rfl ?_
        refine K.d_pu rfl (fun _ _ => X.fa) rfl ?_
        refine K.d_pu rfl (fun _ _ => X.mv) rfl ?_
        refine K.d_pu rfl (fun _ _ => X.mv) rfl ?_
        refine K.d_pu rfl (fun _ _ => X.nc) rfl ?_
        refine K.d_pu rfl (fun _ _ => X.fa) rfl ?_
        refine K.d_pu rfl (fun _ _ => X.mv) rfl ?_
        refine K.d_pu rfl (fun _ _ => X.mv) rfl ?_
        refine K.d_pu rfl (fun _ _ => X.ia) rfl ?_
        refine K.d_pu rfl (fun _ _ => X.fa) rfl ?_
        refine K.d_pu rfl (fun _ _ => X.mv) rfl ?_
        refine K.d_pu rfl (fun _ _ => X.ia) rfl ?_
        refine K.d_pu rfl (fun _ _ => X.fa) rfl ?_
        refine K.d_pu rfl (fun _ _ => X.mv) rfl ?_
        refine K.d_pu rfl (fun _ _ => X.ia) rfl ?_
        refine K.d_pu rfl (fun _ _ => X.fa) rfl ?_
        refine K.d_st rfl X.ld rfl ?_
        refine K.d_st rfl X.ld rfl ?_
        refine K.d_pu rfl (fun _ _ => X.ia) rfl ?_
        refine K.d_pu rfl (fun _ _ => X.fa) rfl ?_
        refine K.d_st rfl (K.p_load (v := bufV o.a o.t.cols.length o.k) (Fx.agg rfl) rfl (ce0 _ 1 2 _ rfl rfl)) rfl ?_
        refine K.d_st rfl (K.p_load (Fx.agg rfl) rfl (up d3)) rfl ?_
        refine K.d_st rfl (K.p_load (Fx.agg rfl) rfl (up d4)) rfl ?_
        refine K.d_st rfl (K.p_load (Fx.agg rfl) rfl (up d5)) rfl ?_
        refine K.d_pu rfl (fun _ _ => X.beql) rfl ?_
        refine K.d_pu rfl (fun _ _ => X.bd) rfl ?_
        refine K.d_on rfl (fun KK hKK => ?_)
        refine X.bs (fun B => ?_)
        refine K.l_nil ?_
        refine X.onE hKK ?_
        refine K.d_on rfl (fun KK hKK => ?_)
        refine K.l_append_at 1 rfl (Fx.und rfl) (Fx.und rfl) rfl (Fx.sz rfl) (Fx.zr rfl) rfl (Fx.byt rfl) rfl rfl (K.src_cells (K.cels_own (pre := []) (cs := cC ⟨r3.s, n4, decide (r5.n = 1)⟩) (post := []) 0 rfl rfl) rfl (by simp [oneCell, cC])) (by omega) (by omega) rfl (fun a3 k3 => ?_)
        simp only [List.set_cons_zero, List.set_cons_succ, List.eraseIdx_cons_zero, List.eraseIdx_cons_succ, List.cons_append, List.nil_append]
        refine K.l_nil ?_
        refine X.onE hKK ?_
        refine K.d_pu rfl (fun _ _ => X.ia) rfl ?_
        refine K.d_pu rfl (fun _ _ => X.fa) rfl ?_
        refine K.d_cl rfl (fun KK hKK => ?_)
        refine K.l_storePart1 (i := j) (q := 2) (c := o.c) 4 rfl (Fx.sz rfl) (by show some (Value.pointer (some ⟨b, 0 + ((j : Nat) : Int).toNat * 4 + 2, none⟩)) = _; rw [Nat.zero_add]; rfl) rfl rfl (ot4 ot) hoc (by show 2 < 4; decide) ?_
        simp only [List.set_cons_zero, List.set_cons_succ, List.eraseIdx_cons_zero, List.eraseIdx_cons_succ, List.cons_append, List.nil_append]
        refine K.l_nil ?_
        refine K.d_clE hKK ?_
        refine K.d_nil ?_
        (repeat' (first | refine X.rq ?_ | (refine X.rc ?_ ?_ <;> intro hc <;> first | (exfalso; omega) | skip)))
        refine K.AT.sel [0] rfl ?_
        refine AT.allBack (i := j) (by simpa using hjl) ?_
        refine K.AT.perm (K.pp [1, 1, 1, 0] rfl) ?_
        simp only [List.set_cons_zero, List.set_cons_succ, List.eraseIdx_cons_zero, List.eraseIdx_cons_succ, List.cons_append, List.nil_append]
        have hadd := addCol_at (id := n1) (c := ⟨r3.s, n4, decide (r5.n = 1)⟩) hnot hot hid
        rw [hadd] at hq
        refine K.done (vs := [.bool true]) (.inl rfl) rfl (K.Base.le.refl _) (H' := schO BS (some b) k a2 k2 (ot.set j ⟨{ o.t with cols := o.t.cols ++ [⟨r3.s, n4, decide (r5.n = 1)⟩] }, a3, k3⟩) ox) ?_ ⟨rfl, some b, k, a2, k2, ot.set j ⟨{ o.t with cols := o.t.cols ++ [⟨r3.s, n4, decide (r5.n = 1)⟩] }, a3, k3⟩, ox, rfl, by rw [hq]; rfl, fun s' e => by rw [hq] at e; cases e; simp [schP, List.map_set]⟩
        simp only [schO, List.length_set, List.map_set, Ot.c, Ot.A, List.length_append, List.map_append, List.flatten_append, List.map_cons, List.map_nil, List.flatten_cons, List.flatten_nil, List.append_nil, List.length_cons, List.length_nil]
        rfl
      · (repeat' (first | refine X.rq ?_ | (refine X.rc ?_ ?_ <;> intro hc <;> first | (exfalso; omega) | skip)))
        all_goals first | (exfalso; omega) | skip
        refine K.a_round hKL (j + 1) ⟨by omega, fun i u hi hu => ?_⟩ (by repeat (first | exact K.Sub.nil _ | refine K.Sub.cons rfl ?_)) rfl rfl (by omega)
        by_cases hij : i < j
        · exact hnot i u hij hu
        · obtain rfl : i = j := by omega
          rw [hot] at hu
          cases hu
          exact hid
    · obtain rfl : j = ot.length := by omega
      have hnone := addCol_none (id := n1) (c := ⟨r3.s, n4, decide (r5.n = 1)⟩) (l := ot.map Ot.t) fun i u hu => hnot i u (by have := (List.getElem?_eq_some_iff.1 hu).1; simpa using this) hu
      rw [hnone] at hq
      (repeat' (first | refine X.rq ?_ | (refine X.rc ?_ ?_ <;> intro hc <;> first | (exfalso; omega) | skip)))
      exact no hq _ rfl _ (.inl rfl)
  rw [if_neg b2] at hq
  by_cases b3 : r0.n = 3
  · rw [if_pos b3] at hq
    (repeat' (first | refine X.rq ?_ | (refine X.rc ?_ ?_ <;> intro hc <;> first | (exfalso; omega) | skip)))
    all_goals first | (exfalso; omega) | skip
    simp only [schO, List.cons_append, List.nil_append]
    refine X.draw ([blk BS 25 [bufV a ot.length k, bufV a2 ox.length k2]]) [30] (.pu 0 (.pu 1 (.pu 2 (.pu 3 (.pu 5 (.pu 6 (.pu 7 (.pu 8 (.pu 11 (.pu 12 (.pu 13 (.pu 15 (.pu 16 (.pu 17 (.pu 20 (.pu 21 (.pu 22 (.st 4 (.st 9 (.pu 10 (.st 14 (.st 18 (.pu 19 (.st 23 (.pu 24 (.pu 25 (.on 26 (.on 27 (.pu 28 (.pu 29 (.cl 30 .nil))))))))))))))))))))))))))))))) ?_
    refine K.d_pu rfl (fun _ _ => X.mv) rfl ?_
    refine K.d_pu rfl (fun _ _ => X.mv) rfl ?_
    refine K.d_pu rfl (fun _ _ => X.nc) rfl ?_
    refine K.d_pu rfl (fun _ _ => X.fa) rfl ?_
    refine K.d_pu rfl (fun _ _ => X.mv) rfl ?_
    refine K.d_pu rfl (fun _ _ => X.mv) rfl ?_
    refine K.d_pu rfl (fun _ _ => X.ia) rfl ?_
    refine K.d_pu rfl (fun _ _ => X.fa) rfl ?_
    refine K.d_pu rfl (fun _ _ => X.mv) rfl ?_
    refine K.d_pu rfl (fun _ _ => X.ia) rfl ?_
    refine K.d_pu rfl (fun _ _ => X.fa) rfl ?_
    refine K.d_pu rfl (fun _ _ => X.mv) rfl ?_
    refine K.d_pu rfl (fun _ _ => X.ia) rfl ?_
    refine K.d_pu rfl (fun _ _ => X.fa) rfl ?_
    refine K.d_pu rfl (fun _ _ => X.mv) rfl ?_
    refine K.d_pu rfl (fun _ _ => X.ia) rfl ?_
    refine K.d_pu rfl (fun _ _ => X.fa) rfl ?_
    refine K.d_st rfl X.ld rfl ?_
    refine K.d_st rfl (K.p_load (Fx.agg rfl) rfl (up d2)) rfl ?_
    refine K.d_pu rfl (fun _ _ => X.cv) rfl ?_
    refine K.d_st rfl (K.p_load (Fx.agg rfl) rfl (up d3)) rfl ?_
    refine K.d_st rfl (K.p_load (Fx.agg rfl) rfl (up d4)) rfl ?_
    refine K.d_pu rfl (fun _ _ => X.cv) rfl ?_
    refine K.d_st rfl (K.p_load (Fx.agg rfl) rfl (up d5)) rfl ?_
    refine K.d_pu rfl (fun _ _ => X.beql) rfl ?_
    refine K.d_pu rfl (fun _ _ => X.bd) rfl ?_
    refine K.d_on rfl (fun KK hKK => ?_)
    refine X.bs (fun B => ?_)
    refine K.l_nil ?_
    refine X.onE hKK ?_
    refine K.d_on rfl (fun KK hKK => ?_)
    refine K.l_append_at 3 rfl (Fx.und rfl) (Fx.und rfl) rfl (Fx.sz rfl) (Fx.zr rfl) rfl (Fx.byt rfl) rfl rfl (K.src_cells (K.cels_own (pre := []) (cs := cIdx ⟨n1, n2, r3.s, [], decide (r5.n = 1), n4⟩ (bufV none 0 0)) (post := []) 0 rfl rfl) rfl (by simp [oneCell, cIdx, bufV])) (by omega) (by omega) rfl (fun a3 k3 => ?_)
    simp only [List.set_cons_zero, List.set_cons_succ, List.eraseIdx_cons_zero, List.eraseIdx_cons_succ, List.cons_append, List.nil_append]
    refine K.l_nil ?_
    refine X.onE hKK ?_
    refine K.d_pu rfl (fun _ _ => X.nc) rfl ?_
    refine K.d_pu rfl (fun _ _ => X.fa) rfl ?_
    refine K.d_cl rfl (fun KK hKK => ?_)
    refine X.sto ?_
    simp only [List.set_cons_zero, List.set_cons_succ, List.eraseIdx_cons_zero, List.eraseIdx_cons_succ, List.cons_append, List.nil_append]
    refine K.l_nil ?_
    refine K.d_clE hKK ?_
    refine K.d_nil ?_
    (repeat' (first | refine X.rq ?_ | (refine X.rc ?_ ?_ <;> intro hc <;> first | (exfalso; omega) | skip)))
    refine K.AT.sel [0] rfl (K.AT.perm (K.pp [4] rfl) (AT.allNil 3 1 (K.AT.perm (K.pp [1, 1, 1, 1, 0] rfl) ?_)))
    simp only [List.set_cons_zero, List.set_cons_succ, List.eraseIdx_cons_zero, List.eraseIdx_cons_succ, List.cons_append, List.nil_append]
    refine K.done (vs := [.bool true]) (.inl rfl) rfl (K.Base.le.refl _) (H' := schO BS a k a3 k3 ot (ox ++ [⟨⟨n1, n2, r3.s, [], decide (r5.n = 1), n4⟩, none, 0⟩])) ?_ ⟨rfl, a, k, a3, k3, ot, ox ++ [⟨⟨n1, n2, r3.s, [], decide (r5.n = 1), n4⟩, none, 0⟩], rfl, by rw [hq]; rfl, fun s' e => by rw [hq] at e; cases e; simp [schP]⟩
    simp only [schO, List.length_append, List.map_append, List.flatten_append, List.map_cons, List.map_nil, List.flatten_cons, List.flatten_nil, List.append_nil, List.length_cons, List.length_nil]
    rfl
  rw [if_neg b3] at hq
  by_cases b4 : r0.n = 4
  · rw [if_pos b4] at hq
    (repeat' (first | refine X.rq ?_ | (refine X.rc ?_ ?_ <;> intro hc <;> first | (exfalso; omega) | skip)))
    all_goals first | (exfalso; omega) | skip
    refine K.c_loop (σ := Nat) (fun j => [(0, .pointer (some ⟨BS, 0, none⟩)), (1, .slice (some ⟨rb, ro, none⟩) 6 rc), (5, .int .u32 n1), (148, .int .i64 ox.length), (149, .int .i64 j)]) (fun _ => h) (fun _ => schO BS a k a2 k2 ot ox ++ F)
      (fun j => j ≤ ox.length ∧ ∀ (i : Nat) (u : PIdx), i < j → (ox.map Ox.x)[i]? = some u → u.id ≠ n1) (fun j => ox.length - j) 0 ⟨Nat.zero_le _, fun i u hi => absurd hi (Nat.not_lt_zero _)⟩ (by repeat (first | exact K.Sub.nil _ | refine K.Sub.cons rfl ?_)) rfl rfl ?_
    rintro j ⟨hj, hnot⟩ KL hKL
    by_cases hjl : j < ox.length
    · have hx1 : ox[j]? = some ox[j] := List.getElem?_eq_getElem hjl
      have hlc := hc2 _ (List.getElem_mem hjl)
      generalize ox[j] = o at hx1 hlc
      have hoc : (ox.map Ox.c)[j]? = some o.c := by rw [List.getElem?_map, hx1]; rfl
      have hoa : (ox.map Ox.A)[j]? = some o.A := by rw [List.getElem?_map, hx1]; rfl
      have hot : (ox.map Ox.x)[j]? = some o.x := by rw [List.getElem?_map, hx1]; rfl
      refine K.WC.someBuf 2 rfl (by omega) (fun b eb => ?_)
      subst eb
      simp only [List.set_cons_zero, List.set_cons_succ, List.eraseIdx_cons_zero, List.eraseIdx_cons_succ, List.cons_append, List.nil_append]
      have ce : ∀ (KK : List Asrt) (i q : Nat) (u : Value), KK[i]? = some (bufA 43 6 (some b) ox.length k2 (ox.map Ox.c).flatten) → o.c[q]? = some u → Cel h KK b (((j : Nat) : Int).toNat * 6 + q) u := fun KK i q u hi hq => K.cel_rowZ (h := h) i hi (ox6 ox) hoc hq
      have ce0 : ∀ (KK : List Asrt) (i q : Nat) (u : Value), KK[i]? = some (bufA 43 6 (some b) ox.length k2 (ox.map Ox.c).flatten) → o.c[q]? = some u → Cel h KK b (0 + ((j : Nat) : Int).toNat * 6 + q) u := fun KK i q u hi hq => by
        rw [Nat.zero_add]
        exact ce KK i q u hi hq
      (repeat' (first | refine X.rq ?_ | (refine X.rc ?_ ?_ <;> intro hc <;> first | (exfalso; omega) | skip)))
      refine K.s_pure (K.p_load (v := .int .u32 o.x.id) (Fx.agg rfl) rfl (ce _ 2 0 _ rfl rfl)) rfl ?_
      by_cases hid : o.x.id = n1
      · (repeat' (first | refine X.rq ?_ | (refine X.rc ?_ ?_ <;> intro hc <;> first | (exfalso; omega) | skip)))
        all_goals first | (exfalso; omega) | skip
        refine K.WC.perm (K.pp [4] rfl) (WC.allTake j hoa ?_)
        simp only [List.set_cons_zero, List.set_cons_succ, List.eraseIdx_cons_zero, List.eraseIdx_cons_succ, List.cons_append, List.nil_append]
        refine X.draw ([blk BS 25 [bufV a ot.length k, bufV (some b) ox.length k2], bufA 43 6 (some b) ox.length k2 (ox.map Ox.c).flatten]) [21] (.pu 0 (.pu 1 (.pu 2 (.pu 4 (.pu 5 (.pu 6 (.pu 7 (.pu 9 (.pu 13 (.pu 14 (.pu 15 (.st 3 (.st 8 (.pu 10 (.pu 11 (.st 12 (.st 16 (.on 17 (.on 18 (.pu 19 (.pu 20 (.cl 21 .nil)))))))))))))))))))))) ?_ (hQ := by repeat (first | with_reducible refine K.NoPanic.then ?_ | with_reducible refine K.NoPanic.inBlock ?_ | with_reducible exact K.post_noPanic _ _ | exact K.post_noPanic _ _))
        refine K.d_pu rfl (fun _ _ => X.mv) rfl ?_
        refine K.d_pu rfl (fun _ _ => X.nc) rfl ?_
        refine K.d_pu rfl (fun _ _ => X.fa) rfl ?_
        refine K.d_pu rfl (fun _ _ => X.mv) rfl ?_
        refine K.d_pu rfl (fun _ _ => X.mv) rfl ?_
        refine K.d_pu rfl (fun _ _ => X.nc) rfl ?_
        refine K.d_pu rfl (fun _ _ => X.fa) rfl ?_
        refine K.d_pu rfl (fun _ _ => X.mv) rfl ?_
        refine K.d_pu rfl (fun _ _ => X.mv) rfl ?_
        refine K.d_pu rfl (fun _ _ => X.ia) rfl ?_
        refine K.d_pu rfl (fun _ _ => X.fa) rfl ?_
        refine K.d_st rfl X.ld rfl ?_
        refine K.d_st rfl X.ld rfl ?_
        refine K.d_pu rfl (fun _ _ => X.ia) rfl ?_
        refine K.d_pu rfl (fun _ _ => X.fa) rfl ?_
        refine K.d_st rfl (K.p_load (v := bufV o.a o.x.cols.length o.k) (Fx.agg rfl) rfl (ce0 _ 1 3 _ rfl rfl)) rfl ?_
        refine K.d_st rfl (K.p_load (Fx.agg rfl) rfl (up d4)) rfl ?_
        refine K.d_on rfl (fun KK hKK => ?_)
        refine X.bs (fun B => ?_)
        refine K.l_nil ?_
        refine X.onE hKK ?_
        refine K.d_on rfl (fun KK hKK => ?_)
        refine K.l_append_at 1 rfl (Fx.und rfl) (Fx.und rfl) rfl (Fx.sz rfl) (Fx.zr rfl) rfl (Fx.byt rfl) rfl rfl (K.src_cells (K.cels_own (pre := []) (cs := [iV n4]) (post := []) 0 rfl rfl) rfl (by simp [oneCell, iV])) (by omega) (by omega) rfl (fun a3 k3 => ?_)
        simp only [List.set_cons_zero, List.set_cons_succ, List.eraseIdx_cons_zero, List.eraseIdx_cons_succ, List.cons_append, List.nil_append]
        refine K.l_nil ?_
        refine X.onE hKK ?_
        refine K.d_pu rfl (fun _ _ => X.ia) rfl ?_
        refine K.d_pu rfl (fun _ _ => X.fa) rfl ?_
        refine K.d_cl rfl (fun KK hKK => ?_)
        refine K.l_storePart1 (i := j) (q := 3) (c := o.c) 5 rfl (Fx.sz rfl) (by show some (Value.pointer (some ⟨b, 0 + ((j : Nat) : Int).toNat * 6 + 3, none⟩)) = _; rw [Nat.zero_add]; rfl) rfl rfl (ox6 ox) hoc (by show 3 < 6; decide) ?_
        simp only [List.set_cons_zero, List.set_cons_succ, List.eraseIdx_cons_zero, List.eraseIdx_cons_succ, List.cons_append, List.nil_append]
        refine K.l_nil ?_
        refine K.d_clE hKK ?_
        refine K.d_nil ?_
        (repeat' (first | refine X.rq ?_ | (refine X.rc ?_ ?_ <;> intro hc <;> first | (exfalso; omega) | skip)))
        refine K.AT.sel [0] rfl ?_
        refine AT.allBack (i := j) (by simpa using hjl) ?_
        refine K.AT.perm (K.pp [1, 1, 1, 1, 0] rfl) ?_
        simp only [List.set_cons_zero, List.set_cons_succ, List.eraseIdx_cons_zero, List.eraseIdx_cons_succ, List.cons_append, List.nil_append]
        have hadd := addKey_at (id := n1) (c := (n4 : Int)) hnot hot hid
        rw [hadd] at hq
        refine K.done (vs := [.bool true]) (.inl rfl) rfl (K.Base.le.refl _) (H' := schO BS a k (some b) k2 ot (ox.set j ⟨{ o.x with cols := o.x.cols ++ [(n4 : Int)] }, a3, k3⟩)) ?_ ⟨rfl, a, k, some b, k2, ot, ox.set j ⟨{ o.x with cols := o.x.cols ++ [(n4 : Int)] }, a3, k3⟩, rfl, by rw [hq]; rfl, fun s' e => by rw [hq] at e; cases e; simp [schP, List.map_set]⟩
        simp only [schO, List.length_set, List.map_set, Ox.c, Ox.A, rowN, List.length_append, List.map_append, List.flatten_append, List.map_cons, List.map_nil, List.flatten_cons, List.flatten_nil, List.append_nil, List.length_cons, List.length_nil]
        rfl
      · (repeat' (first | refine X.rq ?_ | (refine X.rc ?_ ?_ <;> intro hc <;> first | (exfalso; omega) | skip)))
        all_goals first | (exfalso; omega) | skip
        refine K.a_round hKL (j + 1) ⟨by omega, fun i u hi hu => ?_⟩ (by repeat (first | exact K.Sub.nil _ | refine K.Sub.cons rfl ?_)) rfl rfl (by omega)
        by_cases hij : i < j
        · exact hnot i u hij hu
        · obtain rfl : i = j := by omega
          rw [hot] at hu
          cases hu
          exact hid
    · obtain rfl : j = ox.length := by omega
      have hnone := addKey_none (id := n1) (c := (n4 : Int)) (l := ox.map Ox.x) fun i u hu => hnot i u (by have := (List.getElem?_eq_some_iff.1 hu).1; simpa using this) hu
      rw [hnone] at hq
      (repeat' (first | refine X.rq ?_ | (refine X.rc ?_ ?_ <;> intro hc <;> first | (exfalso; omega) | skip)))
      exact no hq _ rfl _ (.inl rfl)
  rw [if_neg b4] at hq
  (repeat' (first | refine X.rq ?_ | (refine X.rc ?_ ?_ <;> intro hc <;> first | (exfalso; omega) | skip)))
  all_goals first | (exfalso; omega) | skip
  exact no hq _ rfl _ (.inl rfl)
end Go.Proofs.YtdjacjhojbkgjaaGreat.Ct
