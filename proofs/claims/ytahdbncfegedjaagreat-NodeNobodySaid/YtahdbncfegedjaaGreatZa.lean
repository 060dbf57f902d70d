/-
  Trees of pages: without a get; Split and Pages where nothing is told. Conditions: each theorem's own.
-/
import Derived.Test.YtahdbncfegedjaaGreatYc

namespace Go.Proofs.YtahdbncfegedjaaGreat.Nd
open Go Go.K Go.Proofs Go.Proofs.YtahdbncfegedjaaGreat Go.Proofs.YtahdbncfegedjaaGreat.Pg
set_option linter.unusedVariables false
set_option linter.unusedSimpArgs false
set_option maxRecDepth 10000

theorem IdleM (h : Base) (b2 b3 : Nat) : TrD Tryz.prog 98 [.pointer (some ⟨b2, 0, none⟩), .pointer (some ⟨b3, 0, none⟩)] .returning h [] (fun u' h' H' => u' = .returning ∧ (h' = h ∧ H' = [])) := by
  refine K.trD_of Tryz.func98 rfl (Nat.le_of_ble_eq_true rfl) rfl rfl (.inl ⟨rfl, rfl, rfl⟩) (fun F => ?_)
  (repeat' (first | refine X.rq ?_ | (refine X.rc ?_ ?_ <;> intro hc <;> first | (exfalso; omega) | skip)))
  refine K.s_pure (K.p_neI0 Tryz.underlying20 rfl rfl) rfl ?_
  (repeat' (first | refine X.rq ?_ | (refine X.rc ?_ ?_ <;> intro hc <;> first | (exfalso; omega) | skip)))
  exact K.a_postS (.inr rfl) rfl fun w ok => ⟨h, [], K.Base.le.refl _, ⟨rfl, rfl⟩, ok⟩
set_option maxHeartbeats 1000000 in
theorem CatchM (h : Base) (b2 b3 : Nat) (T T3 : TypeId) (e : Int) : TrD Tryz.prog 98 [.pointer (some ⟨b2, 0, none⟩), .pointer (some ⟨b3, 0, none⟩)] (.panicking (up1 (failV e))) h [blk b2 T [(.slice none 0 0)], blk b3 T3 [.int .i64 0]] (fun u' h' H' => u' = .panicking [{ v := failV e, recovered := true }] ∧ (h' = h ∧ H' = [blk b2 T [(.slice none 0 0)], blk b3 T3 [.int .i64 e]])) := by
  refine K.trD_of Tryz.func98 rfl (Nat.le_of_ble_eq_true rfl) rfl rfl (.inr ⟨[], rfl, rfl⟩) (fun F => ?_)
  (repeat' (first | refine X.rq ?_ | (refine X.rc ?_ ?_ <;> intro hc <;> first | (exfalso; omega) | skip)))
  refine K.s_pure (K.p_neI Tryz.underlying20 rfl rfl rfl) rfl ?_
  (repeat' (first | refine X.rq ?_ | (refine X.rc ?_ ?_ <;> intro hc <;> first | (exfalso; omega) | skip)))
  refine K.s_pure (K.p_assert Tryz.underlying120 rfl rfl) rfl ?_
  (repeat' (first | refine X.rq ?_ | (refine X.rc ?_ ?_ <;> intro hc <;> first | (exfalso; omega) | skip)))
  refine K.l_alloc (Fx.zr rfl) rfl rfl (fun B3 => ?_)
  refine X.stw ?_
  simp only [List.set_cons_zero, List.set_cons_succ, List.eraseIdx_cons_zero, List.eraseIdx_cons_succ, List.cons_append, List.nil_append]
  (repeat' (first | refine X.rq ?_ | (refine X.rc ?_ ?_ <;> intro hc <;> first | (exfalso; omega) | skip)))
  refine X.draw ([blk B3 120 [.int .i64 e]]) [] (.pu 0 (.pu 1 (.st 2 (.on 3 (.on 4 .nil))))) ?_ (hQ := by repeat (first | with_reducible refine K.NoPanic.then ?_ | with_reducible refine K.NoPanic.inBlock ?_ | with_reducible exact K.post_noPanic _ _ | exact K.post_noPanic _ _ | exact K.QN_noPanic | exact K.postS_noPanic | exact K.postX_noPanic | exact K.RPX_noPanic))
  refine K.d_pu rfl (fun _ _ => X.mv) rfl ?_
  refine K.d_pu rfl (fun _ _ => X.fa) rfl ?_
  refine K.d_st rfl X.ld rfl ?_
  refine K.d_on rfl (fun KK hKK => ?_)
  refine X.sto ?_
  refine K.l_nil ?_
  refine X.onE hKK ?_
  refine K.d_on rfl (fun KK hKK => ?_)
  refine X.sto ?_
  refine K.l_nil ?_
  refine X.onE hKK ?_
  refine K.d_nil ?_
  simp only [List.set_cons_zero, List.set_cons_succ, List.eraseIdx_cons_zero, List.eraseIdx_cons_succ, List.cons_append, List.nil_append]
  refine K.AT.drop ?_
  exact K.a_postS (.inr rfl) rfl fun w ok => ⟨h, _, K.Base.le.refl _, ⟨rfl, rfl⟩, ok⟩
set_option maxHeartbeats 1000000 in
theorem TryM {α : Type} (h : Base) (g : FuncId) (caps : List Value) (Pre : List Asrt) (r : Except Int α) (Ret : α → Value → Base → List Asrt → Prop) (hcal : Callable Tryz.prog g) (hsh : ∀ a u h' H', Ret a u h' H' → ∃ (ao : Option Addr) (sn sc : Nat), u = .slice ao sn sc)
    (ht : TrX Tryz.prog g caps h Pre (fun v h' H' => ∃ a, r = .ok a ∧ Ret a v h' H') (UpE r)) : Tr Tryz.prog 59 [.func (.func g) #[] caps.toArray] h Pre (fun v h' H' => (∃ a u, r = .ok a ∧ v = .tuple #[u, .int .i64 0] ∧ Ret a u h' H') ∨ (∃ e, r = .error e ∧ v = .tuple #[(.slice none 0 0), .int .i64 e] ∧ H' = [])) := by
  refine K.enterD Tryz.func59 rfl (Nat.le_of_ble_eq_true rfl) (fun F => ?_)
  (repeat' (first | refine X.rq ?_ | (refine X.rc ?_ ?_ <;> intro hc <;> first | (exfalso; omega) | skip)))
  refine K.l_alloc (Fx.zr rfl) rfl rfl (fun B2 => ?_)
  refine K.l_alloc (Fx.zr rfl) rfl rfl (fun B3 => ?_)
  (repeat' (first | refine X.rq ?_ | (refine X.rc ?_ ?_ <;> intro hc <;> first | (exfalso; omega) | skip)))
  refine K.s_pure (K.p_makeFunc rfl) rfl ?_
  refine K.l_defer (fc := 98) (caps := [.pointer (some ⟨B2, 0, none⟩), .pointer (some ⟨B3, 0, none⟩)]) rfl ?_
  (repeat' (first | refine X.rq ?_ | (refine X.rc ?_ ?_ <;> intro hc <;> first | (exfalso; omega) | skip)))
  refine K.l_callXB (fst := []) (vals := []) (F := blk B3 24 [.int .i64 0] :: _ :: F) hcal rfl rfl (by simpa using ht) (by exact ((List.perm_middle (l₁ := Pre)).trans ((List.perm_middle (l₁ := Pre)).cons _)).symm) rfl ?_ ?_
  · rintro v h' H' hle ⟨rfl, e, rfl, he⟩
    refine K.a_then_panic ?_
    refine K.endD (.inr (.inr ⟨_, rfl⟩)) rfl (Fx.cal rfl) (CatchM h' B2 B3 _ _ e) (K.pp [1, 0] rfl) ?_
    rintro u' h1 H1 hle1 ⟨rfl, rfl, rfl⟩
    refine ⟨rfl, [(.slice none 0 0), .int .i64 e], [_, _], [], .cell1 rfl (Fx.agg rfl) (K.cel_own 0 rfl rfl) (.cell1 rfl (Fx.agg rfl) (K.cel_own 1 rfl rfl) .nil), rfl, hle, .inr ⟨e, he, rfl, rfl⟩⟩
  · rintro v h' H' hle ⟨a, ha, hR⟩
    obtain ⟨ao, sn, sc, rfl⟩ := hsh _ _ _ _ hR
    refine K.WL.perm (List.perm_append_comm (l₁ := H')) ?_
    simp only [List.set_cons_zero, List.set_cons_succ, List.eraseIdx_cons_zero, List.eraseIdx_cons_succ, List.cons_append, List.nil_append]
    refine X.sto ?_
    simp only [List.set_cons_zero, List.set_cons_succ, List.eraseIdx_cons_zero, List.eraseIdx_cons_succ, List.cons_append, List.nil_append]
    refine X.sto ?_
    simp only [List.set_cons_zero, List.set_cons_succ, List.eraseIdx_cons_zero, List.eraseIdx_cons_succ, List.cons_append, List.nil_append]
    (repeat' (first | refine X.rq ?_ | (refine X.rc ?_ ?_ <;> intro hc <;> first | (exfalso; omega) | skip)))
    refine K.endD (F := _ :: _ :: (H' ++ F)) (.inl rfl) rfl (Fx.cal rfl) (IdleM h' B2 B3) (((List.perm_append_comm (l₁ := F)).cons _).cons _) ?_
    rintro u' h1 H1 hle1 ⟨rfl, rfl, rfl⟩
    exact ⟨rfl, [_, _], [_, _], H', .cell1 rfl (Fx.agg rfl) (K.cel_own 1 rfl rfl) (.cell1 rfl (Fx.agg rfl) (K.cel_own 0 rfl rfl) .nil), rfl, hle, .inl ⟨a, _, ha, rfl, hR⟩⟩

theorem none_page {n : Nat} {p : Pag} (h : pageQ none n = .ok p) : False := by
  unfold pageQ at h
  split at h <;> cases h
theorem none_way {n : Nat} (s : List UInt8) (k : Nat) (h : ¬ n = 0) : wayQ none s k n = .error 1 := way_err (pageQ_none h)
theorem none_few : FewG none := fun l hl => by
  cases l with
  | nil => exact Nat.zero_le _
  | cons n l =>
    obtain ⟨p, hp⟩ := hl.2 n (List.mem_cons_self ..)
    exact (none_page hp).elim
theorem none_all {S : Type} {vis : S → Nat → Pag → Plc → Except Int S} {st : S} {n : Nat} (h : ¬ n = 0) : allQ none vis st n = .error 1 := by
  unfold allQ
  rw [if_neg h, walkQ, if_neg (by simp), pageQ_none h]
theorem none_start {n : Nat} {s : List UInt8} (h : ¬ n = 0) (hs : isEntryQ s = true) : startQ none [n] s = .error 1 := by
  unfold startQ
  rw [if_neg (by simp [h, hs]), List.headD_cons, none_way s 7 h]
set_option maxHeartbeats 1000000 in
theorem SplitC0 (h : Base) (n : Nat) (v : Value) (s : List UInt8) (fv : Value) (B0 B1 B2 B3 : Nat) (hn : ¬ n = 0) (hs : isEntryQ s = true) (hv : U32s h v [n]) :
    TrX Tryz.prog 60 [.pointer (some ⟨B0, 0, none⟩), .pointer (some ⟨B1, 0, none⟩), .pointer (some ⟨B2, 0, none⟩), .pointer (some ⟨B3, 0, none⟩)] h [blk B0 77 [.nilFunc], blk B1 35 [v], blk B2 9 [txt s], blk B3 35 [fv]]
      (fun v h' H' => ∃ l : Unit, (Except.error 1 : Except Int Unit) = .ok l ∧ (H' = [] ∧ ∃ (ao : Option Addr) (sn sc : Nat), v = .slice ao sn sc)) (UpE (Except.error 1 : Except Int Unit)) := by
  have hg : GetV h .nilFunc none := rfl
  obtain ⟨ao, ca, rfl⟩ := hv.len
  refine K.enterX Tryz.func60 rfl (Nat.le_of_ble_eq_true rfl) (fun F => ?_)
  simp only [List.cons_append, List.nil_append]
  (repeat' (first | refine X.rq ?_ | (refine X.rc ?_ ?_ <;> intro hc <;> first | (exfalso; omega) | skip)))
  refine K.l_callX (Fx.cal rfl) rfl (Start h .nilFunc none _ [n] s hg hv (by simp)) (K.pp [] rfl) rfl ?_ ?_
  · rintro v h' H' hle ⟨rfl, e, rfl, he⟩
    repeat (first | with_reducible refine K.a_then_panic ?_ | with_reducible refine K.a_block_panic ?_)
    rw [none_start hn hs] at he
    cases he
    exact K.upXD (D := [_, _, _, _]) (H' := []) hle rfl ⟨rfl, 1, rfl, rfl⟩
  rintro v h' H' hle ⟨rfl, hq⟩
  rw [none_start hn hs] at hq
  cases hq
set_option maxHeartbeats 1000000 in
theorem SplitNo (h : Base) (n : Nat) (v : Value) (s : List UInt8) (hn : ¬ n = 0) (hs : isEntryQ s = true) (hv : U32s h v [n]) :
    Tr Tryz.prog 25 [.nilFunc, v, txt s, .slice none 0 0] h [] (fun u h' H' => H' = [] ∧ u = .tuple #[.slice none 0 0, .int .i64 1]) := by
  have hv0 := hv
  obtain ⟨ao, ca, rfl⟩ := hv.len
  refine K.enter Tryz.func25 rfl (Nat.le_of_ble_eq_true rfl) (fun F => ?_)
  (repeat' (first | refine X.rq ?_ | (refine X.rc ?_ ?_ <;> intro hc <;> first | (exfalso; omega) | skip)))
  refine K.l_box rfl rfl rfl (fun B0 => ?_)
  refine K.l_box rfl rfl rfl (fun B1 => ?_)
  refine K.l_box rfl rfl rfl (fun B2 => ?_)
  refine K.l_box rfl rfl rfl (fun B3 => ?_)
  simp only [List.set_cons_zero, List.set_cons_succ, List.eraseIdx_cons_zero, List.eraseIdx_cons_succ, List.cons_append, List.nil_append]
  (repeat' (first | refine X.rq ?_ | (refine X.rc ?_ ?_ <;> intro hc <;> first | (exfalso; omega) | skip)))
  refine K.s_pure (K.p_makeFunc rfl) rfl ?_
  have ht := TryM h 60 _ _ _ _ (Fx.cal rfl) (fun l u h' H' hr => hr.2) (SplitC0 h n _ s (.slice none 0 0) B0 B1 B2 B3 hn hs hv0)
  refine K.l_call (F := F) (Fx.cal rfl) rfl ht (K.pp [3, 2, 1, 0] rfl) rfl ?_
  rintro v h' H' hle (⟨l, u, hr, _⟩ | ⟨e, hr, rfl, rfl⟩)
  · cases hr
  · cases hr
    simp only [List.set_cons_zero, List.set_cons_succ, List.eraseIdx_cons_zero, List.eraseIdx_cons_succ, List.cons_append, List.nil_append]
    (repeat' (first | refine X.rq ?_ | (refine X.rc ?_ ?_ <;> intro hc <;> first | (exfalso; omega) | skip)))
    exact K.doneC (vs := [.slice none 0 0, .int .i64 1]) (by first | exact Or.inl rfl | exact Or.inr rfl) (.tmp rfl (.tmp rfl .nil)) hle (D := []) (H' := []) rfl ⟨rfl, rfl⟩
set_option maxHeartbeats 1000000 in
theorem PagesC0 (h : Base) (root : Nat) (B0 B1 : Nat) (hr0 : ¬ root = 0) (hr : root < 4294967296) :
    TrX Tryz.prog 42 [.pointer (some ⟨B0, 0, none⟩), .pointer (some ⟨B1, 0, none⟩)] h [blk B0 77 [.nilFunc], blk B1 23 [uV root]]
      (fun v h' H' => ∃ l : Unit, (Except.error 1 : Except Int Unit) = .ok l ∧ (H' = [] ∧ ∃ (ao : Option Addr) (sn sc : Nat), v = .slice ao sn sc)) (UpE (Except.error 1 : Except Int Unit)) := by
  refine K.enterX Tryz.func42 rfl (Nat.le_of_ble_eq_true rfl) (fun F => ?_)
  simp only [List.cons_append, List.nil_append]
  (repeat' (first | refine X.rq ?_ | (refine X.rc ?_ ?_ <;> intro hc <;> first | (exfalso; omega) | skip)))
  refine K.l_alloc (Fx.zr rfl) rfl rfl (fun BL => ?_)
  (repeat' (first | refine X.rq ?_ | (refine X.rc ?_ ?_ <;> intro hc <;> first | (exfalso; omega) | skip)))
  refine K.s_pure (K.p_makeFunc rfl) rfl ?_
  refine K.l_callX (Fx.cal rfl) rfl (GAll (S := Unit) none (fun _ _ _ A => A = blk BL 35 [.slice none 0 0]) (fun _ _ _ _ => .ok ()) 43 _ (Fx.cal rfl) (fun seen st h h' A hle e => e) (fun h seen st A n p cs x a b c d e f => (none_page c).elim) h .nilFunc root () _ rfl hr rfl) (K.pp [0] rfl) rfl ?_ ?_
  · rintro v h' H' hle ⟨rfl, e, rfl, he⟩
    repeat (first | with_reducible refine K.a_then_panic ?_ | with_reducible refine K.a_block_panic ?_)
    rw [none_all hr0] at he
    cases he
    exact K.upXD (D := [_, _]) (H' := []) hle rfl ⟨rfl, 1, rfl, rfl⟩
  rintro v h1 H' hle ⟨q, A', he, _⟩
  rw [none_all hr0] at he
  cases he
set_option maxHeartbeats 1000000 in
theorem PagesNo (h : Base) (root : Nat) (hr0 : ¬ root = 0) (hr : root < 4294967296) :
    Tr Tryz.prog 13 [.nilFunc, uV root] h [] (fun u h' H' => H' = [] ∧ u = .tuple #[.slice none 0 0, .int .i64 1]) := by
  refine K.enter Tryz.func13 rfl (Nat.le_of_ble_eq_true rfl) (fun F => ?_)
  (repeat' (first | refine X.rq ?_ | (refine X.rc ?_ ?_ <;> intro hc <;> first | (exfalso; omega) | skip)))
  refine K.l_box rfl rfl rfl (fun B0 => ?_)
  refine K.l_box rfl rfl rfl (fun B1 => ?_)
  simp only [List.set_cons_zero, List.set_cons_succ, List.eraseIdx_cons_zero, List.eraseIdx_cons_succ, List.cons_append, List.nil_append]
  (repeat' (first | refine X.rq ?_ | (refine X.rc ?_ ?_ <;> intro hc <;> first | (exfalso; omega) | skip)))
  refine K.s_pure (K.p_makeFunc rfl) rfl ?_
  have ht := TryU h 42 _ _ _ _ (Fx.cal rfl) (fun l u h' H' hr => hr.2) (PagesC0 h root B0 B1 hr0 hr)
  refine K.l_call (F := F) (Fx.cal rfl) rfl ht (K.pp [1, 0] rfl) rfl ?_
  rintro v h' H' hle (⟨l, u, hr, _⟩ | ⟨e, hr, rfl, rfl⟩)
  · cases hr
  · cases hr
    simp only [List.set_cons_zero, List.set_cons_succ, List.eraseIdx_cons_zero, List.eraseIdx_cons_succ, List.cons_append, List.nil_append]
    (repeat' (first | refine X.rq ?_ | (refine X.rc ?_ ?_ <;> intro hc <;> first | (exfalso; omega) | skip)))
    exact K.doneC (vs := [.slice none 0 0, .int .i64 1]) (by first | exact Or.inl rfl | exact Or.inr rfl) (.tmp rfl (.tmp rfl .nil)) hle (D := []) (H' := []) rfl ⟨rfl, rfl⟩
theorem way_no {h : Base} {r : Except Int (List Nat)} {v : Value} {e : Int} (hw : WayR h r v) (hr : r = .error e) : ∃ sv, v = .tuple #[sv, .int .i64 e] ∧ U32s h sv [] := by
  obtain ⟨sv, l', e', rfl, hu, ⟨rfl, h1⟩ | ⟨h1, rfl⟩⟩ := hw
  · rw [hr] at h1; cases h1
  · rw [hr] at h1; cases h1; exact ⟨sv, rfl, hu⟩
theorem seek_no {r : Except Int (Nat × Int)} {v : Value} {e : Int} (hw : SeekR r v) (hr : r = .error e) : v = .tuple #[uV 0, .int .i64 0, .int .i64 e] := by
  obtain ⟨n', i', e', rfl, hn, ⟨rfl, h1⟩ | ⟨h1, rfl, rfl⟩⟩ := hw
  · rw [hr] at h1; cases h1
  · rw [hr] at h1; cases h1; rfl
theorem cells_no {r : Except Int (List PCell)} {v : Value} {h : Base} {H : List Asrt} {e : Int} (hw : CellsR r v h H) (hr : r = .error e) : ∃ u, v = .tuple #[u, .int .i64 e] ∧ RowO h [] u H := by
  obtain ⟨u, l', e', rfl, ho, ⟨h1, rfl⟩ | ⟨h1, rfl⟩⟩ := hw
  · rw [hr] at h1; cases h1
  · rw [hr] at h1; cases h1; exact ⟨u, rfl, ho⟩
set_option maxHeartbeats 4000000 in
theorem NodeNobodyW (h : Base) (root : Nat) (s : List UInt8) (hr : root < 4294967296) :
    Tr Tryz.prog 5 [uV root, txt s] h [] (fun u h' H' => u = .bool true ∧ H' = []) := by
  refine K.enter Tryz.func5 rfl (Nat.le_of_ble_eq_true rfl) (fun F => ?_)
  simp only [List.nil_append]
  by_cases h0 : root = 0
  · (repeat' (first | refine X.rq ?_ | (refine X.rc ?_ ?_ <;> intro hc <;> first | (exfalso; omega) | skip)))
    refine K.l_call (Fx.cal rfl) rfl (Alive h) (K.pp [] rfl) rfl ?_
    rintro v h2 H' le2 ⟨rfl, rfl⟩
    simp only [List.set_cons_zero, List.set_cons_succ, List.eraseIdx_cons_zero, List.eraseIdx_cons_succ, List.cons_append, List.nil_append]
    (repeat' (first | refine X.rq ?_ | (refine X.rc ?_ ?_ <;> intro hc <;> first | (exfalso; omega) | skip)))
    exact K.doneC (vs := [.bool true]) (by first | exact Or.inl rfl | exact Or.inr rfl) (.tmp rfl .nil) le2 (D := []) (H' := []) rfl ⟨rfl, rfl⟩
  (repeat' (first | refine X.rq ?_ | (refine X.rc ?_ ?_ <;> intro hc <;> first | (exfalso; omega) | skip)))
  try refine K.s_take rfl rfl ?_
  refine K.l_callV (Fx.cal rfl) rfl (RIsEntry h s) (K.pp [] rfl) rfl rfl ?_
  simp only [List.set_cons_zero, List.set_cons_succ, List.eraseIdx_cons_zero, List.eraseIdx_cons_succ, List.cons_append, List.nil_append]
  cases hs : isEntryQ s with
  | false =>
    (repeat' (first | refine X.rq ?_ | (refine X.rc ?_ ?_ <;> intro hc <;> first | (exfalso; omega) | skip)))
    refine K.l_call (Fx.cal rfl) rfl (Alive h) (K.pp [] rfl) rfl ?_
    rintro v h2 H' le2 ⟨rfl, rfl⟩
    simp only [List.set_cons_zero, List.set_cons_succ, List.eraseIdx_cons_zero, List.eraseIdx_cons_succ, List.cons_append, List.nil_append]
    (repeat' (first | refine X.rq ?_ | (refine X.rc ?_ ?_ <;> intro hc <;> first | (exfalso; omega) | skip)))
    exact K.doneC (vs := [.bool true]) (by first | exact Or.inl rfl | exact Or.inr rfl) (.tmp rfl .nil) le2 (D := []) (H' := []) rfl ⟨rfl, rfl⟩
  | true =>
    (repeat' (first | refine X.rq ?_ | (refine X.rc ?_ ?_ <;> intro hc <;> first | (exfalso; omega) | skip)))
    have q1 : pathQ none root s = .error 1 := by rw [path_go h0 hs, none_way s 7 h0]
    have q2 : seekQ none root s = .error 1 := by rw [seekQ, if_neg h0, seekW, none_way s 7 h0]
    have q3 : needsQ none [root] s = .error 1 := by rw [needsQ, none_start h0 hs]
    have q4 : cellsQ none root = .error 1 := by rw [cellsQ, none_all h0]
    have q5 : checkQ none root = .error 1 := by rw [checkQ, none_all h0]
    refine K.l_call (Fx.cal rfl) rfl (Path h .nilFunc none root s rfl hr) (K.pp [] rfl) rfl ?_
    rintro v h1 H' le1 ⟨rfl, hw⟩
    obtain ⟨sv, rfl, hu⟩ := way_no hw q1
    obtain ⟨ao2, ca2, rfl⟩ := hu.len
    simp only [List.set_cons_zero, List.set_cons_succ, List.eraseIdx_cons_zero, List.eraseIdx_cons_succ, List.cons_append, List.nil_append]
    (repeat' (first | refine X.rq ?_ | (refine X.rc ?_ ?_ <;> intro hc <;> first | (exfalso; omega) | skip)))
    refine K.l_call (Fx.cal rfl) rfl (Seek h1 .nilFunc none root s rfl hr) (K.pp [] rfl) rfl ?_
    rintro v h2 H' le2 ⟨rfl, hw⟩
    obtain rfl := seek_no hw q2
    simp only [List.set_cons_zero, List.set_cons_succ, List.eraseIdx_cons_zero, List.eraseIdx_cons_succ, List.cons_append, List.nil_append]
    (repeat' (first | refine X.rq ?_ | (refine X.rc ?_ ?_ <;> intro hc <;> first | (exfalso; omega) | skip)))
    refine K.l_buildSlice (Fx.und rfl) (Fx.sz rfl) rfl (Fx.zr rfl) rfl rfl rfl rfl rfl (fun B3 => ?_)
    refine K.WL.bufOf (m := 1) (s := 1) rfl (by unfold maxLen; omega) ?_
    refine K.WL.freezeRowN (es := [[uV root]]) rfl (fun e he => by rw [List.mem_singleton.1 he]; rfl) (fun h3 le3 hs3 => ?_)
    have hu3 : U32s h3 (.slice (some ⟨B3, 0, none⟩) 1 1) [root] := ⟨hs3, fun x hx => by rw [List.mem_singleton.1 hx]; exact hr⟩
    (repeat' (first | refine X.rq ?_ | (refine X.rc ?_ ?_ <;> intro hc <;> first | (exfalso; omega) | skip)))
    refine K.l_call (Fx.cal rfl) rfl (Needs h3 .nilFunc none _ [root] s rfl hu3 (by simp)) (K.pp [] rfl) rfl ?_
    rintro v h4 H' le4 ⟨rfl, hw⟩
    obtain rfl := need_no hw q3
    simp only [List.set_cons_zero, List.set_cons_succ, List.eraseIdx_cons_zero, List.eraseIdx_cons_succ, List.cons_append, List.nil_append]
    (repeat' (first | refine X.rq ?_ | (refine X.rc ?_ ?_ <;> intro hc <;> first | (exfalso; omega) | skip)))
    refine K.l_buildSlice (Fx.und rfl) (Fx.sz rfl) rfl (Fx.zr rfl) rfl rfl rfl rfl rfl (fun B5 => ?_)
    refine K.WL.bufOf (m := 1) (s := 1) rfl (by unfold maxLen; omega) ?_
    refine K.WL.freezeRowN (es := [[uV root]]) rfl (fun e he => by rw [List.mem_singleton.1 he]; rfl) (fun h5 le5 hs5 => ?_)
    have hu5 : U32s h5 (.slice (some ⟨B5, 0, none⟩) 1 1) [root] := ⟨hs5, fun x hx => by rw [List.mem_singleton.1 hx]; exact hr⟩
    (repeat' (first | refine X.rq ?_ | (refine X.rc ?_ ?_ <;> intro hc <;> first | (exfalso; omega) | skip)))
    refine K.l_call (Fx.cal rfl) rfl (SplitNo h5 root _ s h0 hs hu5) (K.pp [] rfl) rfl ?_
    rintro v h6 H' le6 ⟨rfl, rfl⟩
    simp only [List.set_cons_zero, List.set_cons_succ, List.eraseIdx_cons_zero, List.eraseIdx_cons_succ, List.cons_append, List.nil_append]
    (repeat' (first | refine X.rq ?_ | (refine X.rc ?_ ?_ <;> intro hc <;> first | (exfalso; omega) | skip)))
    refine K.l_call (Fx.cal rfl) rfl (All h6 .nilFunc none none_few root rfl hr) (K.pp [] rfl) rfl ?_
    rintro v h7 H' le7 hw
    obtain ⟨u7, rfl, a7, k7, e7, rfl, hr7, rfl⟩ := cells_no hw q4
    simp only [List.set_cons_zero, List.set_cons_succ, List.eraseIdx_cons_zero, List.eraseIdx_cons_succ, List.cons_append, List.nil_append]
    (repeat' (first | refine X.rq ?_ | (refine X.rc ?_ ?_ <;> intro hc <;> first | (exfalso; omega) | skip)))
    refine K.l_call (Fx.cal rfl) rfl (PagesNo h7 root h0 hr) (K.pp [] rfl) rfl ?_
    rintro v h8 H' le8 ⟨rfl, rfl⟩
    simp only [List.set_cons_zero, List.set_cons_succ, List.eraseIdx_cons_zero, List.eraseIdx_cons_succ, List.cons_append, List.nil_append]
    (repeat' (first | refine X.rq ?_ | (refine X.rc ?_ ?_ <;> intro hc <;> first | (exfalso; omega) | skip)))
    try refine K.s_take rfl rfl ?_
    refine K.l_call (Fx.cal rfl) rfl (Check h8 .nilFunc none none_few root rfl hr) (K.pp [] rfl) rfl ?_
    rintro v h9 H' le9 ⟨rfl, rfl⟩
    rw [q5]
    dsimp only [errOf]
    simp only [List.set_cons_zero, List.set_cons_succ, List.eraseIdx_cons_zero, List.eraseIdx_cons_succ, List.cons_append, List.nil_append]
    (repeat' (first | refine X.rq ?_ | (refine X.rc ?_ ?_ <;> intro hc <;> first | (exfalso; omega) | skip)))
    try refine K.s_take rfl rfl ?_
    refine K.l_call (Fx.cal rfl) rfl (Alive h9) (K.pp [] rfl) rfl ?_
    rintro v h10 H' le10 ⟨rfl, rfl⟩
    simp only [List.set_cons_zero, List.set_cons_succ, List.eraseIdx_cons_zero, List.eraseIdx_cons_succ, List.cons_append, List.nil_append]
    (repeat' (first | refine X.rq ?_ | (refine X.rc ?_ ?_ <;> intro hc <;> first | (exfalso; omega) | skip)))
    have leA := le1.trans (le2.trans (le3.trans (le4.trans (le5.trans (le6.trans (le7.trans (le8.trans (le9.trans le10))))))))
    exact K.doneC (vs := [.bool true]) (by first | exact Or.inl rfl | exact Or.inr rfl) (.tmp rfl .nil) leA (D := [_]) (H' := []) rfl ⟨rfl, rfl⟩
theorem NodeNobodyB (h : Base) (root : Nat) (s : ByteArray) (hr : root < 4294967296) :
    Tr Tryz.prog 5 [uV root, .string s] h [] (fun u h' H' => u = .bool true ∧ H' = []) := by
  have := NodeNobodyW h root s.data.toList hr
  rwa [show txt s.data.toList = Value.string s from by cases s; simp [txt]] at this
end Go.Proofs.YtahdbncfegedjaaGreat.Nd
