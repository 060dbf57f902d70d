/-
  Trees of pages: what comes up is caught; the way told. Conditions: each theorem's own.
-/
import Derived.Test.YtahdbncfegedjaaXe

namespace Go.Proofs.Ytahdbncfegedjaa.Nd
open Go Go.K Go.Proofs Go.Proofs.Ytahdbncfegedjaa Go.Proofs.Ytahdbncfegedjaa.Pg
set_option linter.unusedVariables false
set_option linter.unusedSimpArgs false
set_option maxRecDepth 10000

theorem IdleU (h : Base) (b2 b3 : Nat) : TrD Try.prog 52 [.pointer (some ⟨b2, 0, none⟩), .pointer (some ⟨b3, 0, none⟩)] .returning h [] (fun u' h' H' => u' = .returning ∧ (h' = h ∧ H' = [])) := by
  refine K.trD_of Try.func52 rfl (Nat.le_of_ble_eq_true rfl) rfl rfl (.inl ⟨rfl, rfl, rfl⟩) (fun F => ?_)
  (repeat' (first | refine X.rq ?_ | (refine X.rc ?_ ?_ <;> intro hc <;> first | (exfalso; omega) | skip)))
  refine K.s_pure (K.p_neI0 Try.underlying20 rfl rfl) rfl ?_
  (repeat' (first | refine X.rq ?_ | (refine X.rc ?_ ?_ <;> intro hc <;> first | (exfalso; omega) | skip)))
  exact K.a_postS (.inr rfl) rfl fun w ok => ⟨h, [], K.Base.le.refl _, ⟨rfl, rfl⟩, ok⟩
set_option maxHeartbeats 1000000 in
theorem CatchU (h : Base) (b2 b3 : Nat) (T T3 : TypeId) (e : Int) : TrD Try.prog 52 [.pointer (some ⟨b2, 0, none⟩), .pointer (some ⟨b3, 0, none⟩)] (.panicking (up1 (failV e))) h [blk b2 T [(.slice none 0 0)], blk b3 T3 [.int .i64 0]] (fun u' h' H' => u' = .panicking [{ v := failV e, recovered := true }] ∧ (h' = h ∧ H' = [blk b2 T [(.slice none 0 0)], blk b3 T3 [.int .i64 e]])) := by
  refine K.trD_of Try.func52 rfl (Nat.le_of_ble_eq_true rfl) rfl rfl (.inr ⟨[], rfl, rfl⟩) (fun F => ?_)
  (repeat' (first | refine X.rq ?_ | (refine X.rc ?_ ?_ <;> intro hc <;> first | (exfalso; omega) | skip)))
  refine K.s_pure (K.p_neI Try.underlying20 rfl rfl rfl) rfl ?_
  (repeat' (first | refine X.rq ?_ | (refine X.rc ?_ ?_ <;> intro hc <;> first | (exfalso; omega) | skip)))
  refine K.s_pure (K.p_assert Try.underlying75 rfl rfl) rfl ?_
  (repeat' (first | refine X.rq ?_ | (refine X.rc ?_ ?_ <;> intro hc <;> first | (exfalso; omega) | skip)))
  refine K.l_alloc (Fx.zr rfl) rfl rfl (fun B3 => ?_)
  refine X.stw ?_
  simp only [List.set_cons_zero, List.set_cons_succ, List.eraseIdx_cons_zero, List.eraseIdx_cons_succ, List.cons_append, List.nil_append]
  (repeat' (first | refine X.rq ?_ | (refine X.rc ?_ ?_ <;> intro hc <;> first | (exfalso; omega) | skip)))
  refine X.draw ([blk B3 75 [.int .i64 e]]) [] (.pu 0 (.pu 1 (.st 2 (.on 3 (.on 4 .nil))))) ?_ (hQ := by repeat (first | with_reducible refine K.NoPanic.then ?_ | with_reducible refine K.NoPanic.inBlock ?_ | with_reducible exact K.post_noPanic _ _ | exact K.post_noPanic _ _ | exact K.QN_noPanic | exact K.postS_noPanic | exact K.postX_noPanic | exact K.RPX_noPanic))
  refine K.d_pu rfl (fun _ _ => X.mv) rfl ?_
  refine K.d_pu rfl (fun _ _ => X.fa) rfl ?_
  refine K.d_st rfl X.ld rfl ?_
  refine K.d_on rfl (fun KK hKK => ?_)
  refine X.sto ?_
  refine K.l_nil ?_
  refine X.onE hKK ?_
  refine K.d_on rfl (fun KK hKK => ?_)
  refine X.sto ?_
  refine K.l_nil ?_
  refine X.onE hKK ?_
  refine K.d_nil ?_
  simp only [List.set_cons_zero, List.set_cons_succ, List.eraseIdx_cons_zero, List.eraseIdx_cons_succ, List.cons_append, List.nil_append]
  refine K.AT.drop ?_
  exact K.a_postS (.inr rfl) rfl fun w ok => ⟨h, _, K.Base.le.refl _, ⟨rfl, rfl⟩, ok⟩
set_option maxHeartbeats 1000000 in
theorem TryU {α : Type} (h : Base) (g : FuncId) (caps : List Value) (Pre : List Asrt) (r : Except Int α) (Ret : α → Value → Base → List Asrt → Prop) (hcal : Callable Try.prog g) (hsh : ∀ a u h' H', Ret a u h' H' → ∃ (ao : Option Addr) (sn sc : Nat), u = .slice ao sn sc)
    (ht : TrX Try.prog g caps h Pre (fun v h' H' => ∃ a, r = .ok a ∧ Ret a v h' H') (UpE r)) : Tr Try.prog 24 [.func (.func g) #[] caps.toArray] h Pre (fun v h' H' => (∃ a u, r = .ok a ∧ v = .tuple #[u, .int .i64 0] ∧ Ret a u h' H') ∨ (∃ e, r = .error e ∧ v = .tuple #[(.slice none 0 0), .int .i64 e] ∧ H' = [])) := by
  refine K.enterD Try.func24 rfl (Nat.le_of_ble_eq_true rfl) (fun F => ?_)
  (repeat' (first | refine X.rq ?_ | (refine X.rc ?_ ?_ <;> intro hc <;> first | (exfalso; omega) | skip)))
  refine K.l_alloc (Fx.zr rfl) rfl rfl (fun B2 => ?_)
  refine K.l_alloc (Fx.zr rfl) rfl rfl (fun B3 => ?_)
  (repeat' (first | refine X.rq ?_ | (refine X.rc ?_ ?_ <;> intro hc <;> first | (exfalso; omega) | skip)))
  refine K.s_pure (K.p_makeFunc rfl) rfl ?_
  refine K.l_defer (fc := 52) (caps := [.pointer (some ⟨B2, 0, none⟩), .pointer (some ⟨B3, 0, none⟩)]) rfl ?_
  (repeat' (first | refine X.rq ?_ | (refine X.rc ?_ ?_ <;> intro hc <;> first | (exfalso; omega) | skip)))
  refine K.l_callXB (fst := []) (vals := []) (F := blk B3 24 [.int .i64 0] :: _ :: F) hcal rfl rfl (by simpa using ht) (by exact ((List.perm_middle (l₁ := Pre)).trans ((List.perm_middle (l₁ := Pre)).cons _)).symm) rfl ?_ ?_
  · rintro v h' H' hle ⟨rfl, e, rfl, he⟩
    refine K.a_then_panic ?_
    refine K.endD (.inr (.inr ⟨_, rfl⟩)) rfl (Fx.cal rfl) (CatchU h' B2 B3 _ _ e) (K.pp [1, 0] rfl) ?_
    rintro u' h1 H1 hle1 ⟨rfl, rfl, rfl⟩
    refine ⟨rfl, [(.slice none 0 0), .int .i64 e], [_, _], [], .cell1 rfl (Fx.agg rfl) (K.cel_own 0 rfl rfl) (.cell1 rfl (Fx.agg rfl) (K.cel_own 1 rfl rfl) .nil), rfl, hle, .inr ⟨e, he, rfl, rfl⟩⟩
  · rintro v h' H' hle ⟨a, ha, hR⟩
    obtain ⟨ao, sn, sc, rfl⟩ := hsh _ _ _ _ hR
    refine K.WL.perm (List.perm_append_comm (l₁ := H')) ?_
    simp only [List.set_cons_zero, List.set_cons_succ, List.eraseIdx_cons_zero, List.eraseIdx_cons_succ, List.cons_append, List.nil_append]
    refine X.sto ?_
    simp only [List.set_cons_zero, List.set_cons_succ, List.eraseIdx_cons_zero, List.eraseIdx_cons_succ, List.cons_append, List.nil_append]
    refine X.sto ?_
    simp only [List.set_cons_zero, List.set_cons_succ, List.eraseIdx_cons_zero, List.eraseIdx_cons_succ, List.cons_append, List.nil_append]
    (repeat' (first | refine X.rq ?_ | (refine X.rc ?_ ?_ <;> intro hc <;> first | (exfalso; omega) | skip)))
    refine K.endD (F := _ :: _ :: (H' ++ F)) (.inl rfl) rfl (Fx.cal rfl) (IdleU h' B2 B3) (((List.perm_append_comm (l₁ := F)).cons _).cons _) ?_
    rintro u' h1 H1 hle1 ⟨rfl, rfl, rfl⟩
    exact ⟨rfl, [_, _], [_, _], H', .cell1 rfl (Fx.agg rfl) (K.cel_own 1 rfl rfl) (.cell1 rfl (Fx.agg rfl) (K.cel_own 0 rfl rfl) .nil), rfl, hle, .inl ⟨a, _, ha, rfl, hR⟩⟩
theorem IdleI (h : Base) (b2 b3 : Nat) : TrD Try.prog 60 [.pointer (some ⟨b2, 0, none⟩), .pointer (some ⟨b3, 0, none⟩)] .returning h [] (fun u' h' H' => u' = .returning ∧ (h' = h ∧ H' = [])) := by
  refine K.trD_of Try.func60 rfl (Nat.le_of_ble_eq_true rfl) rfl rfl (.inl ⟨rfl, rfl, rfl⟩) (fun F => ?_)
  (repeat' (first | refine X.rq ?_ | (refine X.rc ?_ ?_ <;> intro hc <;> first | (exfalso; omega) | skip)))
  refine K.s_pure (K.p_neI0 Try.underlying20 rfl rfl) rfl ?_
  (repeat' (first | refine X.rq ?_ | (refine X.rc ?_ ?_ <;> intro hc <;> first | (exfalso; omega) | skip)))
  exact K.a_postS (.inr rfl) rfl fun w ok => ⟨h, [], K.Base.le.refl _, ⟨rfl, rfl⟩, ok⟩
set_option maxHeartbeats 1000000 in
theorem CatchI (h : Base) (b2 b3 : Nat) (T T3 : TypeId) (e : Int) : TrD Try.prog 60 [.pointer (some ⟨b2, 0, none⟩), .pointer (some ⟨b3, 0, none⟩)] (.panicking (up1 (failV e))) h [blk b2 T [(.int .i64 0)], blk b3 T3 [.int .i64 0]] (fun u' h' H' => u' = .panicking [{ v := failV e, recovered := true }] ∧ (h' = h ∧ H' = [blk b2 T [(.int .i64 0)], blk b3 T3 [.int .i64 e]])) := by
  refine K.trD_of Try.func60 rfl (Nat.le_of_ble_eq_true rfl) rfl rfl (.inr ⟨[], rfl, rfl⟩) (fun F => ?_)
  (repeat' (first | refine X.rq ?_ | (refine X.rc ?_ ?_ <;> intro hc <;> first | (exfalso; omega) | skip)))
  refine K.s_pure (K.p_neI Try.underlying20 rfl rfl rfl) rfl ?_
  (repeat' (first | refine X.rq ?_ | (refine X.rc ?_ ?_ <;> intro hc <;> first | (exfalso; omega) | skip)))
  refine K.s_pure (K.p_assert Try.underlying75 rfl rfl) rfl ?_
  (repeat' (first | refine X.rq ?_ | (refine X.rc ?_ ?_ <;> intro hc <;> first | (exfalso; omega) | skip)))
  refine K.l_alloc (Fx.zr rfl) rfl rfl (fun B3 => ?_)
  refine X.stw ?_
  simp only [List.set_cons_zero, List.set_cons_succ, List.eraseIdx_cons_zero, List.eraseIdx_cons_succ, List.cons_append, List.nil_append]
  (repeat' (first | refine X.rq ?_ | (refine X.rc ?_ ?_ <;> intro hc <;> first | (exfalso; omega) | skip)))
  refine X.draw ([blk B3 75 [.int .i64 e]]) [] (.pu 0 (.pu 1 (.st 2 (.on 3 (.on 4 .nil))))) ?_ (hQ := by repeat (first | with_reducible refine K.NoPanic.then ?_ | with_reducible refine K.NoPanic.inBlock ?_ | with_reducible exact K.post_noPanic _ _ | exact K.post_noPanic _ _ | exact K.QN_noPanic | exact K.postS_noPanic | exact K.postX_noPanic | exact K.RPX_noPanic))
  refine K.d_pu rfl (fun _ _ => X.mv) rfl ?_
  refine K.d_pu rfl (fun _ _ => X.fa) rfl ?_
  refine K.d_st rfl X.ld rfl ?_
  refine K.d_on rfl (fun KK hKK => ?_)
  refine X.sto ?_
  refine K.l_nil ?_
  refine X.onE hKK ?_
  refine K.d_on rfl (fun KK hKK => ?_)
  refine X.sto ?_
  refine K.l_nil ?_
  refine X.onE hKK ?_
  refine K.d_nil ?_
  simp only [List.set_cons_zero, List.set_cons_succ, List.eraseIdx_cons_zero, List.eraseIdx_cons_succ, List.cons_append, List.nil_append]
  refine K.AT.drop ?_
  exact K.a_postS (.inr rfl) rfl fun w ok => ⟨h, _, K.Base.le.refl _, ⟨rfl, rfl⟩, ok⟩
set_option maxHeartbeats 1000000 in
theorem TryI {α : Type} (h : Base) (g : FuncId) (caps : List Value) (Pre : List Asrt) (r : Except Int α) (Ret : α → Value → Base → List Asrt → Prop) (hcal : Callable Try.prog g) (hsh : ∀ a u h' H', Ret a u h' H' → ∃ z, u = .int .i64 z)
    (ht : TrX Try.prog g caps h Pre (fun v h' H' => ∃ a, r = .ok a ∧ Ret a v h' H') (UpE r)) : Tr Try.prog 37 [.func (.func g) #[] caps.toArray] h Pre (fun v h' H' => (∃ a u, r = .ok a ∧ v = .tuple #[u, .int .i64 0] ∧ Ret a u h' H') ∨ (∃ e, r = .error e ∧ v = .tuple #[(.int .i64 0), .int .i64 e] ∧ H' = [])) := by
  refine K.enterD Try.func37 rfl (Nat.le_of_ble_eq_true rfl) (fun F => ?_)
  (repeat' (first | refine X.rq ?_ | (refine X.rc ?_ ?_ <;> intro hc <;> first | (exfalso; omega) | skip)))
  refine K.l_alloc (Fx.zr rfl) rfl rfl (fun B2 => ?_)
  refine K.l_alloc (Fx.zr rfl) rfl rfl (fun B3 => ?_)
  (repeat' (first | refine X.rq ?_ | (refine X.rc ?_ ?_ <;> intro hc <;> first | (exfalso; omega) | skip)))
  refine K.s_pure (K.p_makeFunc rfl) rfl ?_
  refine K.l_defer (fc := 60) (caps := [.pointer (some ⟨B2, 0, none⟩), .pointer (some ⟨B3, 0, none⟩)]) rfl ?_
  (repeat' (first | refine X.rq ?_ | (refine X.rc ?_ ?_ <;> intro hc <;> first | (exfalso; omega) | skip)))
  refine K.l_callXB (fst := []) (vals := []) (F := blk B3 24 [.int .i64 0] :: _ :: F) hcal rfl rfl (by simpa using ht) (by exact ((List.perm_middle (l₁ := Pre)).trans ((List.perm_middle (l₁ := Pre)).cons _)).symm) rfl ?_ ?_
  · rintro v h' H' hle ⟨rfl, e, rfl, he⟩
    refine K.a_then_panic ?_
    refine K.endD (.inr (.inr ⟨_, rfl⟩)) rfl (Fx.cal rfl) (CatchI h' B2 B3 _ _ e) (K.pp [1, 0] rfl) ?_
    rintro u' h1 H1 hle1 ⟨rfl, rfl, rfl⟩
    refine ⟨rfl, [(.int .i64 0), .int .i64 e], [_, _], [], .cell1 rfl (Fx.agg rfl) (K.cel_own 0 rfl rfl) (.cell1 rfl (Fx.agg rfl) (K.cel_own 1 rfl rfl) .nil), rfl, hle, .inr ⟨e, he, rfl, rfl⟩⟩
  · rintro v h' H' hle ⟨a, ha, hR⟩
    obtain ⟨z, rfl⟩ := hsh _ _ _ _ hR
    refine K.WL.perm (List.perm_append_comm (l₁ := H')) ?_
    simp only [List.set_cons_zero, List.set_cons_succ, List.eraseIdx_cons_zero, List.eraseIdx_cons_succ, List.cons_append, List.nil_append]
    refine X.sto ?_
    simp only [List.set_cons_zero, List.set_cons_succ, List.eraseIdx_cons_zero, List.eraseIdx_cons_succ, List.cons_append, List.nil_append]
    refine X.sto ?_
    simp only [List.set_cons_zero, List.set_cons_succ, List.eraseIdx_cons_zero, List.eraseIdx_cons_succ, List.cons_append, List.nil_append]
    (repeat' (first | refine X.rq ?_ | (refine X.rc ?_ ?_ <;> intro hc <;> first | (exfalso; omega) | skip)))
    refine K.endD (F := _ :: _ :: (H' ++ F)) (.inl rfl) rfl (Fx.cal rfl) (IdleI h' B2 B3) (((List.perm_append_comm (l₁ := F)).cons _).cons _) ?_
    rintro u' h1 H1 hle1 ⟨rfl, rfl, rfl⟩
    exact ⟨rfl, [_, _], [_, _], H', .cell1 rfl (Fx.agg rfl) (K.cel_own 1 rfl rfl) (.cell1 rfl (Fx.agg rfl) (K.cel_own 0 rfl rfl) .nil), rfl, hle, .inl ⟨a, _, ha, rfl, hR⟩⟩
theorem IdleC (h : Base) (b2 b3 : Nat) : TrD Try.prog 73 [.pointer (some ⟨b2, 0, none⟩), .pointer (some ⟨b3, 0, none⟩)] .returning h [] (fun u' h' H' => u' = .returning ∧ (h' = h ∧ H' = [])) := by
  refine K.trD_of Try.func73 rfl (Nat.le_of_ble_eq_true rfl) rfl rfl (.inl ⟨rfl, rfl, rfl⟩) (fun F => ?_)
  (repeat' (first | refine X.rq ?_ | (refine X.rc ?_ ?_ <;> intro hc <;> first | (exfalso; omega) | skip)))
  refine K.s_pure (K.p_neI0 Try.underlying20 rfl rfl) rfl ?_
  (repeat' (first | refine X.rq ?_ | (refine X.rc ?_ ?_ <;> intro hc <;> first | (exfalso; omega) | skip)))
  exact K.a_postS (.inr rfl) rfl fun w ok => ⟨h, [], K.Base.le.refl _, ⟨rfl, rfl⟩, ok⟩
set_option maxHeartbeats 1000000 in
theorem CatchC (h : Base) (b2 b3 : Nat) (T T3 : TypeId) (e : Int) : TrD Try.prog 73 [.pointer (some ⟨b2, 0, none⟩), .pointer (some ⟨b3, 0, none⟩)] (.panicking (up1 (failV e))) h [blk b2 T [(.slice none 0 0)], blk b3 T3 [.int .i64 0]] (fun u' h' H' => u' = .panicking [{ v := failV e, recovered := true }] ∧ (h' = h ∧ H' = [blk b2 T [(.slice none 0 0)], blk b3 T3 [.int .i64 e]])) := by
  refine K.trD_of Try.func73 rfl (Nat.le_of_ble_eq_true rfl) rfl rfl (.inr ⟨[], rfl, rfl⟩) (fun F => ?_)
  (repeat' (first | refine X.rq ?_ | (refine X.rc ?_ ?_ <;> intro hc <;> first | (exfalso; omega) | skip)))
  refine K.s_pure (K.p_neI Try.underlying20 rfl rfl rfl) rfl ?_
  (repeat' (first | refine X.rq ?_ | (refine X.rc ?_ ?_ <;> intro hc <;> first | (exfalso; omega) | skip)))
  refine K.s_pure (K.p_assert Try.underlying75 rfl rfl) rfl ?_
  (repeat' (first | refine X.rq ?_ | (refine X.rc ?_ ?_ <;> intro hc <;> first | (exfalso; omega) | skip)))
  refine K.l_alloc (Fx.zr rfl) rfl rfl (fun B3 => ?_)
  refine X.stw ?_
  simp only [List.set_cons_zero, List.set_cons_succ, List.eraseIdx_cons_zero, List.eraseIdx_cons_succ, List.cons_append, List.nil_append]
  (repeat' (first | refine X.rq ?_ | (refine X.rc ?_ ?_ <;> intro hc <;> first | (exfalso; omega) | skip)))
  refine X.draw ([blk B3 75 [.int .i64 e]]) [] (.pu 0 (.pu 1 (.st 2 (.on 3 (.on 4 .nil))))) ?_ (hQ := by repeat (first | with_reducible refine K.NoPanic.then ?_ | with_reducible refine K.NoPanic.inBlock ?_ | with_reducible exact K.post_noPanic _ _ | exact K.post_noPanic _ _ | exact K.QN_noPanic | exact K.postS_noPanic | exact K.postX_noPanic | exact K.RPX_noPanic))
  refine K.d_pu rfl (fun _ _ => X.mv) rfl ?_
  refine K.d_pu rfl (fun _ _ => X.fa) rfl ?_
  refine K.d_st rfl X.ld rfl ?_
  refine K.d_on rfl (fun KK hKK => ?_)
  refine X.sto ?_
  refine K.l_nil ?_
  refine X.onE hKK ?_
  refine K.d_on rfl (fun KK hKK => ?_)
  refine X.sto ?_
  refine K.l_nil ?_
  refine X.onE hKK ?_
  refine K.d_nil ?_
  simp only [List.set_cons_zero, List.set_cons_succ, List.eraseIdx_cons_zero, List.eraseIdx_cons_succ, List.cons_append, List.nil_append]
  refine K.AT.drop ?_
  exact K.a_postS (.inr rfl) rfl fun w ok => ⟨h, _, K.Base.le.refl _, ⟨rfl, rfl⟩, ok⟩
set_option maxHeartbeats 1000000 in
theorem TryC {α : Type} (h : Base) (g : FuncId) (caps : List Value) (Pre : List Asrt) (r : Except Int α) (Ret : α → Value → Base → List Asrt → Prop) (hcal : Callable Try.prog g) (hsh : ∀ a u h' H', Ret a u h' H' → ∃ (ao : Option Addr) (sn sc : Nat), u = .slice ao sn sc)
    (ht : TrX Try.prog g caps h Pre (fun v h' H' => ∃ a, r = .ok a ∧ Ret a v h' H') (UpE r)) : Tr Try.prog 47 [.func (.func g) #[] caps.toArray] h Pre (fun v h' H' => (∃ a u, r = .ok a ∧ v = .tuple #[u, .int .i64 0] ∧ Ret a u h' H') ∨ (∃ e, r = .error e ∧ v = .tuple #[(.slice none 0 0), .int .i64 e] ∧ H' = [])) := by
  refine K.enterD Try.func47 rfl (Nat.le_of_ble_eq_true rfl) (fun F => ?_)
  (repeat' (first | refine X.rq ?_ | (refine X.rc ?_ ?_ <;> intro hc <;> first | (exfalso; omega) | skip)))
  refine K.l_alloc (Fx.zr rfl) rfl rfl (fun B2 => ?_)
  refine K.l_alloc (Fx.zr rfl) rfl rfl (fun B3 => ?_)
  (repeat' (first | refine X.rq ?_ | (refine X.rc ?_ ?_ <;> intro hc <;> first | (exfalso; omega) | skip)))
  refine K.s_pure (K.p_makeFunc rfl) rfl ?_
  refine K.l_defer (fc := 73) (caps := [.pointer (some ⟨B2, 0, none⟩), .pointer (some ⟨B3, 0, none⟩)]) rfl ?_
  (repeat' (first | refine X.rq ?_ | (refine X.rc ?_ ?_ <;> intro hc <;> first | (exfalso; omega) | skip)))
  refine K.l_callXB (fst := []) (vals := []) (F := blk B3 24 [.int .i64 0] :: _ :: F) hcal rfl rfl (by simpa using ht) (by exact ((List.perm_middle (l₁ := Pre)).trans ((List.perm_middle (l₁ := Pre)).cons _)).symm) rfl ?_ ?_
  · rintro v h' H' hle ⟨rfl, e, rfl, he⟩
    refine K.a_then_panic ?_
    refine K.endD (.inr (.inr ⟨_, rfl⟩)) rfl (Fx.cal rfl) (CatchC h' B2 B3 _ _ e) (K.pp [1, 0] rfl) ?_
    rintro u' h1 H1 hle1 ⟨rfl, rfl, rfl⟩
    refine ⟨rfl, [(.slice none 0 0), .int .i64 e], [_, _], [], .cell1 rfl (Fx.agg rfl) (K.cel_own 0 rfl rfl) (.cell1 rfl (Fx.agg rfl) (K.cel_own 1 rfl rfl) .nil), rfl, hle, .inr ⟨e, he, rfl, rfl⟩⟩
  · rintro v h' H' hle ⟨a, ha, hR⟩
    obtain ⟨ao, sn, sc, rfl⟩ := hsh _ _ _ _ hR
    refine K.WL.perm (List.perm_append_comm (l₁ := H')) ?_
    simp only [List.set_cons_zero, List.set_cons_succ, List.eraseIdx_cons_zero, List.eraseIdx_cons_succ, List.cons_append, List.nil_append]
    refine X.sto ?_
    simp only [List.set_cons_zero, List.set_cons_succ, List.eraseIdx_cons_zero, List.eraseIdx_cons_succ, List.cons_append, List.nil_append]
    refine X.sto ?_
    simp only [List.set_cons_zero, List.set_cons_succ, List.eraseIdx_cons_zero, List.eraseIdx_cons_succ, List.cons_append, List.nil_append]
    (repeat' (first | refine X.rq ?_ | (refine X.rc ?_ ?_ <;> intro hc <;> first | (exfalso; omega) | skip)))
    refine K.endD (F := _ :: _ :: (H' ++ F)) (.inl rfl) rfl (Fx.cal rfl) (IdleC h' B2 B3) (((List.perm_append_comm (l₁ := F)).cons _).cons _) ?_
    rintro u' h1 H1 hle1 ⟨rfl, rfl, rfl⟩
    exact ⟨rfl, [_, _], [_, _], H', .cell1 rfl (Fx.agg rfl) (K.cel_own 1 rfl rfl) (.cell1 rfl (Fx.agg rfl) (K.cel_own 0 rfl rfl) .nil), rfl, hle, .inl ⟨a, _, ha, rfl, hR⟩⟩
abbrev plV (n : Nat) (at_ : Int) : List Value := [uV n, .int .i64 at_]
theorem IdleP (h : Base) (b2 b3 : Nat) : TrD Try.prog 56 [.pointer (some ⟨b2, 0, none⟩), .pointer (some ⟨b3, 0, none⟩)] .returning h [] (fun u' h' H' => u' = .returning ∧ (h' = h ∧ H' = [])) := by
  refine K.trD_of Try.func56 rfl (Nat.le_of_ble_eq_true rfl) rfl rfl (.inl ⟨rfl, rfl, rfl⟩) (fun F => ?_)
  (repeat' (first | refine X.rq ?_ | (refine X.rc ?_ ?_ <;> intro hc <;> first | (exfalso; omega) | skip)))
  refine K.s_pure (K.p_neI0 Try.underlying20 rfl rfl) rfl ?_
  (repeat' (first | refine X.rq ?_ | (refine X.rc ?_ ?_ <;> intro hc <;> first | (exfalso; omega) | skip)))
  exact K.a_postS (.inr rfl) rfl fun w ok => ⟨h, [], K.Base.le.refl _, ⟨rfl, rfl⟩, ok⟩
set_option maxHeartbeats 1000000 in
theorem CatchP (h : Base) (b2 b3 : Nat) (T T3 : TypeId) (e : Int) : TrD Try.prog 56 [.pointer (some ⟨b2, 0, none⟩), .pointer (some ⟨b3, 0, none⟩)] (.panicking (up1 (failV e))) h [blk b2 T (plV 0 0), blk b3 T3 [.int .i64 0]] (fun u' h' H' => u' = .panicking [{ v := failV e, recovered := true }] ∧ (h' = h ∧ H' = [blk b2 T (plV 0 0), blk b3 T3 [.int .i64 e]])) := by
  refine K.trD_of Try.func56 rfl (Nat.le_of_ble_eq_true rfl) rfl rfl (.inr ⟨[], rfl, rfl⟩) (fun F => ?_)
  (repeat' (first | refine X.rq ?_ | (refine X.rc ?_ ?_ <;> intro hc <;> first | (exfalso; omega) | skip)))
  refine K.s_pure (K.p_neI Try.underlying20 rfl rfl rfl) rfl ?_
  (repeat' (first | refine X.rq ?_ | (refine X.rc ?_ ?_ <;> intro hc <;> first | (exfalso; omega) | skip)))
  refine K.s_pure (K.p_assert Try.underlying75 rfl rfl) rfl ?_
  (repeat' (first | refine X.rq ?_ | (refine X.rc ?_ ?_ <;> intro hc <;> first | (exfalso; omega) | skip)))
  refine K.l_alloc (Fx.zr rfl) rfl rfl (fun B3 => ?_)
  refine X.stw ?_
  simp only [List.set_cons_zero, List.set_cons_succ, List.eraseIdx_cons_zero, List.eraseIdx_cons_succ, List.cons_append, List.nil_append]
  (repeat' (first | refine X.rq ?_ | (refine X.rc ?_ ?_ <;> intro hc <;> first | (exfalso; omega) | skip)))
  refine K.l_alloc (Fx.zr rfl) rfl rfl (fun B5 => ?_)
  (repeat' (first | refine X.rq ?_ | (refine X.rc ?_ ?_ <;> intro hc <;> first | (exfalso; omega) | skip)))
  refine X.draw ([blk B5 67 (plV 0 0), blk B3 75 [.int .i64 e]]) [] (.pu 1 (.st 0 (.st 2 (.on 3 (.on 4 .nil))))) ?_ (hQ := by repeat (first | with_reducible refine K.NoPanic.then ?_ | with_reducible refine K.NoPanic.inBlock ?_ | with_reducible exact K.post_noPanic _ _ | exact K.post_noPanic _ _ | exact K.QN_noPanic | exact K.postS_noPanic | exact K.postX_noPanic | exact K.RPX_noPanic))
  refine K.d_pu rfl (fun _ _ => X.fa) rfl ?_
  refine K.d_st rfl X.ld rfl ?_
  refine K.d_st rfl X.ld rfl ?_
  refine K.d_on rfl (fun KK hKK => ?_)
  refine X.stw ?_
  refine K.l_nil ?_
  refine X.onE hKK ?_
  refine K.d_on rfl (fun KK hKK => ?_)
  refine X.sto ?_
  refine K.l_nil ?_
  refine X.onE hKK ?_
  refine K.d_nil ?_
  simp only [List.set_cons_zero, List.set_cons_succ, List.eraseIdx_cons_zero, List.eraseIdx_cons_succ, List.cons_append, List.nil_append]
  refine K.AT.drop (K.AT.drop ?_)
  exact K.a_postS (.inr rfl) rfl fun w ok => ⟨h, _, K.Base.le.refl _, ⟨rfl, rfl⟩, ok⟩
theorem TryP {α : Type} (h : Base) (g : FuncId) (caps : List Value) (Pre : List Asrt) (r : Except Int α) (Ret : α → Value → Base → List Asrt → Prop) (hcal : Callable Try.prog g) (hsh : ∀ a u h' H', Ret a u h' H' → ∃ k i, u = .agg (plV k i).toArray)
    (ht : TrX Try.prog g caps h Pre (fun v h' H' => ∃ a, r = .ok a ∧ Ret a v h' H') (UpE r)) : Tr Try.prog 29 [.func (.func g) #[] caps.toArray] h Pre (fun v h' H' => (∃ a u, r = .ok a ∧ v = .tuple #[u, .int .i64 0] ∧ Ret a u h' H') ∨ (∃ e, r = .error e ∧ v = .tuple #[.agg (plV 0 0).toArray, .int .i64 e] ∧ H' = [])) := by
  refine K.enterD Try.func29 rfl (Nat.le_of_ble_eq_true rfl) (fun F => ?_)
  (repeat' (first | refine X.rq ?_ | (refine X.rc ?_ ?_ <;> intro hc <;> first | (exfalso; omega) | skip)))
  refine K.l_alloc (Fx.zr rfl) rfl rfl (fun B2 => ?_)
  refine K.l_alloc (Fx.zr rfl) rfl rfl (fun B3 => ?_)
  (repeat' (first | refine X.rq ?_ | (refine X.rc ?_ ?_ <;> intro hc <;> first | (exfalso; omega) | skip)))
  refine K.s_pure (K.p_makeFunc rfl) rfl ?_
  refine K.l_defer (fc := 56) (caps := [.pointer (some ⟨B2, 0, none⟩), .pointer (some ⟨B3, 0, none⟩)]) rfl ?_
  (repeat' (first | refine X.rq ?_ | (refine X.rc ?_ ?_ <;> intro hc <;> first | (exfalso; omega) | skip)))
  refine K.l_callXB (fst := []) (vals := []) (F := blk B3 24 [.int .i64 0] :: _ :: F) hcal rfl rfl (by simpa using ht) (by exact ((List.perm_middle (l₁ := Pre)).trans ((List.perm_middle (l₁ := Pre)).cons _)).symm) rfl ?_ ?_
  · rintro v h' H' hle ⟨rfl, e, rfl, he⟩
    refine K.a_then_panic ?_
    refine K.endD (.inr (.inr ⟨_, rfl⟩)) rfl (Fx.cal rfl) (CatchP h' B2 B3 _ _ e) (K.pp [1, 0] rfl) ?_
    rintro u' h1 H1 hle1 ⟨rfl, rfl, rfl⟩
    refine ⟨rfl, [.agg (plV 0 0).toArray, .int .i64 e], [_, _], [], .cell rfl (Fx.agg rfl) (Fx.sz rfl) (K.cels_own (pre := []) (post := []) 0 rfl rfl) (.cell1 rfl (Fx.agg rfl) (K.cel_own 1 rfl rfl) .nil), rfl, hle, .inr ⟨e, he, rfl, rfl⟩⟩
  · rintro v h' H' hle ⟨a, ha, hR⟩
    obtain ⟨k, i, rfl⟩ := hsh _ _ _ _ hR
    refine K.WL.perm (List.perm_append_comm (l₁ := H')) ?_
    simp only [List.set_cons_zero, List.set_cons_succ, List.eraseIdx_cons_zero, List.eraseIdx_cons_succ, List.cons_append, List.nil_append]
    refine X.stw ?_
    simp only [List.set_cons_zero, List.set_cons_succ, List.eraseIdx_cons_zero, List.eraseIdx_cons_succ, List.cons_append, List.nil_append]
    refine X.sto ?_
    simp only [List.set_cons_zero, List.set_cons_succ, List.eraseIdx_cons_zero, List.eraseIdx_cons_succ, List.cons_append, List.nil_append]
    (repeat' (first | refine X.rq ?_ | (refine X.rc ?_ ?_ <;> intro hc <;> first | (exfalso; omega) | skip)))
    refine K.endD (F := _ :: _ :: (H' ++ F)) (.inl rfl) rfl (Fx.cal rfl) (IdleP h' B2 B3) (((List.perm_append_comm (l₁ := F)).cons _).cons _) ?_
    rintro u' h1 H1 hle1 ⟨rfl, rfl, rfl⟩
    exact ⟨rfl, [_, _], [_, _], H', .cell rfl (Fx.agg rfl) (Fx.sz rfl) (K.cels_own (pre := []) (post := []) 1 rfl rfl) (.cell1 rfl (Fx.agg rfl) (K.cel_own 0 rfl rfl) .nil), rfl, hle, .inl ⟨a, _, ha, rfl, hR⟩⟩

/-! ### The way, told -/
def pathQ (G : Option GetQ) (root : Nat) (s : List UInt8) : Except Int (List Nat) := if root = 0 ∨ isEntryQ s = false then .error 1 else wayQ G s 7 root
theorem PathC (h : Base) (gv : Value) (G : Option GetQ) (root : Nat) (s : List UInt8) (B0 B1 B2 : Nat) (hg : GetV h gv G) (hroot : root < 4294967296) :
    TrX Try.prog 25 [.pointer (some ⟨B0, 0, none⟩), .pointer (some ⟨B1, 0, none⟩), .pointer (some ⟨B2, 0, none⟩)] h [blk B0 61 [gv], blk B1 23 [uV root], blk B2 9 [txt s]]
      (fun v h' H' => ∃ l, wayQ G s 7 root = .ok l ∧ (H' = [] ∧ U32s h' v l)) (UpE (wayQ G s 7 root)) := by
  refine K.enterX Try.func25 rfl (Nat.le_of_ble_eq_true rfl) (fun F => ?_)
  simp only [List.cons_append, List.nil_append]
  (repeat' (first | refine X.rq ?_ | (refine X.rc ?_ ?_ <;> intro hc <;> first | (exfalso; omega) | skip)))
  refine K.l_callX (Fx.cal rfl) rfl (PPath h gv G root s hg hroot) (K.pp [] rfl) rfl ?_ ?_
  · rintro v h' H' hle ⟨rfl, e, rfl, he⟩
    repeat (first | with_reducible refine K.a_then_panic ?_ | with_reducible refine K.a_block_panic ?_)
    exact K.upXD (D := [_, _, _]) (H' := []) hle rfl ⟨rfl, e, rfl, he⟩
  rintro v h' H' hle ⟨rfl, l, hq, hu⟩
  simp only [List.set_cons_zero, List.set_cons_succ, List.eraseIdx_cons_zero, List.eraseIdx_cons_succ, List.cons_append, List.nil_append]
  (repeat' (first | refine X.rq ?_ | (refine X.rc ?_ ?_ <;> intro hc <;> first | (exfalso; omega) | skip)))
  exact K.doneXC (vs := [v]) (by first | exact Or.inl rfl | exact Or.inr rfl) (.tmp rfl .nil) hle (D := [_, _, _]) (H' := []) rfl ⟨l, hq, rfl, hu⟩
theorem GetV.one {h : Base} {gv : Value} {G : Option GetQ} (hg : GetV h gv G) : gv.cells = [gv].toArray := by
  cases G with
  | none => obtain rfl : gv = .nilFunc := hg; rfl
  | some g =>
    obtain ⟨f, fst, caps, rfl, _⟩ := hg
    rfl
theorem U32s.shape {h : Base} {v : Value} {l : List Nat} (hu : U32s h v l) : ∃ (ao : Option Addr) (sn sc : Nat), v = .slice ao sn sc := by
  obtain ⟨ao, ca, rfl⟩ := SL.len hu.1
  exact ⟨_, _, _, rfl⟩
theorem path_no {G : Option GetQ} {root : Nat} {s : List UInt8} (h : root = 0 ∨ isEntryQ s = false) : pathQ G root s = .error 1 := by rw [pathQ, if_pos h]
theorem path_go {G : Option GetQ} {root : Nat} {s : List UInt8} (h : ¬ root = 0) (h2 : isEntryQ s = true) : pathQ G root s = wayQ G s 7 root := by rw [pathQ, if_neg (by simp [h, h2])]
set_option maxHeartbeats 1000000 in
theorem Path (h : Base) (gv : Value) (G : Option GetQ) (root : Nat) (s : List UInt8) (hg : GetV h gv G) (hroot : root < 4294967296) :
    Tr Try.prog 9 [gv, uV root, txt s] h [] (fun v h' H' => H' = [] ∧ WayR h' (pathQ G root s) v) := by
  refine K.enter Try.func9 rfl (Nat.le_of_ble_eq_true rfl) (fun F => ?_)
  have h1 := hg.one
  (repeat' (first | refine X.rq ?_ | (refine X.rc ?_ ?_ <;> intro hc <;> first | (exfalso; omega) | skip)))
  refine K.l_box rfl h1 rfl (fun B0 => ?_)
  refine K.l_box rfl rfl rfl (fun B1 => ?_)
  refine K.l_box rfl rfl rfl (fun B2 => ?_)
  simp only [List.set_cons_zero, List.set_cons_succ, List.eraseIdx_cons_zero, List.eraseIdx_cons_succ, List.cons_append, List.nil_append]
  (repeat' (first | refine X.rq ?_ | (refine X.rc ?_ ?_ <;> intro hc <;> first | (exfalso; omega) | skip)))
  · exact K.doneC (vs := [.slice none 0 0, .int .i64 1]) (by first | exact Or.inl rfl | exact Or.inr rfl) (.tmp rfl (.tmp rfl .nil)) (K.Base.le.refl _) (D := [_, _, _]) (H' := []) rfl ⟨rfl, _, [], 1, rfl, U32s.nil, .inr ⟨path_no (.inl (by omega)), rfl⟩⟩
  refine K.l_callV (Fx.cal rfl) rfl (IsEntry h s) (K.pp [] rfl) rfl rfl ?_
  simp only [List.set_cons_zero, List.set_cons_succ, List.eraseIdx_cons_zero, List.eraseIdx_cons_succ, List.cons_append, List.nil_append]
  cases hs : isEntryQ s with
  | false =>
    (repeat' (first | refine X.rq ?_ | (refine X.rc ?_ ?_ <;> intro hc <;> first | (exfalso; omega) | skip)))
    exact K.doneC (vs := [.slice none 0 0, .int .i64 1]) (by first | exact Or.inl rfl | exact Or.inr rfl) (.tmp rfl (.tmp rfl .nil)) (K.Base.le.refl _) (D := [_, _, _]) (H' := []) rfl ⟨rfl, _, [], 1, rfl, U32s.nil, .inr ⟨path_no (.inr hs), rfl⟩⟩
  | true =>
    (repeat' (first | refine X.rq ?_ | (refine X.rc ?_ ?_ <;> intro hc <;> first | (exfalso; omega) | skip)))
    refine K.s_pure (K.p_makeFunc rfl) rfl ?_
    have ht := TryU h 25 _ _ _ _ (Fx.cal rfl) (fun l u h' H' hr => hr.2.shape) (PathC h gv G root s B0 B1 B2 hg hroot)
    refine K.l_call (F := F) (Fx.cal rfl) rfl ht (K.pp [2, 1, 0] rfl) rfl ?_
    have hq := path_go (G := G) (root := root) (s := s) (by omega) hs
    rintro v h' H' hle (⟨l, u, hr, rfl, rfl, hu⟩ | ⟨e, hr, rfl, rfl⟩)
    · obtain ⟨ao, sn, sc, rfl⟩ := hu.shape
      simp only [List.set_cons_zero, List.set_cons_succ, List.eraseIdx_cons_zero, List.eraseIdx_cons_succ, List.cons_append, List.nil_append]
      (repeat' (first | refine X.rq ?_ | (refine X.rc ?_ ?_ <;> intro hc <;> first | (exfalso; omega) | skip)))
      exact K.doneC (vs := [.slice ao sn sc, .int .i64 0]) (by first | exact Or.inl rfl | exact Or.inr rfl) (.tmp rfl (.tmp rfl .nil)) hle (D := []) (H' := []) rfl ⟨rfl, _, l, 0, rfl, hu, .inl ⟨rfl, by rw [hq, hr]⟩⟩
    · simp only [List.set_cons_zero, List.set_cons_succ, List.eraseIdx_cons_zero, List.eraseIdx_cons_succ, List.cons_append, List.nil_append]
      (repeat' (first | refine X.rq ?_ | (refine X.rc ?_ ?_ <;> intro hc <;> first | (exfalso; omega) | skip)))
      exact K.doneC (vs := [.slice none 0 0, .int .i64 e]) (by first | exact Or.inl rfl | exact Or.inr rfl) (.tmp rfl (.tmp rfl .nil)) hle (D := []) (H' := []) rfl ⟨rfl, _, [], e, rfl, U32s.nil, .inr ⟨by rw [hq, hr], rfl⟩⟩
theorem RPath (h : Base) (cs : List Value) (t : PTree) (root : Nat) (s : List UInt8) (hx : TreeC h cs t) (hroot : root < 4294967296) :
    Tr Try.prog 11 [.agg cs.toArray, uV root, txt s] h [] (fun v h' H' => H' = [] ∧ WayR h' (pathQ (some (treeG t)) root s) v) := by
  have hx0 := hx
  obtain ⟨hb, he, hpl, pv, rfl, es, hv, hel, hr⟩ := hx
  obtain ⟨ao, ca, rfl⟩ := hv.len
  refine K.enter Try.func11 rfl (Nat.le_of_ble_eq_true rfl) (fun F => ?_)
  (repeat' (first | refine X.rq ?_ | (refine X.rc ?_ ?_ <;> intro hc <;> first | (exfalso; omega) | skip)))
  refine K.l_box rfl rfl rfl (fun B => ?_)
  (repeat' (first | refine X.rq ?_ | (refine X.rc ?_ ?_ <;> intro hc <;> first | (exfalso; omega) | skip)))
  · exact K.doneC (vs := [.slice none 0 0, .int .i64 1]) (by first | exact Or.inl rfl | exact Or.inr rfl) (.tmp rfl (.tmp rfl .nil)) (K.Base.le.refl _) (D := [_]) (H' := []) rfl ⟨rfl, _, [], 1, rfl, U32s.nil, .inr ⟨path_no (.inl (by omega)), rfl⟩⟩
  refine K.l_callV (Fx.cal rfl) rfl (RIsEntry h s) (K.pp [] rfl) rfl rfl ?_
  simp only [List.set_cons_zero, List.set_cons_succ, List.eraseIdx_cons_zero, List.eraseIdx_cons_succ, List.cons_append, List.nil_append]
  cases hs : isEntryQ s with
  | false =>
    (repeat' (first | refine X.rq ?_ | (refine X.rc ?_ ?_ <;> intro hc <;> first | (exfalso; omega) | skip)))
    exact K.doneC (vs := [.slice none 0 0, .int .i64 1]) (by first | exact Or.inl rfl | exact Or.inr rfl) (.tmp rfl (.tmp rfl .nil)) (K.Base.le.refl _) (D := [_]) (H' := []) rfl ⟨rfl, _, [], 1, rfl, U32s.nil, .inr ⟨path_no (.inr hs), rfl⟩⟩
  | true =>
    (repeat' (first | refine X.rq ?_ | (refine X.rc ?_ ?_ <;> intro hc <;> first | (exfalso; omega) | skip)))
    refine K.l_call (Fx.cal rfl) rfl (RWay h _ t root s hx0 hroot) (K.pp [] rfl) rfl ?_
    have hq := path_go (G := some (treeG t)) (root := root) (s := s) (by omega) hs
    rintro v h' H' hle ⟨rfl, sv, l, e, rfl, hu, hr⟩
    obtain ⟨ao, sn, sc, rfl⟩ := hu.shape
    simp only [List.set_cons_zero, List.set_cons_succ, List.eraseIdx_cons_zero, List.eraseIdx_cons_succ, List.cons_append, List.nil_append]
    (repeat' (first | refine X.rq ?_ | (refine X.rc ?_ ?_ <;> intro hc <;> first | (exfalso; omega) | skip)))
    exact K.doneC (vs := [.slice ao sn sc, .int .i64 e]) (by first | exact Or.inl rfl | exact Or.inr rfl) (.tmp rfl (.tmp rfl .nil)) hle (D := [_]) (H' := []) rfl ⟨rfl, _, l, e, rfl, hu, by rw [hq]; exact hr⟩
end Go.Proofs.Ytahdbncfegedjaa.Nd
