/-
  Trees of pages: a path, backwards; whether a path is one. Conditions: each theorem's own.
-/
import Derived.Test.YtahdbncfegedjaaXq

namespace Go.Proofs.Ytahdbncfegedjaa.Nd
open Go Go.K Go.Proofs Go.Proofs.Ytahdbncfegedjaa Go.Proofs.Ytahdbncfegedjaa.Pg
set_option linter.unusedVariables false
set_option linter.unusedSimpArgs false
set_option maxRecDepth 10000

abbrev Stp := Nat × Nat
def backQ (l : List Nat) : List Stp := (List.range l.length).reverse.map fun i => (i, l.getD i 0)
def EncB (h : Base) (x : Stp) (args : List Value) : Prop := args = [.int .i64 x.1, uV x.2] ∧ x.2 < 4294967296
theorem back_len (l : List Nat) : (backQ l).length = l.length := by simp [backQ]
theorem back_at {l : List Nat} {j : Nat} (h : j < l.length) : (backQ l)[j]? = some (l.length - 1 - j, l.getD (l.length - 1 - j) 0) := by
  unfold backQ
  rw [List.getElem?_map, List.getElem?_reverse (by simpa using h), List.length_range, List.getElem?_range (by omega)]
  rfl
structure BaS where
  j : Nat
  hb : Base
  A : Asrt
set_option maxHeartbeats 1000000 in
theorem BackI (h0 : Base) (v : Value) (l : List Nat) (B1 : Nat) (hv : U32s h0 v l) (hl : l.length ≤ 1000000) :
    IterX Try.prog 82 [.pointer (some ⟨B1, 0, none⟩)] EncB h0 [blk B1 30 [v]] (backQ l) := by
  intro l0 J Jx JP hJ hJx hJP hY F A w h hle hJ0 ok
  have hv := hv.le hle
  obtain ⟨ao, ca, rfl⟩ := hv.len
  refine Calls.mono (K.iterX_enter (l := l0) (lb := [.pointer (some ⟨B1, 0, none⟩)]) (X := fun w' => ∃ h' A', h.le h' ∧ Ok h' ([blk B1 30 [.slice ao l.length ca]] ++ A' :: F) w' ∧ (J (backQ l) h' A' ∨ ∃ pre, pre <+: backQ l ∧ Jx pre h' A')) (XP := fun v w' => ∃ h' A', h.le h' ∧ Ok h' ([blk B1 30 [.slice ao l.length ca]] ++ A' :: F) w' ∧ ∃ pre, pre <+: backQ l ∧ JP v pre h' A') Try.func82 rfl (Nat.le_of_ble_eq_true rfl) ?_ ok) ?_
  · simp only [List.nil_append, List.cons_append]
    (repeat' (first | refine X.rq ?_ | (refine X.rc ?_ ?_ <;> intro hc <;> first | (exfalso; omega) | skip)))
    refine K.c_loop (σ := BaS) (fun s1 => [(0, .func (.yield l0) #[] #[]), (1, .pointer (some ⟨B1, 0, none⟩)), (3, .int .i64 ((l.length : Int) - 1 - s1.j))]) (fun s1 => s1.hb) (fun s1 => blk B1 30 [.slice ao l.length ca] :: s1.A :: F)
      (fun s1 => s1.j ≤ l.length ∧ h.le s1.hb ∧ J ((backQ l).take s1.j) s1.hb s1.A) (fun s1 => l.length - s1.j) ⟨0, h, A⟩ ⟨Nat.zero_le _, K.Base.le.refl _, hJ0⟩ (by rw [show (l.length : Int) - 1 - ((0 : Nat) : Int) = (l.length : Int) - 1 by omega]; exact (by repeat (first | exact K.Sub.nil _ | refine K.Sub.cons rfl ?_))) rfl rfl ?_
    rintro ⟨j, hb, A1⟩ ⟨hj, hle1, hjA⟩ KL hKL
    simp only at hj hle1 hjA ⊢
    by_cases hjl : j < l.length
    · have hbk := back_at hjl
      have hm : l[l.length - 1 - j]? = some (l.getD (l.length - 1 - j) 0) := by
        rw [List.getD_eq_getElem?_getD, List.getElem?_eq_getElem (by omega)]; rfl
      have hx1 : (l.map fun n => [uV n])[((l.length : Int) - 1 - j).toNat]? = some [uV (l.getD (l.length - 1 - j) 0)] := by
        rw [show ((l.length : Int) - 1 - j).toNat = l.length - 1 - j by omega, List.getElem?_map, hm]; rfl
      have hx4 := hv.2 _ (List.mem_of_getElem? hm)
      have htk : (backQ l).take (j + 1) = (backQ l).take j ++ [(l.length - 1 - j, l.getD (l.length - 1 - j) 0)] := by
        rw [List.take_add_one, hbk]; rfl
      have hpre : (backQ l).take j ++ [(l.length - 1 - j, l.getD (l.length - 1 - j) 0)] <+: backQ l := htk ▸ List.take_prefix _ _
      have eij : (l.length : Int) - 1 - (j : Int) = ((l.length - 1 - j : Nat) : Int) := by omega
      refine K.c_seq (K.c_seq (K.c_region ?_))
      refine K.s_pure (K.p_move rfl) rfl (K.s_pure (K.p_geq rfl rfl) rfl (K.l_nil (K.a_then ?_)))
      refine K.c_condD rfl (fun _ => ?_) (fun hc => absurd (show (l.length : Int) - 1 - j ≥ 0 by omega) hc)
      refine K.c_skip (K.a_then (K.c_seq (K.c_block (K.c_seq ?_))))
      refine K.c_regionY 6 rfl (fun _ _ hx => by rcases hx with ⟨⟨_, e⟩, _⟩ | ⟨_, e, _⟩ <;> cases e) ?_
      (repeat' (first | refine X.rq ?_ | (refine X.rc ?_ ?_ <;> intro hc <;> first | (exfalso; omega) | skip)))
      refine K.s_pureE (K.p_indexL (hv.1.le hle1) (Fx.und rfl) (Fx.sz rfl) rfl rfl (by omega) hx1) rfl ?_
      rintro v2 ⟨b, o, rfl, hcel⟩
      refine K.s_pure (K.p_load (Fx.agg rfl) rfl (Cels.up hcel).1) rfl ?_
      rw [eij]
      (repeat' (first | refine X.rq ?_ | (refine X.rc ?_ ?_ <;> intro hc <;> first | (exfalso; omega) | skip)))
      refine K.y_callX hY rfl rfl (R := blk B1 30 [.slice ao l.length ca] :: F) hpre ⟨rfl, hx4⟩ hjA (K.pp1 1 rfl) rfl rfl (fun _ _ hx => by rcases hx with ⟨⟨_, e⟩, _⟩ | ⟨_, e, _⟩ <;> cases e) ?_ ?_
      · intro v h2 A2 hle2 hj2
        repeat (first | with_reducible refine K.a_then_panic ?_ | with_reducible refine K.a_block_panic ?_)
        refine K.upI fun w ok => ⟨h2, A2, hle1.trans hle2, ok.perm (List.Perm.swap _ _ _), _, hpre, hj2⟩
      intro b h2 A2 hle2 hb1 hb2
      have hle3 := hle1.trans hle2
      cases b with
      | false =>
        (repeat' (first | refine X.rq ?_ | (refine X.rc ?_ ?_ <;> intro hc <;> first | (exfalso; omega) | skip)))
        refine K.doneI (by first | exact Or.inl rfl | exact Or.inr rfl) rfl fun w ok => ⟨h2, A2, hle3, ok.perm (List.Perm.swap _ _ _), .inr ⟨_, hpre, hb2 rfl⟩⟩
      | true =>
        have hb1 := hb1 rfl
        rw [← htk] at hb1
        (repeat' (first | refine X.rq ?_ | (refine X.rc ?_ ?_ <;> intro hc <;> first | (exfalso; omega) | skip)))
        refine K.AT.perm (List.Perm.swap _ _ _) ?_
        refine K.a_round hKL ⟨j + 1, h2, A2⟩ ⟨by dsimp only; omega, hle3, hb1⟩ (by dsimp only; rw [show (l.length : Int) - 1 - ((j + 1 : Nat) : Int) = ((l.length - 1 - j : Nat) : Int) - 1 by omega]; exact (by repeat (first | exact K.Sub.nil _ | refine K.Sub.cons rfl ?_))) rfl rfl (by dsimp only; omega)
    · obtain rfl : j = l.length := by omega
      rw [List.take_of_length_le (by rw [back_len]; exact Nat.le_refl _)] at hjA
      (repeat' (first | refine X.rq ?_ | (refine X.rc ?_ ?_ <;> intro hc <;> first | (exfalso; omega) | skip)))
      refine K.doneI (by first | exact Or.inl rfl | exact Or.inr rfl) rfl fun w ok => ⟨hb, A1, hle1, ok, .inl hjA⟩
  · rintro e w' (⟨he, h', A', hle', ok', hh⟩ | ⟨v, rfl, h', A', hle', ok', pre, hpre, hj⟩)
    · exact ⟨h', A', hle', ok', .inl ⟨he, hh⟩⟩
    · exact ⟨h', A', hle', ok', .inr ⟨v, pre, rfl, hpre, hj⟩⟩
theorem Backward (h : Base) (v : Value) (l : List Nat) (hv : U32s h v l) : Tr Try.prog 63 [v] h [] (fun u h' H' => h' = h ∧ ∃ B, u = .func (.func 82) #[] #[.pointer (some ⟨B, 0, none⟩)] ∧ H' = [blk B 30 [v]]) := by
  obtain ⟨ao, ca, rfl⟩ := hv.len
  refine K.enter Try.func63 rfl (Nat.le_of_ble_eq_true rfl) (fun F => ?_)
  (repeat' (first | refine X.rq ?_ | (refine X.rc ?_ ?_ <;> intro hc <;> first | (exfalso; omega) | skip)))
  refine K.l_box rfl rfl rfl (fun B => ?_)
  (repeat' (first | refine X.rq ?_ | (refine X.rc ?_ ?_ <;> intro hc <;> first | (exfalso; omega) | skip)))
  refine K.s_pure (K.p_makeFunc rfl) rfl ?_
  (repeat' (first | refine X.rq ?_ | (refine X.rc ?_ ?_ <;> intro hc <;> first | (exfalso; omega) | skip)))
  refine K.done (by first | exact Or.inl rfl | exact Or.inr rfl) rfl (by first | exact K.Base.le.refl _ | assumption) (H' := [blk B 30 [.slice ao l.length ca]]) rfl ⟨rfl, B, rfl, rfl⟩
end Go.Proofs.Ytahdbncfegedjaa.Nd
