/-
  Trees of pages: the children of an inner page, one behind the other. Conditions: each theorem's own.
-/
import Derived.Test.YtahdbncfegedjaaXb

namespace Go.Proofs.Ytahdbncfegedjaa.Nd
open Go Go.K Go.Proofs Go.Proofs.Ytahdbncfegedjaa Go.Proofs.Ytahdbncfegedjaa.Pg
set_option linter.unusedVariables false
set_option linter.unusedSimpArgs false
set_option maxRecDepth 10000

abbrev uV (n : Nat) : Value := .int .u32 n
abbrev Kid := List UInt8 × Nat
def kidsQ (p : Pag) : List Kid := ([], p.next) :: p.cells.map fun c => (keyOf c, childOf c)
def EncK (h : Base) (x : Kid) (args : List Value) : Prop := args = [txt x.1, uV x.2] ∧ x.2 < 4294967296
def big4 (p : Pag) : Prop := ∀ c ∈ p.cells, 4 ≤ c.data.length
structure KidS where
  j : Nat
  hb : Base
  A : Asrt
theorem kids_pre {p : Pag} {j : Nat} {c : PCell} (hc : p.cells[j]? = some c) : (kidsQ p).take (j + 1) ++ [(keyOf c, childOf c)] <+: kidsQ p ∧ (kidsQ p).take (j + 2) = (kidsQ p).take (j + 1) ++ [(keyOf c, childOf c)] := by
  have e : (kidsQ p).take (j + 2) = (kidsQ p).take (j + 1) ++ [(keyOf c, childOf c)] := by
    rw [List.take_add_one, show (kidsQ p)[j + 1]? = some (keyOf c, childOf c) by simp [kidsQ, hc]]; rfl
  exact ⟨e ▸ List.take_prefix _ _, e⟩
set_option maxHeartbeats 4000000 in
theorem KidsI (h0 : Base) (cv : Value) (p : Pag) (B1 : Nat) (hp : PagC h0 (cP p cv) p) (h4 : big4 p) :
    IterX Try.prog 76 [.pointer (some ⟨B1, 0, none⟩)] EncK h0 [blk B1 55 (cP p cv)] (kidsQ p) := by
  intro l J Jx JP hJ hJx hJP hY F A w h hle hJ0 ok
  obtain ⟨hw, cv', e, es, hv, hel, hr⟩ := hp.le hle
  obtain rfl : cv = cv' := by simpa [cP] using e
  clear e
  obtain ⟨ao, ca, rfl⟩ := hv.len
  rw [hel] at hv ok ⊢
  have hnx := hw.next
  have hln := hw.len
  refine Calls.mono (K.iterX_enter (l := l) (lb := [.pointer (some ⟨B1, 0, none⟩)]) (X := fun w' => ∃ h' A', h.le h' ∧ Ok h' ([blk B1 55 (cP p (.slice ao p.cells.length ca))] ++ A' :: F) w' ∧ (J (kidsQ p) h' A' ∨ ∃ pre, pre <+: kidsQ p ∧ Jx pre h' A')) (XP := fun v w' => ∃ h' A', h.le h' ∧ Ok h' ([blk B1 55 (cP p (.slice ao p.cells.length ca))] ++ A' :: F) w' ∧ ∃ pre, pre <+: kidsQ p ∧ JP v pre h' A') Try.func76 rfl (Nat.le_of_ble_eq_true rfl) ?_ ok) ?_
  · simp only [List.nil_append, List.cons_append]
    refine K.c_seq ?_
    refine K.c_seq ?_
    refine K.c_regionY 3 rfl (fun _ _ hx => by rcases hx with ⟨⟨_, e⟩, _⟩ | ⟨_, e, _⟩ <;> cases e) ?_
    (repeat' (first | refine X.rq ?_ | (refine X.rc ?_ ?_ <;> intro hc <;> first | (exfalso; omega) | skip)))
    refine K.y_callX hY rfl rfl (R := blk B1 55 (cP p (.slice ao p.cells.length ca)) :: F) (pre := []) (z := ([], p.next)) ⟨_, rfl⟩ ⟨rfl, hnx⟩ hJ0 (K.pp1 1 rfl) rfl rfl (fun _ _ hx => by rcases hx with ⟨⟨_, e⟩, _⟩ | ⟨_, e, _⟩ <;> cases e) ?_ ?_
    · intro v h2 A2 hle2 hj2
      refine K.a_then_panic (K.a_then_panic ?_)
      refine K.upI fun w ok => ⟨h2, A2, hle2, ok.perm (List.Perm.swap _ _ _), _, ⟨_, rfl⟩, hj2⟩
    intro b h2 A2 hle2 hb1 hb2
    cases b with
    | false =>
      (repeat' (first | refine X.rq ?_ | (refine X.rc ?_ ?_ <;> intro hc <;> first | (exfalso; omega) | skip)))
      refine K.doneI (by first | exact Or.inl rfl | exact Or.inr rfl) rfl fun w ok => ⟨h2, A2, hle2, ok.perm (List.Perm.swap _ _ _), .inr ⟨_, ⟨_, rfl⟩, hb2 rfl⟩⟩
    | true =>
      have hb1 := hb1 rfl
      (repeat' (first | refine X.rq ?_ | (refine X.rc ?_ ?_ <;> intro hc <;> first | (exfalso; omega) | skip)))
      refine K.c_loop (σ := KidS) (fun s1 => [(0, .func (.yield l) #[] #[]), (1, .pointer (some ⟨B1, 0, none⟩)), (11, .slice ao p.cells.length ca), (12, .int .i64 p.cells.length), (13, .int .i64 s1.j)]) (fun s1 => s1.hb) (fun s1 => s1.A :: blk B1 55 (cP p (.slice ao p.cells.length ca)) :: F)
        (fun s1 => s1.j ≤ p.cells.length ∧ h.le s1.hb ∧ J ((kidsQ p).take (s1.j + 1)) s1.hb s1.A) (fun s1 => p.cells.length - s1.j) ⟨0, h2, A2⟩ ⟨Nat.zero_le _, hle2, hb1⟩ (by repeat (first | exact K.Sub.nil _ | refine K.Sub.cons rfl ?_)) rfl rfl ?_
      clear hb1 hb2 hle2
      rintro ⟨j, hb, A1⟩ ⟨hj, hle1, hjA⟩ KL hKL
      simp only at hj hle1 hjA ⊢
      by_cases hjl : j < p.cells.length
      · have hc1 : es[j]? = some (es[j]'(by omega)) := List.getElem?_eq_getElem (by omega)
        have hc0 : es[((j : Nat) : Int).toNat]? = some (es[j]'(by omega)) := by rw [Int.toNat_natCast]; exact hc1
        have he1 : p.cells[j]? = some p.cells[j] := List.getElem?_eq_getElem hjl
        have hx4 := h4 _ (List.getElem_mem hjl)
        generalize es[j]'(by omega) = c at hc0 hc1
        generalize p.cells[j] = x at he1 hx4
        have hcc := (hr j c x hc1 he1).le hle1
        obtain ⟨hpre, htk⟩ := kids_pre he1
        have hcc0 := hcc
        obtain ⟨hkl, hdl, ao3, ca3, rfl, hbv⟩ := hcc
        (repeat' (first | refine X.rq ?_ | (refine X.rc ?_ ?_ <;> intro hc <;> first | (exfalso; omega) | skip)))
        refine K.s_pureE (K.p_indexL (hv.le hle1) (Fx.und rfl) (Fx.sz rfl) rfl rfl (by omega) hc0) rfl ?_
        rintro v2 ⟨b, o, rfl, hcel⟩
        refine K.s_pure (K.p_loadM (Fx.agg rfl) rfl (Cels.up hcel) (Fx.sz rfl) rfl) rfl ?_
        refine K.l_alloc (Fx.zr rfl) rfl rfl (fun B4 => ?_)
        refine X.stw ?_
        simp only [List.set_cons_zero, List.set_cons_succ, List.eraseIdx_cons_zero, List.eraseIdx_cons_succ, List.cons_append, List.nil_append]
        refine K.l_nil ?_
        refine K.a_then ?_
        refine K.c_seq ?_
        refine K.c_regionY 5 rfl (fun _ _ hx => by rcases hx with ⟨⟨_, e⟩, _⟩ | ⟨_, e, _⟩ <;> cases e) ?_
        (repeat' (first | refine X.rq ?_ | (refine X.rc ?_ ?_ <;> intro hc <;> first | (exfalso; omega) | skip)))
        refine K.l_callV (Fx.cal rfl) rfl (SplitC hb _ x hcc0 hx4) (K.pp [] rfl) rfl rfl ?_
        simp only [List.set_cons_zero, List.set_cons_succ, List.eraseIdx_cons_zero, List.eraseIdx_cons_succ, List.cons_append, List.nil_append]
        (repeat' (first | refine X.rq ?_ | (refine X.rc ?_ ?_ <;> intro hc <;> first | (exfalso; omega) | skip)))
        refine K.y_callX hY rfl rfl (R := blk B4 52 [.bool x.used, .int .u32 x.killer, .slice ao3 x.data.length ca3] :: blk B1 55 (cP p (.slice ao p.cells.length ca)) :: F) hpre ⟨rfl, childOf_lt hx4⟩ hjA (K.pp1 1 rfl) rfl rfl (fun _ _ hx => by rcases hx with ⟨⟨_, e⟩, _⟩ | ⟨_, e, _⟩ <;> cases e) ?_ ?_
        · intro v h2 A2 hle2 hj2
          refine K.a_then_panic (K.a_block_panic (K.a_then_panic (K.a_then_panic (K.a_block_panic ?_))))
          refine K.upI fun w ok => ⟨h2, A2, hle1.trans hle2, ?_, _, hpre, hj2⟩
          exact (ok.perm (K.pp [1] rfl)).drop.perm (List.Perm.swap _ _ _)
        intro b h2 A2 hle2 hb1 hb2
        have hle3 := hle1.trans hle2
        cases b with
        | false =>
          (repeat' (first | refine X.rq ?_ | (refine X.rc ?_ ?_ <;> intro hc <;> first | (exfalso; omega) | skip)))
          refine K.doneI (by first | exact Or.inl rfl | exact Or.inr rfl) rfl fun w ok => ⟨h2, A2, hle3, (ok.perm (K.pp [1] rfl)).drop.perm (List.Perm.swap _ _ _), .inr ⟨_, hpre, hb2 rfl⟩⟩
        | true =>
          have hb1 := hb1 rfl
          rw [← htk] at hb1
          (repeat' (first | refine X.rq ?_ | (refine X.rc ?_ ?_ <;> intro hc <;> first | (exfalso; omega) | skip)))
          refine K.AT.sel [1] rfl ?_
          refine K.a_round hKL ⟨j + 1, h2, A2⟩ ⟨by dsimp only; omega, hle3, hb1⟩ (by repeat (first | exact K.Sub.nil _ | refine K.Sub.cons rfl ?_)) rfl rfl (by dsimp only; omega)
      · obtain rfl : j = p.cells.length := by omega
        rw [List.take_of_length_le (by simp [kidsQ])] at hjA
        (repeat' (first | refine X.rq ?_ | (refine X.rc ?_ ?_ <;> intro hc <;> first | (exfalso; omega) | skip)))
        refine K.doneI (by first | exact Or.inl rfl | exact Or.inr rfl) rfl fun w ok => ⟨hb, A1, hle1, ok.perm (List.Perm.swap _ _ _), .inl hjA⟩
  · rintro e w' (⟨he, h', A', hle', ok', hh⟩ | ⟨v, rfl, h', A', hle', ok', pre, hpre, hj⟩)
    · exact ⟨h', A', hle', ok', .inl ⟨he, hh⟩⟩
    · exact ⟨h', A', hle', ok', .inr ⟨v, pre, rfl, hpre, hj⟩⟩
end Go.Proofs.Ytahdbncfegedjaa.Nd
