/-
  Some answers that the document fixes; nobody's table has no ring. Conditions: each theorem's own.
-/
import Derived.Test.YtcpdfajaggbjlaaDoorTv

namespace Go.Proofs.YtcpdfajaggbjlaaDoor.Lk
open Go Go.K Go.Proofs Go.Proofs.YtcpdfajaggbjlaaDoor
set_option linter.unusedVariables false
set_option linter.unusedSimpArgs false
set_option maxRecDepth 10000

theorem New (h : Base) : Tr Tryd.prog 10 [] h [] (fun u h' H' => h' = h ∧ ∃ BT, u = .pointer (some ⟨BT, 0, none⟩) ∧ H' = [rowsA none 0 [], tabB BT none 0 []]) := by
  refine K.enter Tryd.func10 rfl (Nat.le_of_ble_eq_true rfl) (fun F => ?_)
  simp only [List.nil_append]
  (repeat' (first | refine X.rq ?_ | (refine X.rc ?_ ?_ <;> intro hc <;> first | (exfalso; omega) | skip)))
  refine K.l_box rfl rfl rfl (fun BT => ?_)
  (repeat' (first | refine X.rq ?_ | (refine X.rc ?_ ?_ <;> intro hc <;> first | (exfalso; omega) | skip)))
  refine K.AT.nilBuf 46 7 ?_
  refine K.done (by first | exact Or.inl rfl | exact Or.inr rfl) rfl (by first | exact K.Base.le.refl _ | assumption) (H' := [_, _]) rfl ⟨rfl, BT, rfl, rfl⟩
theorem VictimNil (h : Base) : Tr Tryd.prog 17 [.pointer none] h [] (fun u h' H' => h' = h ∧ u = .int .u32 0 ∧ H' = []) := by
  refine K.enter Tryd.func17 rfl (Nat.le_of_ble_eq_true rfl) (fun F => ?_)
  simp only [List.nil_append, List.cons_append]
  (repeat' (first | refine X.rq ?_ | (refine X.rc ?_ ?_ <;> intro hc <;> first | (exfalso; omega) | skip)))
  refine K.l_makeMap (kk := .u32) rfl (fun M => ?_)
  refine K.l_alloc (Fx.zr rfl) rfl rfl (fun BN => ?_)
  refine X.sto ?_
  simp only [List.set_cons_zero, List.set_cons_succ, List.eraseIdx_cons_zero, List.eraseIdx_cons_succ, List.cons_append, List.nil_append]
  (repeat' (first | refine X.rq ?_ | (refine X.rc ?_ ?_ <;> intro hc <;> first | (exfalso; omega) | skip)))
  refine K.l_callV (Fx.cal rfl) rfl (WaitsNil h) (K.pp [] rfl) rfl rfl ?_
  simp only [List.nil_append, List.cons_append]
  (repeat' (first | refine X.rq ?_ | (refine X.rc ?_ ?_ <;> intro hc <;> first | (exfalso; omega) | skip)))
  refine K.c_loop (σ := Unit) (fun s => [(3, .pointer (some ⟨BN, 0, none⟩)), (12, .slice none 0 0), (13, .int .i64 0), (14, .int .i64 0)]) (fun _ => h)
    (fun s => blk BN 68 [.map (some M)] :: mapA M .u32 [] 0 :: F) (fun s => True) (fun s => 0) () trivial (by repeat (first | exact K.Sub.nil _ | refine K.Sub.cons rfl ?_)) rfl rfl ?_
  rintro s - KL hKL
  (repeat' (first | refine X.rq ?_ | (refine X.rc ?_ ?_ <;> intro hc <;> first | (exfalso; omega) | skip)))
  refine K.l_range 1 rfl rfl rfl rfl (fun R => ?_)
  (repeat' (first | refine X.rq ?_ | (refine X.rc ?_ ?_ <;> intro hc <;> first | (exfalso; omega) | skip)))
  refine K.WC.perm (K.pp [0, 1] rfl) ?_
  refine K.c_loop (σ := Unit) (fun s => [(3, .pointer (some ⟨BN, 0, none⟩)), (6, .int .u32 0), (31, .pointer (some ⟨R, 0, none⟩))]) (fun _ => h)
    (fun s => iterA R M 0 [] 0 :: mapA M .u32 [] 0 :: blk BN 68 [.map (some M)] :: F) (fun s => True) (fun s => 0) () trivial (by repeat (first | exact K.Sub.nil _ | refine K.Sub.cons rfl ?_)) rfl rfl ?_
  rintro s2 - KM hKM
  (repeat' (first | refine X.rq ?_ | (refine X.rc ?_ ?_ <;> intro hc <;> first | (exfalso; omega) | skip)))
  refine K.l_next MapOk.nil rfl rfl (fun hall => ?_) (fun e he _ => by cases he)
  (repeat' (first | refine X.rq ?_ | (refine X.rc ?_ ?_ <;> intro hc <;> first | (exfalso; omega) | skip)))
  refine K.AT.sel [0, 0, 0] rfl ?_
  refine K.done (by first | exact Or.inl rfl | exact Or.inr rfl) rfl (by first | exact K.Base.le.refl _ | assumption) (H' := []) rfl ⟨rfl, rfl, rfl⟩
abbrev aliveT : PThing := ⟨false, 5, noT, noT⟩
def al1 : List PLock := [newK 1 aliveT 3 true]
def al2 : List PLock := [newK 1 aliveT 3 true, newK 2 aliveT 2 false]
def al3 : List PLock := [newK 1 aliveT 3 true, newK 2 aliveT 2 false, newK 3 aliveT 1 true]
theorem al_ask1 : askQ [] 1 aliveT 3 = (al1, true, 0) := by decide
theorem al_ask2 : askQ al1 2 aliveT 2 = (al2, false, 0) := by decide
theorem al_ask3 : askQ al2 3 aliveT 1 = (al3, true, 0) := by decide
theorem al_ask4 : askQ al3 2 aliveT 2 = (al3, false, 121) := by decide
theorem al_has : hasQ al3 1 aliveT 1 = true := by decide
theorem al_waits : waitsQ al3 = [(2, 1)] := by decide
theorem al_vict {v : Nat} (h : IsVict (waitsQ al3) v) : v = 0 := by
  rw [al_waits] at h
  rcases h.ring with e | e
  · exact e
  · have key : ∀ {a b : Nat}, ReachW [(2, 1)] a b → a = 2 ∧ b = 1 := by
      intro a b hr
      induction hr with
      | one h1 => cases List.mem_singleton.1 h1; exact ⟨rfl, rfl⟩
      | more h1 _ ih => cases List.mem_singleton.1 h1; omega
    have := key e
    omega
theorem al_wf : wfT aliveT := ⟨by decide, by decide, by decide⟩
theorem al_w1 : ∀ x ∈ al1, wfK x := fun x hx => by
  simp only [al1, List.mem_cons, List.not_mem_nil, or_false] at hx
  subst hx
  exact ⟨by decide, al_wf, by decide⟩
theorem al_w3 : ∀ x ∈ al3, wfK x := fun x hx => by
  simp only [al3, List.mem_cons, List.not_mem_nil, or_false] at hx
  rcases hx with rfl | rfl | rfl
  · exact ⟨by decide, al_wf, by decide⟩
  · exact ⟨by decide, al_wf, by decide⟩
  · exact ⟨by decide, al_wf, by decide⟩
theorem al_w2 : ∀ x ∈ al2, wfK x := fun x hx => al_w3 x (by
  simp only [al2, al3, List.mem_cons, List.not_mem_nil, or_false] at hx ⊢
  exact hx.elim .inl fun e => .inr (.inl e))
end Go.Proofs.YtcpdfajaggbjlaaDoor.Lk
