/-
  KW: results in cells, one of them of a plain kind. Generic over the program. Conditions: none.
-/
import Derived.Test.YtmcdaegaopfihaaGreatQ1
namespace Go.K
set_option linter.unusedVariables false
set_option linter.unusedSimpArgs false
section
variable {P : Program} {n : NN} {Q : Exit → Act → World → Prop} {E : Env} {h : Base} {H K R : List Asrt} {ops : Array Oper} {rest : List Oper}
inductive ResD (P : Program) (E : Env) (h : Base) (H : List Asrt) : List ResultVar → List Value → Prop
  | nil : ResD P E h H [] []
  | tmp {t : Nat} {v : Value} {r : List ResultVar} {vs : List Value} (hl : lk E t = some v) (hr : ResD P E h H r vs) : ResD P E h H (.tmp t :: r) (v :: vs)
  | cell {t b : Nat} {ty : TypeId} {us : List Value} {r : List ResultVar} {vs : List Value} (hl : lk E t = some (.pointer (some ⟨b, 0, none⟩))) (hg : aggOf P ty = some true) (hs : szOf P ty = some us.length) (hc : Cels h H b 0 us) (hr : ResD P E h H r vs) : ResD P E h H (.cell t ty :: r) (.agg us.toArray :: vs)
  | one {t b : Nat} {ty : TypeId} {v : Value} {r : List ResultVar} {vs : List Value} (hl : lk E t = some (.pointer (some ⟨b, 0, none⟩))) (hg : aggOf P ty = some false) (hc : Cel h H b 0 v) (hr : ResD P E h H r vs) : ResD P E h H (.cell t ty :: r) (v :: vs)
theorem mapM_resD {a : Act} {w : World} (fa : Fr n E a) (hw : Sat h H w) (f : ResultVar → Sem Value) (hf : ∀ t, f (.tmp t) = pure (a.tmps.getD t undef)) (hf2 : ∀ t ty, f (.cell t ty) = (do loadVar ty (← asAddr (a.tmps.getD t undef)))) : ∀ (rs : List ResultVar) (vs : List Value), ResD P E h H rs vs →
    (rs.mapM f).run P w = .ok vs w
  | _, _, .nil => by simp
  | _, _, .tmp (t := t) (v := v) hl hr => by
    have := mapM_resD fa hw f hf hf2 _ _ hr
    have hg : a.tmps.getD t undef = v := by simp [Array.getD_eq_getD_getElem?, fa.get t v hl]
    simp only [List.mapM_cons, Sem.run_bind, hf, hg, Sem.run_pure, Result.andThen_ok, this]
  | _, _, .cell (t := t) (b := b) (ty := ty) (us := us) hl hg hs hc hr => by
    have := mapM_resD fa hw f hf hf2 _ _ hr
    have hgt : a.tmps.getD t undef = .pointer (some ⟨b, 0, none⟩) := by simp [Array.getD_eq_getD_getElem?, fa.get t _ hl]
    have hld : (loadCells ⟨b, 0, none⟩ us.length).run P w = .ok us.toArray w := run_loadCells_list w _ _ fun j u hj => by
      rw [add_none]; exact (hc.get j u hj).run w hw
    simp only [List.mapM_cons, Sem.run_bind, hf2, hgt, asAddr, Sem.run_pure, Result.andThen_ok, loadVar, run_isAgg hg, run_sizeOf hs, if_true, hld, this]
  | _, _, .one (t := t) (b := b) (ty := ty) (v := v) hl hg hc hr => by
    have := mapM_resD fa hw f hf hf2 _ _ hr
    have hgt : a.tmps.getD t undef = .pointer (some ⟨b, 0, none⟩) := by simp [Array.getD_eq_getD_getElem?, fa.get t _ hl]
    simp [List.mapM_cons, hf2, hgt, asAddr, loadVar, run_isAgg hg, hc.run w hw, this]
theorem run_resD {fn : Func} {a : Act} {w : World} {vs : List Value} (fa : Fr n E a) (hw : Sat h H w) (hr : ResD P E h H fn.results.toList vs) : (results fn a.tmps).run P w = .ok (packV vs) w := by
  unfold results
  rw [Array.mapM_eq_mapM_toList]
  simp only [Sem.run_bind, Sem.run_map]
  rw [mapM_resD (P := P) (w := w) fa hw _ (by intro t; rfl) (by intro t ty; rfl) _ vs hr]
  simp only [Result.andThen_ok, Sem.run_pure]
  match vs with
  | [] => rfl
  | [v] => rfl
  | v :: u :: r => rfl
theorem doneD {fn : Func} {e : Exit} {F H' D : List Asrt} {h0 : Base} {Post : Value → Base → List Asrt → Prop} {vs : List Value} (he : e = .ret ∨ e = .normal) (hr : ResD P E h H fn.results.toList vs)
    (hle : h0.le h) (hH : H = D ++ (H' ++ F)) (hP : Post (packV vs) h H') (hn : n.ds = [] := by rfl) : AT P n (post P fn fun v w' => ∃ h' H', h0.le h' ∧ Post v h' H' ∧ Ok h' (H' ++ F) w') e E h H :=
  ⟨fun a w fa ok => by
    have hk : ∃ h' H'', h0.le h' ∧ Post (packV vs) h' H'' ∧ Ok h' (H'' ++ F) w := ⟨h, H', hle, hP, (hH ▸ ok).drops⟩
    rcases he with rfl | rfl <;> exact ⟨fa.defers.trans hn, packV vs, run_resD fa ok.sat hr, _, rfl, hk⟩⟩

end
end Go.K
