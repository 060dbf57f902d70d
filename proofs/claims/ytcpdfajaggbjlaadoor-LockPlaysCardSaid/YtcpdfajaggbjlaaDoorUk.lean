/-
  Locks compared for being alike. Conditions: each theorem's own.
-/
import Derived.Test.YtcpdfajaggbjlaaDoorUj

namespace Go.K
set_option linter.unusedVariables false
section
variable {P : Program} {t : TypeId}
theorem run_partA (w : World) {cs vs : List Value} {o m : Nat} (hg : aggOf P t = some true) (hs : szOf P t = some m) (hv : (cs.drop o).take m = vs) : (part t cs.toArray o).run P w = .ok (.agg vs.toArray) w := by
  subst hv
  simp [part, run_isAgg hg, run_sizeOf hs]
theorem run_equal_flatN (w : World) (m : Nat) {ds : List TypeDesc} {xs ys : List Value} {r : Bool} (hf : flatD P t = some ds) (hl : leafs ds xs ys = some r) : (Op.equalIn (m + 2) t (.agg xs.toArray) (.agg ys.toArray)).run P w = .ok r w := by
  unfold flatD at hf
  split at hf
  · rename_i fs hu
    split at hf
    · rename_i hc
      have e : P.fieldsOf t = fs := by simp [Program.fieldsOf, hu]
      rw [run_equalIn_struct w (m + 1) t _ _ (by rw [e]; exact hu) hc.1, e]
      exact run_flat w m fs.toList 0 ds [] xs [] ys r hf rfl rfl hl
    · cases hf
  · cases hf
theorem run_eqf (w : World) (m : Nat) {X Y : Array Value} {f : Field} {fs : List Field} {a b : Value} {r q : Bool} (hn : f.name ≠ "_") (ha : (part f.type X f.offset).run P w = .ok a w) (hb : (part f.type Y f.offset).run P w = .ok b w)
    (he : (Op.equalIn (m + 1) f.type a b).run P w = .ok r w) (hq : (Op.eqFields (m + 1) X Y fs).run P w = .ok q w) : (Op.eqFields (m + 1) X Y (f :: fs)).run P w = .ok (r && q) w := by
  rw [Op.eqFields, if_pos hn]
  simp only [Sem.run_bind, ha, hb, Result.andThen_ok, he]
  cases r
  · simp
  · simp [hq]
end
end Go.K
namespace Go.Proofs.YtcpdfajaggbjlaaDoor.Lk
open Go Go.K Go.Proofs Go.Proofs.YtcpdfajaggbjlaaDoor
set_option linter.unusedVariables false
set_option linter.unusedSimpArgs false
set_option maxRecDepth 10000

theorem guardK : Tryd.prog.eqGuardType Tryd.prog.depth 46 = false := by kernel_rfl
theorem fieldsK : ∃ f1 f2 f3 f4 : Field, (Tryd.prog.fieldsOf 46).toList = [f1, f2, f3, f4] ∧ (f1.name ≠ "_" ∧ f1.type = 34 ∧ f1.offset = 0) ∧ (f2.name ≠ "_" ∧ f2.type = 36 ∧ f2.offset = 1) ∧ (f3.name ≠ "_" ∧ f3.type = 3 ∧ f3.offset = 5) ∧ (f4.name ≠ "_" ∧ f4.type = 4 ∧ f4.offset = 6) :=
  ⟨_, _, _, _, by simp only [Program.fieldsOf, Tryd.underlying46]; rfl, ⟨by decide, rfl, rfl⟩, ⟨by decide, rfl, rfl⟩, ⟨by decide, rfl, rfl⟩, by decide, rfl, rfl⟩
theorem thing_eq (x y : PThing) : (decide (x.rng = y.rng) && (decide (x.id = y.id) && (decide (x.frm = y.frm) && decide (x.to = y.to)))) = decide (x = y) := by
  rw [Bool.eq_iff_iff]
  simp only [Bool.and_eq_true, decide_eq_true_eq]
  constructor
  · rintro ⟨h1, h2, h3, h4⟩
    cases x; cases y
    simp only at h1 h2 h3 h4
    subst h1 h2 h3 h4
    rfl
  · rintro rfl
    exact ⟨rfl, rfl, rfl, rfl⟩
theorem eqK (w : World) (x y : PLock) : (Op.equalIn 10000 46 (.agg (cK x).toArray) (.agg (cK y).toArray)).run Tryd.prog w = .ok (decide (x = y)) w := by
  rw [run_equalIn_struct w 9999 _ _ _ (by unfold Program.fieldsOf; rw [Tryd.underlying46]) (by kernel_rfl)]
  obtain ⟨f1, f2, f3, f4, e, ⟨n1, t1, o1⟩, ⟨n2, t2, o2⟩, ⟨n3, t3, o3⟩, ⟨n4, t4, o4⟩⟩ := fieldsK
  rw [e]
  have hth : (Op.equalIn 9999 36 (.agg (cT x.thing).toArray) (.agg (cT y.thing).toArray)).run Tryd.prog w = .ok (decide (x.thing = y.thing)) w := by
    rw [← thing_eq]
    refine K.run_equal_flatN w 9997 (Fx.flat rfl) ?_
    simp only [leafs, leafV, cT]
    rw [if_pos trivial, Bool.and_true, show decide ((x.thing.id : Int) = (y.thing.id : Int)) = decide (x.thing.id = y.thing.id) from by rw [decide_eq_decide]; omega]
  have h4 := K.run_eqf (P := Tryd.prog) w 9998 (X := (cK x).toArray) (Y := (cK y).toArray) (f := f4) (fs := []) (r := decide (x.held = y.held)) (q := true) n4 (by rw [t4, o4]; exact K.run_part w (Fx.agg rfl) rfl) (by rw [t4, o4]; exact K.run_part w (Fx.agg rfl) rfl) (by rw [t4]; exact K.run_leaf w 9998 (Fx.und rfl) rfl) (by simp [Op.eqFields])
  have h3 := K.run_eqf (P := Tryd.prog) w 9998 (X := (cK x).toArray) (Y := (cK y).toArray) (f := f3) (r := decide (x.mode = y.mode)) n3 (by rw [t3, o3]; exact K.run_part w (Fx.agg rfl) rfl) (by rw [t3, o3]; exact K.run_part w (Fx.agg rfl) rfl) (by rw [t3]; exact K.run_leaf w 9998 (Fx.und rfl) (by simp [leafV])) h4
  have h2 := K.run_eqf (P := Tryd.prog) w 9998 (X := (cK x).toArray) (Y := (cK y).toArray) (f := f2) n2 (by rw [t2, o2]; exact K.run_partA w (vs := cT x.thing) (Fx.agg rfl) (Fx.sz rfl) rfl) (by rw [t2, o2]; exact K.run_partA w (vs := cT y.thing) (Fx.agg rfl) (Fx.sz rfl) rfl) (by rw [t2]; exact hth) h3
  have h1 := K.run_eqf (P := Tryd.prog) w 9998 (X := (cK x).toArray) (Y := (cK y).toArray) (f := f1) (r := decide ((x.txn : Int) = (y.txn : Int))) n1 (by rw [t1, o1]; exact K.run_part w (Fx.agg rfl) rfl) (by rw [t1, o1]; exact K.run_part w (Fx.agg rfl) rfl) (by rw [t1]; exact K.run_leaf w 9998 (Fx.und rfl) (by simp [leafV])) h2
  rw [h1]
  congr 1
  rw [Bool.eq_iff_iff]
  simp only [Bool.and_eq_true, decide_eq_true_eq, Bool.and_true]
  constructor
  · rintro ⟨g1, g2, g3, g4⟩
    cases x; cases y
    simp only at g1 g2 g3 g4
    obtain rfl := Int.ofNat.inj g1
    subst g2 g3 g4
    rfl
  · rintro rfl
    exact ⟨rfl, rfl, rfl, rfl⟩
section
variable {n : Nat} {E : Env} {h : Base} {KK : List Asrt} {t' ty : TypeId} {ps : String} {af : Array Edge} {a b : Operand} {dst : Option Nat} {g : Option (Nat × Bool)}
theorem neK (x y : PLock) (hx : lkO E a = some (.agg (cK x).toArray)) (hy : lkO E b = some (.agg (cK y).toArray)) : Pu Tryd.prog n E h KK ⟨dst, .binOp .neq 46 a b t', ty, ps, af, g⟩ (.bool (!decide (x = y))) :=
  ⟨fun s w fa _ => by
    simp only [execOp, fa.eval hx, fa.eval hy, Sem.run_bind, run_eqGuard_agg w .neq 46 a b _ _ guardK, Result.andThen_ok, run_neq_struct, eqK w x y, Sem.run_pure]⟩
end
set_option maxHeartbeats 1000000 in
theorem Same (h : Base) (v1 v2 : Value) (l : List PLock) (hv1 : SL h 7 v1 (l.map cK)) (hv2 : SL h 7 v2 (l.map cK)) (hl : l.length ≤ 17592186044415) :
    TrV Tryd.prog 14 [v1, v2] h [] (.bool true) [] := by
  have hlen : (l.map cK).length = l.length := List.length_map ..
  obtain ⟨ao, ca, rfl⟩ := hv1.len
  obtain ⟨ap, cb, rfl⟩ := hv2.len
  rw [hlen] at hv1 hv2 ⊢
  refine K.enter Tryd.func14 rfl (Nat.le_of_ble_eq_true rfl) (fun F => ?_)
  simp only [List.nil_append, List.cons_append]
  (repeat' (first | refine X.rq ?_ | (refine X.rc ?_ ?_ <;> intro hc <;> first | (exfalso; omega) | skip)))
  all_goals first | (exfalso; omega) | skip
  refine K.c_loop (σ := Nat) (fun j => [(0, .slice ao l.length ca), (1, .slice ap l.length cb), (5, .int .i64 j)]) (fun _ => h) (fun _ => F) (fun j => j ≤ l.length) (fun j => l.length - j) 0 (Nat.zero_le _) (by repeat (first | exact K.Sub.nil _ | refine K.Sub.cons rfl ?_)) rfl rfl ?_
  intro j hj KL hKL
  by_cases hjl : j < l.length
  · have hx1 : l[j]? = some l[j] := List.getElem?_eq_getElem hjl
    generalize l[j] = x at hx1
    have hc0 : (l.map cK)[j]? = some (cK x) := by rw [List.getElem?_map, hx1]; rfl
    obtain ⟨bb, oo, rfl, hcx⟩ := hv1.at hc0
    obtain ⟨b2, o2, rfl, hcy⟩ := hv2.at hc0
    (repeat' (first | refine X.rq ?_ | (refine X.rc ?_ ?_ <;> intro hc <;> first | (exfalso; omega) | skip)))
    refine X.draw ([]) [] (.pu 0 (.pu 1 (.pu 2 (.pu 4 (.pu 5 (.pu 6 (.st 3 (.st 7 (.pu 8 .nil))))))))) ?_ (hQ := by repeat (first | with_reducible refine K.NoPanic.then ?_ | with_reducible refine K.NoPanic.inBlock ?_ | with_reducible exact K.post_noPanic _ _ | exact K.post_noPanic _ _))
    refine K.d_pu rfl (fun _ _ => X.mv) rfl ?_
    refine K.d_pu rfl (fun _ _ => X.mv) rfl ?_
    refine K.d_pu rfl (fun _ _ => X.ia) rfl ?_
    refine K.d_pu rfl (fun _ _ => X.mv) rfl ?_
    refine K.d_pu rfl (fun _ _ => X.mv) rfl ?_
    refine K.d_pu rfl (fun _ _ => X.ia) rfl ?_
    refine K.d_st rfl (K.p_loadN (vs := cK x) (Fx.agg rfl) (Fx.sz rfl) rfl (Cels.up hcx)) rfl ?_
    refine K.d_st rfl (K.p_loadN (vs := cK x) (Fx.agg rfl) (Fx.sz rfl) rfl (Cels.up hcy)) rfl ?_
    refine K.d_pu rfl (fun _ _ => neK x x rfl rfl) rfl ?_
    refine K.d_nil ?_
    rw [decide_eq_true (rfl : x = x), Bool.not_true]
    (repeat' (first | refine X.rq ?_ | (refine X.rc ?_ ?_ <;> intro hc <;> first | (exfalso; omega) | skip)))
    refine K.a_round hKL (j + 1) (by omega) (by repeat (first | exact K.Sub.nil _ | refine K.Sub.cons rfl ?_)) rfl rfl (by omega)
  · obtain rfl : j = l.length := by omega
    (repeat' (first | refine X.rq ?_ | (refine X.rc ?_ ?_ <;> intro hc <;> first | (exfalso; omega) | skip)))
    refine K.done (by first | exact Or.inl rfl | exact Or.inr rfl) rfl (by first | exact K.Base.le.refl _ | assumption) (H' := []) rfl ⟨rfl, rfl, rfl⟩
set_option maxHeartbeats 1000000 in
theorem Pairs (h : Base) (v1 v2 : Value) (l : List PW) (hv1 : SL h 2 v1 (l.map cW)) (hv2 : SL h 2 v2 (l.map cW)) (hl : l.length ≤ 17592186044415) :
    TrV Tryd.prog 15 [v1, v2] h [] (.bool true) [] := by
  have hlen : (l.map cW).length = l.length := List.length_map ..
  obtain ⟨ao, ca, rfl⟩ := hv1.len
  obtain ⟨ap, cb, rfl⟩ := hv2.len
  rw [hlen] at hv1 hv2 ⊢
  refine K.enter Tryd.func15 rfl (Nat.le_of_ble_eq_true rfl) (fun F => ?_)
  simp only [List.nil_append, List.cons_append]
  (repeat' (first | refine X.rq ?_ | (refine X.rc ?_ ?_ <;> intro hc <;> first | (exfalso; omega) | skip)))
  all_goals first | (exfalso; omega) | skip
  refine K.c_loop (σ := Nat) (fun j => [(0, .slice ao l.length ca), (1, .slice ap l.length cb), (5, .int .i64 j)]) (fun _ => h) (fun _ => F) (fun j => j ≤ l.length) (fun j => l.length - j) 0 (Nat.zero_le _) (by repeat (first | exact K.Sub.nil _ | refine K.Sub.cons rfl ?_)) rfl rfl ?_
  intro j hj KL hKL
  by_cases hjl : j < l.length
  · have hx1 : l[j]? = some l[j] := List.getElem?_eq_getElem hjl
    generalize l[j] = x at hx1
    have hc0 : (l.map cW)[j]? = some (cW x) := by rw [List.getElem?_map, hx1]; rfl
    obtain ⟨bb, oo, rfl, hcx⟩ := hv1.at hc0
    obtain ⟨b2, o2, rfl, hcy⟩ := hv2.at hc0
    (repeat' (first | refine X.rq ?_ | (refine X.rc ?_ ?_ <;> intro hc <;> first | (exfalso; omega) | skip)))
    refine X.draw ([]) [] (.pu 0 (.pu 1 (.pu 2 (.pu 4 (.pu 5 (.pu 6 (.st 3 (.st 7 (.pu 8 .nil))))))))) ?_ (hQ := by repeat (first | with_reducible refine K.NoPanic.then ?_ | with_reducible refine K.NoPanic.inBlock ?_ | with_reducible exact K.post_noPanic _ _ | exact K.post_noPanic _ _))
    refine K.d_pu rfl (fun _ _ => X.mv) rfl ?_
    refine K.d_pu rfl (fun _ _ => X.mv) rfl ?_
    refine K.d_pu rfl (fun _ _ => X.ia) rfl ?_
    refine K.d_pu rfl (fun _ _ => X.mv) rfl ?_
    refine K.d_pu rfl (fun _ _ => X.mv) rfl ?_
    refine K.d_pu rfl (fun _ _ => X.ia) rfl ?_
    refine K.d_st rfl (K.p_loadN (vs := cW x) (Fx.agg rfl) (Fx.sz rfl) rfl (Cels.up hcx)) rfl ?_
    refine K.d_st rfl (K.p_loadN (vs := cW x) (Fx.agg rfl) (Fx.sz rfl) rfl (Cels.up hcy)) rfl ?_
    refine K.d_pu rfl (fun _ _ => neP x x rfl rfl) rfl ?_
    refine K.d_nil ?_
    rw [decide_eq_true (rfl : x = x), Bool.not_true]
    (repeat' (first | refine X.rq ?_ | (refine X.rc ?_ ?_ <;> intro hc <;> first | (exfalso; omega) | skip)))
    refine K.a_round hKL (j + 1) (by omega) (by repeat (first | exact K.Sub.nil _ | refine K.Sub.cons rfl ?_)) rfl rfl (by omega)
  · obtain rfl : j = l.length := by omega
    (repeat' (first | refine X.rq ?_ | (refine X.rc ?_ ?_ <;> intro hc <;> first | (exfalso; omega) | skip)))
    refine K.done (by first | exact Or.inl rfl | exact Or.inr rfl) rfl (by first | exact K.Base.le.refl _ | assumption) (H' := []) rfl ⟨rfl, rfl, rfl⟩
set_option maxHeartbeats 1000000 in
theorem Numbers (h : Base) (v1 v2 : Value) (l : List Nat) (hv1 : SL h 1 v1 (l.map (fun n => [nV n]))) (hv2 : SL h 1 v2 (l.map (fun n => [nV n]))) (hl : l.length ≤ 17592186044415) :
    TrV Tryd.prog 27 [v1, v2] h [] (.bool true) [] := by
  have hlen : (l.map (fun n => [nV n])).length = l.length := List.length_map ..
  obtain ⟨ao, ca, rfl⟩ := hv1.len
  obtain ⟨ap, cb, rfl⟩ := hv2.len
  rw [hlen] at hv1 hv2 ⊢
  refine K.enter Tryd.func27 rfl (Nat.le_of_ble_eq_true rfl) (fun F => ?_)
  simp only [List.nil_append, List.cons_append]
  (repeat' (first | refine X.rq ?_ | (refine X.rc ?_ ?_ <;> intro hc <;> first | (exfalso; omega) | skip)))
  all_goals first | (exfalso; omega) | skip
  refine K.c_loop (σ := Nat) (fun j => [(0, .slice ao l.length ca), (1, .slice ap l.length cb), (5, .int .i64 j)]) (fun _ => h) (fun _ => F) (fun j => j ≤ l.length) (fun j => l.length - j) 0 (Nat.zero_le _) (by repeat (first | exact K.Sub.nil _ | refine K.Sub.cons rfl ?_)) rfl rfl ?_
  intro j hj KL hKL
  by_cases hjl : j < l.length
  · have hx1 : l[j]? = some l[j] := List.getElem?_eq_getElem hjl
    generalize l[j] = x at hx1
    have hc0 : (l.map (fun n => [nV n]))[j]? = some ([nV x]) := by rw [List.getElem?_map, hx1]; rfl
    obtain ⟨bb, oo, rfl, hcx⟩ := hv1.at hc0
    obtain ⟨b2, o2, rfl, hcy⟩ := hv2.at hc0
    (repeat' (first | refine X.rq ?_ | (refine X.rc ?_ ?_ <;> intro hc <;> first | (exfalso; omega) | skip)))
    refine X.draw ([]) [] (.pu 0 (.pu 1 (.pu 2 (.pu 4 (.pu 5 (.pu 6 (.st 3 (.st 7 (.pu 8 .nil))))))))) ?_ (hQ := by repeat (first | with_reducible refine K.NoPanic.then ?_ | with_reducible refine K.NoPanic.inBlock ?_ | with_reducible exact K.post_noPanic _ _ | exact K.post_noPanic _ _))
    refine K.d_pu rfl (fun _ _ => X.mv) rfl ?_
    refine K.d_pu rfl (fun _ _ => X.mv) rfl ?_
    refine K.d_pu rfl (fun _ _ => X.ia) rfl ?_
    refine K.d_pu rfl (fun _ _ => X.mv) rfl ?_
    refine K.d_pu rfl (fun _ _ => X.mv) rfl ?_
    refine K.d_pu rfl (fun _ _ => X.ia) rfl ?_
    refine K.d_st rfl (K.p_load (v := .int .u32 x) (Fx.agg rfl) rfl (Cels.up hcx).1) rfl ?_
    refine K.d_st rfl (K.p_load (v := .int .u32 x) (Fx.agg rfl) rfl (Cels.up hcy).1) rfl ?_
    refine K.d_pu rfl (fun _ _ => X.bneq) rfl ?_
    refine K.d_nil ?_
    (repeat' (first | refine X.rq ?_ | (refine X.rc ?_ ?_ <;> intro hc <;> first | (exfalso; omega) | skip)))
    all_goals first | (exfalso; omega) | skip
    refine K.a_round hKL (j + 1) (by omega) (by repeat (first | exact K.Sub.nil _ | refine K.Sub.cons rfl ?_)) rfl rfl (by omega)
  · obtain rfl : j = l.length := by omega
    (repeat' (first | refine X.rq ?_ | (refine X.rc ?_ ?_ <;> intro hc <;> first | (exfalso; omega) | skip)))
    refine K.done (by first | exact Or.inl rfl | exact Or.inr rfl) rfl (by first | exact K.Base.le.refl _ | assumption) (H' := []) rfl ⟨rfl, rfl, rfl⟩
end Go.Proofs.YtcpdfajaggbjlaaDoor.Lk
