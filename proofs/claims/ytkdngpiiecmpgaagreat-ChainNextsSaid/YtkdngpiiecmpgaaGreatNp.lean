/-
  The least From and who is next are the document's: walked. Conditions: each theorem's own.
-/
import Derived.Test.YtkdngpiiecmpgaaGreatNo

namespace Go.Proofs.YtkdngpiiecmpgaaGreat.Ch
open Go Go.K Go.Proofs Go.Proofs.YtkdngpiiecmpgaaGreat Go.Proofs.YtkdngpiiecmpgaaGreat.Pg Go.Proofs.YtkdngpiiecmpgaaGreat.Rc
set_option linter.unusedVariables false
set_option linter.unusedSimpArgs false
set_option maxRecDepth 10000

theorem ones_D (l : List PDirty) : ∀ e ∈ l.map cD, ones e = true := fun e he => by
  obtain ⟨x, _, rfl⟩ := List.mem_map.1 he
  rfl
theorem ones_L (l : List PLive) : ∀ e ∈ l.map cL, ones e = true := fun e he => by
  obtain ⟨x, _, rfl⟩ := List.mem_map.1 he
  rfl
theorem two_D (l : List PDirty) : ∀ e ∈ l.map cD, e.length = 2 := fun e he => by
  obtain ⟨x, _, rfl⟩ := List.mem_map.1 he
  rfl
theorem four_L (l : List PLive) : ∀ e ∈ l.map cL, e.length = 4 := fun e he => by
  obtain ⟨x, _, rfl⟩ := List.mem_map.1 he
  rfl
set_option maxHeartbeats 8000000 in
theorem ChainNextsW (h : Base) (v : Value) (ds : List PDirty) (w : Value) (ls : List PLive) (hd : SL h 2 v (ds.map cD)) (hdl : ds.length ≤ 9223372036854775807) (hl : SL h 4 w (ls.map cL)) (hll : ls.length ≤ 9223372036854775807) :
    Tr Tryz.prog 5 [v, w] h [] (fun u h' H' => u = .bool true ∧ H' = []) := by
  obtain ⟨ao, ca, rfl⟩ := hd.len
  obtain ⟨ao2, ca2, rfl⟩ := hl.len
  rw [List.length_map] at hd hl ⊢
  rw [List.length_map]
  refine K.enter Tryz.func5 rfl (Nat.le_of_ble_eq_true rfl) (fun F => ?_)
  simp only [List.nil_append]
  by_cases hlong : 2000 < ds.length ∨ 2000 < ls.length
  · have hal := Alive h
    by_cases h1 : 2000 < ds.length
    · (repeat' (first | refine X.rq ?_ | (refine X.rc ?_ ?_ <;> intro hc <;> first | (exfalso; omega) | skip)))
      refine K.l_callV (Fx.cal rfl) rfl hal (K.pp [] rfl) rfl rfl ?_
      simp only [List.nil_append]
      (repeat' (first | refine X.rq ?_ | (refine X.rc ?_ ?_ <;> intro hc <;> first | (exfalso; omega) | skip)))
      refine K.done (by first | exact Or.inl rfl | exact Or.inr rfl) rfl (by first | exact K.Base.le.refl _ | assumption) (H' := []) rfl ⟨rfl, rfl⟩
    · have h2 : 2000 < ls.length := by omega
      (repeat' (first | refine X.rq ?_ | (refine X.rc ?_ ?_ <;> intro hc <;> first | (exfalso; omega) | skip)))
      refine K.l_callV (Fx.cal rfl) rfl hal (K.pp [] rfl) rfl rfl ?_
      simp only [List.nil_append]
      (repeat' (first | refine X.rq ?_ | (refine X.rc ?_ ?_ <;> intro hc <;> first | (exfalso; omega) | skip)))
      refine K.done (by first | exact Or.inl rfl | exact Or.inr rfl) rfl (by first | exact K.Base.le.refl _ | assumption) (H' := []) rfl ⟨rfl, rfl⟩
  · have h1 : ds.length ≤ 2000 := by omega
    have h2 : ls.length ≤ 2000 := by omega
    (repeat' (first | refine X.rq ?_ | (refine X.rc ?_ ?_ <;> intro hc <;> first | (exfalso; omega) | skip)))
    have hs1 : ∀ KK : List Asrt, K.Src Tryz.prog h KK 2 (.slice ao ds.length ca) ds.length (ds.map cD).flatten := fun KK => by
      have := hd.src (P := Tryz.prog) (K := KK) (ones_D ds)
      rwa [List.length_map] at this
    have hs2 : ∀ KK : List Asrt, K.Src Tryz.prog h KK 4 (.slice ao2 ls.length ca2) ls.length (ls.map cL).flatten := fun KK => by
      have := hl.src (P := Tryz.prog) (K := KK) (ones_L ls)
      rwa [List.length_map] at this
    refine K.l_buildSlice (Fx.und rfl) (Fx.sz rfl) rfl (Fx.zr rfl) rfl rfl rfl (cs := []) rfl rfl (fun B18 => ?_)
    refine K.WL.bufOf (m := 0) (s := 2) rfl (by decide) ?_
    (repeat' (first | refine X.rq ?_ | (refine X.rc ?_ ?_ <;> intro hc <;> first | (exfalso; omega) | skip)))
    refine K.l_append_at 0 rfl (Fx.und rfl) (Fx.und rfl) rfl (Fx.sz rfl) (Fx.zr rfl) rfl (Fx.byt rfl) rfl rfl (hs1 _) (by omega) (by omega) rfl (fun a3 c3 => ?_)
    simp only [List.set_cons_zero, List.set_cons_succ, List.eraseIdx_cons_zero, List.eraseIdx_cons_succ, List.cons_append, List.nil_append]
    rw [Nat.zero_add]
    have hfz : ds.length = (ds.map cD).length := (List.length_map ..).symm
    have hfz2 : ls.length = (ls.map cL).length := (List.length_map ..).symm
    refine K.WL.freezeRowN hfz (two_D ds) (fun h3 le3 hA => ?_)
    (repeat' (first | refine X.rq ?_ | (refine X.rc ?_ ?_ <;> intro hc <;> first | (exfalso; omega) | skip)))
    refine K.l_buildSlice (Fx.und rfl) (Fx.sz rfl) rfl (Fx.zr rfl) rfl rfl rfl (cs := []) rfl rfl (fun B21 => ?_)
    refine K.WL.bufOf (m := 0) (s := 4) rfl (by decide) ?_
    (repeat' (first | refine X.rq ?_ | (refine X.rc ?_ ?_ <;> intro hc <;> first | (exfalso; omega) | skip)))
    have hs3 : ∀ KK : List Asrt, K.Src Tryz.prog h3 KK 4 (.slice ao2 ls.length ca2) ls.length (ls.map cL).flatten := fun KK => by
      have := (hl.le le3).src (P := Tryz.prog) (K := KK) (ones_L ls)
      rwa [List.length_map] at this
    refine K.l_append_at 0 rfl (Fx.und rfl) (Fx.und rfl) rfl (Fx.sz rfl) (Fx.zr rfl) rfl (Fx.byt rfl) rfl rfl (hs3 _) (by omega) (by omega) rfl (fun a4 c4 => ?_)
    simp only [List.set_cons_zero, List.set_cons_succ, List.eraseIdx_cons_zero, List.eraseIdx_cons_succ, List.cons_append, List.nil_append]
    rw [Nat.zero_add]
    refine K.WL.freezeRowN hfz2 (four_L ls) (fun h4 le4 hB => ?_)
    have hA := hA.le le4
    have hd4 := hd.le (le3.trans le4)
    have hl4 := hl.le (le3.trans le4)
    have le5 := le3.trans le4
    have f1 := CFrom h4 _ ds hA hdl
    have f2 := RFrom h4 _ ds hd4 hdl
    have f3 := CNext h4 _ ls hB hll
    have f4 := RNext h4 _ ls hl4 hll
    clear hs1 hs2 hs3
    (repeat' (first | refine X.rq ?_ | (refine X.rc ?_ ?_ <;> intro hc <;> first | (exfalso; omega) | skip)))
    refine K.l_call (Fx.cal rfl) rfl f1 (K.pp [] rfl) rfl ?_
    rintro u h' H' - ⟨e, rfl, n, rfl, hn⟩
    obtain rfl := e
    simp only [List.nil_append]
    (repeat' (first | refine X.rq ?_ | (refine X.rc ?_ ?_ <;> intro hc <;> first | (exfalso; omega) | skip)))
    refine K.l_call (Fx.cal rfl) rfl f2 (K.pp [] rfl) rfl ?_
    rintro u h' H' - ⟨e, rfl, n', rfl, hn'⟩
    obtain rfl := e
    obtain rfl := hn.eq hn'
    simp only [List.nil_append]
    (repeat' (first | refine X.rq ?_ | (refine X.rc ?_ ?_ <;> intro hc <;> first | (exfalso; omega) | skip)))
    refine K.l_call (Fx.cal rfl) rfl f3 (K.pp [] rfl) rfl ?_
    rintro u h' H' - ⟨e, rfl, k, rfl, hk⟩
    obtain rfl := e
    simp only [List.nil_append]
    (repeat' (first | refine X.rq ?_ | (refine X.rc ?_ ?_ <;> intro hc <;> first | (exfalso; omega) | skip)))
    refine K.l_call (Fx.cal rfl) rfl f4 (K.pp [] rfl) rfl ?_
    rintro u h' H' - ⟨e, rfl, k', rfl, hk'⟩
    obtain rfl := e
    obtain rfl := hk.eq hk'
    simp only [List.nil_append]
    (repeat' (first | refine X.rq ?_ | (refine X.rc ?_ ?_ <;> intro hc <;> first | (exfalso; omega) | skip)))
    refine K.c_loop (σ := Nat) (fun j => [(0, .slice ao ds.length ca), (1, .slice ao2 ls.length ca2), (5, bufV a3 ds.length c3), (6, bufV a4 ls.length c4), (7, .int .i64 j)]) (fun _ => h4) (fun _ => F) (fun j => j ≤ ds.length) (fun j => ds.length - j) 0 (Nat.zero_le _) (by repeat (first | exact K.Sub.nil _ | refine K.Sub.cons rfl ?_)) rfl rfl ?_
    rintro j hj KL hKL
    by_cases hjl : j < ds.length
    · have hx1 : ds[j]? = some (ds[j]'hjl) := List.getElem?_eq_getElem hjl
      have hc0 : (ds.map cD)[((j : Nat) : Int).toNat]? = some (cD (ds[j]'hjl)) := by rw [Int.toNat_natCast, List.getElem?_map, hx1]; rfl
      generalize ds[j]'hjl = x at hx1 hc0
      (repeat' (first | refine X.rq ?_ | (refine X.rc ?_ ?_ <;> intro hc <;> first | (exfalso; omega) | skip)))
      refine X.draw ([]) [] (.pu 0 (.pu 1 (.pu 4 (.pu 5 (.st 2 (.st 3 (.st 6 (.st 7 (.pu 8 .nil))))))))) ?_
      refine K.d_pu rfl (fun _ _ => X.mv) rfl ?_
      refine K.d_pu rfl (fun _ _ => X.mv) rfl ?_
      refine K.d_pu rfl (fun _ _ => X.mv) rfl ?_
      refine K.d_pu rfl (fun _ _ => X.mv) rfl ?_
      refine K.d_stE rfl (K.p_indexL hA (Fx.und rfl) (Fx.sz rfl) rfl rfl (by omega) hc0) rfl ?_
      rintro v3 ⟨b3, o3, rfl, hcel3⟩
      refine K.d_st rfl (K.p_loadM (Fx.agg rfl) rfl (Cels.up hcel3) (Fx.sz rfl) rfl) rfl ?_
      refine K.d_stE rfl (K.p_indexL hd4 (Fx.und rfl) (Fx.sz rfl) rfl rfl (by omega) hc0) rfl ?_
      rintro v4 ⟨b4, o4, rfl, hcel4⟩
      refine K.d_st rfl (K.p_loadM (Fx.agg rfl) rfl (Cels.up hcel4) (Fx.sz rfl) rfl) rfl ?_
      refine K.d_pu rfl (fun _ _ => X.bneq) rfl ?_
      refine K.d_nil ?_
      simp only [decide_true, Bool.and_true, Bool.and_self, Bool.not_true, beq_self_eq_true]
      (repeat' (first | refine X.rq ?_ | (refine X.rc ?_ ?_ <;> intro hc <;> first | (exfalso; omega) | skip)))
      refine K.a_round hKL (j + 1) (by omega) (by repeat (first | exact K.Sub.nil _ | refine K.Sub.cons rfl ?_)) rfl rfl (by omega)
    · obtain rfl : j = ds.length := by omega
      (repeat' (first | refine X.rq ?_ | (refine X.rc ?_ ?_ <;> intro hc <;> first | (exfalso; omega) | skip)))
      refine K.c_loop (σ := Nat) (fun j => [(0, .slice ao ds.length ca), (1, .slice ao2 ls.length ca2), (5, bufV a3 ds.length c3), (6, bufV a4 ls.length c4), (8, .int .i64 j)]) (fun _ => h4) (fun _ => F) (fun j => j ≤ ls.length) (fun j => ls.length - j) 0 (Nat.zero_le _) (by repeat (first | exact K.Sub.nil _ | refine K.Sub.cons rfl ?_)) rfl rfl ?_
      rintro j hj KM hKM
      by_cases hjl : j < ls.length
      · have hx1 : ls[j]? = some (ls[j]'hjl) := List.getElem?_eq_getElem hjl
        have hc0 : (ls.map cL)[((j : Nat) : Int).toNat]? = some (cL (ls[j]'hjl)) := by rw [Int.toNat_natCast, List.getElem?_map, hx1]; rfl
        generalize ls[j]'hjl = x at hx1 hc0
        (repeat' (first | refine X.rq ?_ | (refine X.rc ?_ ?_ <;> intro hc <;> first | (exfalso; omega) | skip)))
        refine X.draw ([]) [] (.pu 0 (.pu 1 (.pu 4 (.pu 5 (.st 2 (.st 3 (.st 6 (.st 7 (.pu 8 .nil))))))))) ?_
        refine K.d_pu rfl (fun _ _ => X.mv) rfl ?_
        refine K.d_pu rfl (fun _ _ => X.mv) rfl ?_
        refine K.d_pu rfl (fun _ _ => X.mv) rfl ?_
        refine K.d_pu rfl (fun _ _ => X.mv) rfl ?_
        refine K.d_stE rfl (K.p_indexL hB (Fx.und rfl) (Fx.sz rfl) rfl rfl (by omega) hc0) rfl ?_
        rintro v3 ⟨b3, o3, rfl, hcel3⟩
        refine K.d_st rfl (K.p_loadM (Fx.agg rfl) rfl (Cels.up hcel3) (Fx.sz rfl) rfl) rfl ?_
        refine K.d_stE rfl (K.p_indexL hl4 (Fx.und rfl) (Fx.sz rfl) rfl rfl (by omega) hc0) rfl ?_
        rintro v4 ⟨b4, o4, rfl, hcel4⟩
        refine K.d_st rfl (K.p_loadM (Fx.agg rfl) rfl (Cels.up hcel4) (Fx.sz rfl) rfl) rfl ?_
        refine K.d_pu rfl (fun _ _ => X.bneq) rfl ?_
        refine K.d_nil ?_
        simp only [decide_true, Bool.and_true, Bool.and_self, Bool.not_true, beq_self_eq_true]
        (repeat' (first | refine X.rq ?_ | (refine X.rc ?_ ?_ <;> intro hc <;> first | (exfalso; omega) | skip)))
        refine K.a_round hKM (j + 1) (by omega) (by repeat (first | exact K.Sub.nil _ | refine K.Sub.cons rfl ?_)) rfl rfl (by omega)
      · obtain rfl : j = ls.length := by omega
        have hal := Alive h4
        (repeat' (first | refine X.rq ?_ | (refine X.rc ?_ ?_ <;> intro hc <;> first | (exfalso; omega) | skip)))
        refine K.l_callV (Fx.cal rfl) rfl hal (K.pp [] rfl) rfl rfl ?_
        simp only [List.nil_append]
        (repeat' (first | refine X.rq ?_ | (refine X.rc ?_ ?_ <;> intro hc <;> first | (exfalso; omega) | skip)))
        refine K.done (by first | exact Or.inl rfl | exact Or.inr rfl) rfl (by first | exact K.Base.le.refl _ | assumption) (H' := []) rfl ⟨rfl, rfl⟩
end Go.Proofs.YtkdngpiiecmpgaaGreat.Ch
