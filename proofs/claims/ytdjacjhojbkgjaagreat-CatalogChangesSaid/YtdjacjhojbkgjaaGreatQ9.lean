/-
  Texts joined: Dc Dd. Conditions: each theorem's own.
-/
import Derived.Test.YtdjacjhojbkgjaaGreatQ8
section
namespace Go.Proofs.YtdjacjhojbkgjaaGreat.Rw
open Go Go.K Go.Proofs Go.Proofs.YtdjacjhojbkgjaaGreat
set_option linter.unusedVariables false
set_option linter.unusedSimpArgs false
set_option maxRecDepth 10000

def okVP (v : Val) : Prop := (v.kind = 0 ∧ v.n = 0 ∧ v.s = ⟨#[]⟩) ∨ (v.kind = 1 ∧ v.s = ⟨#[]⟩) ∨ (v.kind = 2 ∧ v.n = 0 ∧ v.s.size ≤ 64) ∨ (v.kind = 3 ∧ v.s = ⟨#[]⟩ ∧ (v.n = 0 ∨ v.n = 1))
instance (v : Val) : Decidable (okVP v) := by unfold okVP; infer_instance
def okV (v : Val) : Bool := decide (okVP v)

theorem okV_iff (v : Val) : okV v = true ↔ okVP v := decide_eq_true_iff
theorem size0 : (⟨#[]⟩ : ByteArray).size = 0 := rfl

theorem ValueMay (h : Base) (v : Val) (hw : wfV v) : TrV Tryz.prog 76 [.agg (cV v).toArray] h [] (.bool (okV v)) [] := by
  have hk1 := hw.k1
  have hk2 := hw.k2
  have hs := hw.s
  refine K.enter Tryz.func76 rfl (Nat.le_of_ble_eq_true rfl) (fun F => ?_)
  (repeat' (first | refine X.rq ?_ | (refine X.rc ?_ ?_ <;> intro hc <;> first | (exfalso; omega) | skip)))
  refine K.l_box rfl rfl rfl (fun B => ?_)
  (repeat' (first | refine X.rq ?_ | (refine X.rc ?_ ?_ <;> intro hc <;> first | (exfalso; omega) | skip)))
  all_goals
    refine K.AT.drop ?_
    refine K.done (by first | exact Or.inl rfl | exact Or.inr rfl) rfl (by first | exact K.Base.le.refl _ | assumption) (H' := []) rfl ⟨?_, rfl, rfl⟩
    show Value.bool _ = Value.bool _
    congr 1
    rw [Bool.eq_iff_iff, okV_iff]
    unfold okVP
    simp only [Bool.and_eq_true, decide_eq_true_eq, Bool.false_eq_true, and_true]
    by_cases hp : v.s = ⟨#[]⟩
    · first
        | exact absurd hp (by assumption)
        | (simp only [hp, size0, eq_self, and_true, true_and, iff_true, true_iff, false_iff, iff_false]
           omega)
    · first
        | exact absurd (by assumption) hp
        | (simp only [hp, and_false, false_and, or_false, false_or, iff_false, false_iff, true_iff, iff_true]
           omega)

end Go.Proofs.YtdjacjhojbkgjaaGreat.Rw
end

section
namespace Go.Proofs.YtdjacjhojbkgjaaGreat.Rw
open Go Go.K Go.Proofs Go.Proofs.YtdjacjhojbkgjaaGreat
set_option linter.unusedVariables false
set_option linter.unusedSimpArgs false
set_option maxRecDepth 10000

def fitsL : List Col → List Val → Int
  | c :: cs, v :: vs => if okV v = false then 5 else if v.kind ≠ 0 ∧ v.kind ≠ c.kind then 30 else if v.kind = 0 ∧ c.need = true then 50 else fitsL cs vs
  | _, _ => 0
def fitsE (l : List Col) (r : List Val) : Int := if mayB l = false ∨ r.length ≠ l.length then 1 else fitsL l r
def eV (n : Int) : Value := .int .i64 n

set_option maxHeartbeats 1000000 in
theorem Fits (h : Base) (K0 : List Asrt) (v u : Value) (l : List Col) (r : List Val) (hv : SL h 3 v (l.map cC)) (hu : SLK h K0 3 u (r.map cV)) (hw : ∀ c ∈ l, wfC c) (hx : ∀ c ∈ r, wfV c) (hl : l.length ≤ 9223372036854775807) (hr : r.length ≤ 9223372036854775807) :
    TrV Tryz.prog 47 [v, u] h K0 (eV (fitsE l r)) K0 := by
  have hlen : (l.map cC).length = l.length := List.length_map ..
  have hlen2 : (r.map cV).length = r.length := List.length_map ..
  obtain ⟨ao, ca, rfl⟩ := hv.len
  obtain ⟨ao2, ca2, rfl⟩ := hu.len
  rw [hlen] at hv ⊢
  rw [hlen2] at hu ⊢
  refine K.enter Tryz.func47 rfl (Nat.le_of_ble_eq_true rfl) (fun F => ?_)
  (repeat' (first | refine X.rq ?_ | (refine X.rc ?_ ?_ <;> intro hc <;> first | (exfalso; omega) | skip)))
  refine K.l_callV (F := K0 ++ F) (Fx.cal rfl) rfl (May h _ l hv hw hl) (List.Perm.refl _) rfl rfl ?_
  simp only [List.nil_append]
  cases hm : mayB l with
  | false =>
    rw [fitsE, if_pos (.inl hm)]
    (repeat' (first | refine X.rq ?_ | (refine X.rc ?_ ?_ <;> intro hc <;> first | (exfalso; omega) | skip)))
    refine K.done (by first | exact Or.inl rfl | exact Or.inr rfl) rfl (by first | exact K.Base.le.refl _ | assumption) (H' := K0) rfl ⟨rfl, rfl, rfl⟩
  | true =>
    obtain ⟨hl1, hl2⟩ := mayB_len16 hm
    by_cases hne : r.length = l.length
    · have hfe : fitsE l r = fitsL l r := by rw [fitsE, if_neg]; rintro (e | e); (rw [hm] at e; cases e); exact e hne
      (repeat' (first | refine X.rq ?_ | (refine X.rc ?_ ?_ <;> intro hc <;> first | (exfalso; omega) | skip)))
      refine K.c_loop (σ := Nat) (fun j => [(0, .slice ao l.length ca), (17, .slice ao2 r.length ca2), (18, .int .i64 r.length), (19, .int .i64 j)]) (fun _ => h) (fun _ => K0 ++ F)
        (fun j => j ≤ r.length ∧ fitsL (l.drop j) (r.drop j) = fitsL l r) (fun j => r.length - j) 0 ⟨Nat.zero_le _, rfl⟩ (by repeat (first | exact K.Sub.nil _ | refine K.Sub.cons rfl ?_)) rfl rfl ?_
      rintro j ⟨hj, hfit⟩ KL hKL
      by_cases hjr : j < r.length
      · have hjl : j < l.length := by omega
        have hc0 : (l.map cC)[((j : Nat) : Int).toNat]? = some (cC l[j]) := by rw [Int.toNat_natCast, List.getElem?_map, List.getElem?_eq_getElem hjl]; rfl
        have hd0 : (r.map cV)[((j : Nat) : Int).toNat]? = some (cV r[j]) := by rw [Int.toNat_natCast, List.getElem?_map, List.getElem?_eq_getElem hjr]; rfl
        have hwc : wfC l[j] := hw _ (List.getElem_mem hjl)
        have hwv : wfV r[j] := hx _ (List.getElem_mem hjr)
        rw [List.drop_eq_getElem_cons hjl, List.drop_eq_getElem_cons hjr, fitsL] at hfit
        generalize l[j] = c at hc0 hwc hfit
        generalize r[j] = d at hd0 hwv hfit
        have hk1 := hwc.k1
        have hk2 := hwc.k2
        have hk3 := hwv.k1
        have hk4 := hwv.k2
        (repeat' (first | refine X.rq ?_ | (refine X.rc ?_ ?_ <;> intro hc <;> first | (exfalso; omega) | skip)))
        refine K.s_pureE (K.p_indexK hu (Fx.und rfl) (Fx.sz rfl) rfl rfl (by omega) hd0) rfl ?_
        rintro v2 ⟨b, o, rfl, hcel⟩
        refine K.s_pure (K.p_loadM (Fx.agg rfl) rfl (Cels.sub hcel (fun A hA => by simp [hA])) (Fx.sz rfl) rfl) rfl ?_
        refine K.l_alloc (Fx.zr rfl) rfl rfl (fun B => ?_)
        (repeat' (first | refine X.rq ?_ | (refine X.rc ?_ ?_ <;> intro hc <;> first | (exfalso; omega) | skip)))
        refine X.stw ?_
        (repeat' (first | refine X.rq ?_ | (refine X.rc ?_ ?_ <;> intro hc <;> first | (exfalso; omega) | skip)))
        refine K.l_callV (Fx.cal rfl) rfl (ValueMay h d hwv) (K.pp [] rfl) rfl rfl ?_
        simp only [List.nil_append]
        cases hok : okV d with
        | false =>
          rw [if_pos hok] at hfit
          (repeat' (first | refine X.rq ?_ | (refine X.rc ?_ ?_ <;> intro hc <;> first | (exfalso; omega) | skip)))
          refine K.AT.drop ?_
          refine K.done (by first | exact Or.inl rfl | exact Or.inr rfl) rfl (by first | exact K.Base.le.refl _ | assumption) (H' := K0) rfl ⟨by rw [hfe, ← hfit]; rfl, rfl, rfl⟩
        | true =>
          rw [if_neg (by rw [hok]; decide)] at hfit
          (repeat' (first | refine X.rq ?_ | (refine X.rc ?_ ?_ <;> intro hc <;> first | (exfalso; omega) | skip)))
          by_cases hk0 : d.kind = 0
          · rw [if_neg (fun e => e.1 hk0)] at hfit
            refine X.draw ([blk B 86 (cV d)]) [] (.pu 0 (.st 1 (.pu 2 (.pu 3 (.pu 4 (.pu 6 (.pu 7 (.pu 8 (.pu 9 (.st 5 (.st 10 (.pu 11 (.pu 12 (.pu 13 .nil)))))))))))))) ?_
            refine K.d_pu rfl (fun _ _ => X.fa) rfl ?_
            refine K.d_st rfl X.ld rfl ?_
            refine K.d_pu rfl (fun _ _ => X.bneq) rfl ?_
            rw [decide_eq_false (show ¬ d.kind ≠ 0 from fun e => e hk0)]
            refine K.d_pu rfl (fun _ _ => X.mv) rfl ?_
            first | refine K.d_skip rfl rfl rfl rfl ?_ | refine K.d_skipU rfl rfl rfl rfl rfl ?_ | refine K.d_puG rfl rfl rfl (fun _ _ => X.fa) rfl ?_
            first | refine K.d_skip rfl rfl rfl rfl ?_ | refine K.d_skipU rfl rfl rfl rfl rfl ?_ | refine K.d_puG rfl rfl rfl (fun _ _ => X.mv) rfl ?_
            first | refine K.d_skip rfl rfl rfl rfl ?_ | refine K.d_skipU rfl rfl rfl rfl rfl ?_ | refine K.d_puG rfl rfl rfl (fun _ _ => X.mv) rfl ?_
            first | refine K.d_skip rfl rfl rfl rfl ?_ | refine K.d_skipU rfl rfl rfl rfl rfl ?_ | refine K.d_puG rfl rfl rfl (fun _ _ => X.ia) rfl ?_
            first | refine K.d_skip rfl rfl rfl rfl ?_ | refine K.d_skipU rfl rfl rfl rfl rfl ?_ | refine K.d_puG rfl rfl rfl (fun _ _ => X.fa) rfl ?_
            first | refine K.d_skipS rfl rfl rfl rfl ?_ | refine K.d_skipUS rfl rfl rfl rfl rfl ?_ | refine K.d_stG rfl rfl rfl X.ld rfl ?_
            first | refine K.d_skipS rfl rfl rfl rfl ?_ | refine K.d_skipUS rfl rfl rfl rfl rfl ?_ | refine K.d_stG rfl rfl rfl X.ld rfl ?_
            first | refine K.d_skip rfl rfl rfl rfl ?_ | refine K.d_skipU rfl rfl rfl rfl rfl ?_ | refine K.d_puG rfl rfl rfl (fun _ _ => X.bneq) rfl ?_
            refine K.d_pu rfl (fun _ _ => X.pk) rfl ?_
            refine K.d_pu rfl (fun _ _ => X.sg) rfl ?_
            refine K.d_nil ?_
            (repeat' (first | refine X.rq ?_ | (refine X.rc ?_ ?_ <;> intro hc <;> first | (exfalso; omega) | skip)))
            refine K.s_pureE (K.p_indexL hv (Fx.und rfl) (Fx.sz rfl) rfl rfl (by omega) hc0) rfl ?_
            rintro v3 ⟨b3, o3, rfl, hcel3⟩
            have hq3 := (Cels.up (K := blk B 86 (cV d) :: (K0 ++ F)) hcel3).2.2.1
            (repeat' (first | refine X.rq ?_ | (refine X.rc ?_ ?_ <;> intro hc <;> first | (exfalso; omega) | skip)))
            · rw [if_pos ⟨hk0, hc⟩] at hfit
              refine K.AT.drop ?_
              refine K.done (by first | exact Or.inl rfl | exact Or.inr rfl) rfl (by first | exact K.Base.le.refl _ | assumption) (H' := K0) rfl ⟨by rw [hfe, ← hfit]; rfl, rfl, rfl⟩
            · rw [if_neg (fun e => by rw [hc] at e; cases e.2)] at hfit
              refine K.AT.drop ?_
              refine K.a_round hKL (j + 1) ⟨by omega, hfit⟩ (by repeat (first | exact K.Sub.nil _ | refine K.Sub.cons rfl ?_)) rfl rfl (by omega)
          · refine X.draw ([blk B 86 (cV d)]) [] (.pu 0 (.st 1 (.pu 2 (.pu 3 (.pu 4 (.pu 6 (.pu 7 (.st 5 (.st 8 (.pu 9 (.st 10 (.pu 11 (.pu 12 (.pu 13 .nil)))))))))))))) ?_
            refine K.d_pu rfl (fun _ _ => X.fa) rfl ?_
            refine K.d_st rfl X.ld rfl ?_
            refine K.d_pu rfl (fun _ _ => X.bneq) rfl ?_
            rw [decide_eq_true (show d.kind ≠ 0 from hk0)]
            refine K.d_pu rfl (fun _ _ => X.mv) rfl ?_
            first | refine K.d_skip rfl rfl rfl rfl ?_ | refine K.d_skipU rfl rfl rfl rfl rfl ?_ | refine K.d_puG rfl rfl rfl (fun _ _ => X.fa) rfl ?_
            first | refine K.d_skip rfl rfl rfl rfl ?_ | refine K.d_skipU rfl rfl rfl rfl rfl ?_ | refine K.d_puG rfl rfl rfl (fun _ _ => X.mv) rfl ?_
            first | refine K.d_skip rfl rfl rfl rfl ?_ | refine K.d_skipU rfl rfl rfl rfl rfl ?_ | refine K.d_puG rfl rfl rfl (fun _ _ => X.mv) rfl ?_
            first | refine K.d_skipS rfl rfl rfl rfl ?_ | refine K.d_skipUS rfl rfl rfl rfl rfl ?_ | refine K.d_stG rfl rfl rfl X.ld rfl ?_
            refine K.d_stGE rfl rfl rfl (K.p_indexL hv (Fx.und rfl) (Fx.sz rfl) rfl rfl (by omega) hc0) rfl ?_
            rintro v3 ⟨b3, o3, rfl, hcel3⟩
            have hq3 := (Cels.up (K := [blk B 86 (cV d)]) hcel3).2.1
            first | refine K.d_skip rfl rfl rfl rfl ?_ | refine K.d_skipU rfl rfl rfl rfl rfl ?_ | refine K.d_puG rfl rfl rfl (fun _ _ => X.fa) rfl ?_
            first | refine K.d_skipS rfl rfl rfl rfl ?_ | refine K.d_skipUS rfl rfl rfl rfl rfl ?_ | refine K.d_stG rfl rfl rfl X.ld rfl ?_
            first | refine K.d_skip rfl rfl rfl rfl ?_ | refine K.d_skipU rfl rfl rfl rfl rfl ?_ | refine K.d_puG rfl rfl rfl (fun _ _ => X.bneq) rfl ?_
            refine K.d_pu rfl (fun _ _ => X.pk) rfl ?_
            refine K.d_pu rfl (fun _ _ => X.sg) rfl ?_
            refine K.d_nil ?_
            (repeat' (first | refine X.rq ?_ | (refine X.rc ?_ ?_ <;> intro hc <;> first | (exfalso; omega) | skip)))
            · rw [if_pos ⟨hk0, hc⟩] at hfit
              refine K.AT.drop ?_
              refine K.done (by first | exact Or.inl rfl | exact Or.inr rfl) rfl (by first | exact K.Base.le.refl _ | assumption) (H' := K0) rfl ⟨by rw [hfe, ← hfit]; rfl, rfl, rfl⟩
            · rw [if_neg (fun e => by rename_i hx; exact hx e.2), if_neg (fun e => hk0 e.1)] at hfit
              refine K.AT.drop ?_
              refine K.a_round hKL (j + 1) ⟨by omega, hfit⟩ (by repeat (first | exact K.Sub.nil _ | refine K.Sub.cons rfl ?_)) rfl rfl (by omega)
      · obtain rfl : j = r.length := by omega
        (repeat' (first | refine X.rq ?_ | (refine X.rc ?_ ?_ <;> intro hc <;> first | (exfalso; omega) | skip)))
        refine K.done (by first | exact Or.inl rfl | exact Or.inr rfl) rfl (by first | exact K.Base.le.refl _ | assumption) (H' := K0) rfl ⟨by rw [hfe, ← hfit, List.drop_length, List.drop_of_length_le (by omega)]; rfl, rfl, rfl⟩
    · rw [fitsE, if_pos (.inr hne)]
      (repeat' (first | refine X.rq ?_ | (refine X.rc ?_ ?_ <;> intro hc <;> first | (exfalso; omega) | skip)))
      refine K.done (by first | exact Or.inl rfl | exact Or.inr rfl) rfl (by first | exact K.Base.le.refl _ | assumption) (H' := K0) rfl ⟨rfl, rfl, rfl⟩

end Go.Proofs.YtdjacjhojbkgjaaGreat.Rw
end
