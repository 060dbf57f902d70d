/-
  Who has a lock, for whom one waits: the document's. Conditions: each theorem's own.
-/
import Derived.Test.YtcpdfajaggbjlaaDoorTg

namespace Go.Proofs.YtcpdfajaggbjlaaDoor.Lk
open Go Go.K Go.Proofs Go.Proofs.YtcpdfajaggbjlaaDoor
set_option linter.unusedVariables false
set_option linter.unusedSimpArgs false
set_option maxRecDepth 10000

set_option maxHeartbeats 2000000 in
theorem RHas (h : Base) (BR : Nat) (v : Value) (l : List PLock) (txn : Nat) (th : PThing) (mode : Int) (hv : SL h 7 v (l.map cK)) (hth : wfT th) (hl : l.length ≤ 1000000) :
    TrV Tryd.prog 29 [.pointer (some ⟨BR, 0, none⟩), .int .u32 txn, .agg (cT th).toArray, .int .i64 mode] h [blk BR 32 [v]] (.bool (hasQ l txn th mode)) [blk BR 32 [v]] := by
  have hma := RMay h th mode hth
  have hlen : (l.map cK).length = l.length := List.length_map ..
  obtain ⟨ao, ca, rfl⟩ := hv.len
  rw [hlen] at hv ⊢
  refine K.enter Tryd.func29 rfl (Nat.le_of_ble_eq_true rfl) (fun F => ?_)
  simp only [List.nil_append, List.cons_append]
  (repeat' (first | refine X.rq ?_ | (refine X.rc ?_ ?_ <;> intro hc <;> first | (exfalso; omega) | skip)))
  refine K.l_box rfl rfl rfl (fun B6 => ?_)
  rw [hasQ]
  cases hm : mayQ th mode with
  | false =>
    rw [hm] at hma
    rw [Bool.false_and]
    (repeat' (first | refine X.rq ?_ | (refine X.rc ?_ ?_ <;> intro hc <;> first | (exfalso; omega) | skip)))
    refine K.l_callV (Fx.cal rfl) rfl hma (K.pp [] rfl) rfl rfl ?_
    simp only [List.nil_append]
    (repeat' (first | refine X.rq ?_ | (refine X.rc ?_ ?_ <;> intro hc <;> first | (exfalso; omega) | skip)))
    refine K.AT.sel [0] rfl ?_
    refine K.done (by first | exact Or.inl rfl | exact Or.inr rfl) rfl (by first | exact K.Base.le.refl _ | assumption) (H' := [_]) rfl ⟨rfl, rfl, rfl⟩
  | true =>
    rw [hm] at hma
    rw [Bool.true_and]
    (repeat' (first | refine X.rq ?_ | (refine X.rc ?_ ?_ <;> intro hc <;> first | (exfalso; omega) | skip)))
    refine K.l_callV (Fx.cal rfl) rfl hma (K.pp [] rfl) rfl rfl ?_
    simp only [List.nil_append]
    (repeat' (first | refine X.rq ?_ | (refine X.rc ?_ ?_ <;> intro hc <;> first | (exfalso; omega) | skip)))
    refine K.c_loop (σ := Nat) (fun j => [(0, .pointer (some ⟨BR, 0, none⟩)), (1, .int .u32 txn), (3, .int .i64 mode), (6, .pointer (some ⟨B6, 0, none⟩)), (9, .int .i64 j)]) (fun _ => h) (fun _ => blk B6 36 (cT th) :: blk BR 32 [.slice ao l.length ca] :: F)
      (fun j => j ≤ l.length ∧ ∀ (i : Nat) x, i < j → l[i]? = some x → hasP txn th mode x = false) (fun j => l.length - j) 0 ⟨Nat.zero_le _, fun i x hi => absurd hi (Nat.not_lt_zero _)⟩ (by repeat (first | exact K.Sub.nil _ | refine K.Sub.cons rfl ?_)) rfl rfl ?_
    rintro j ⟨hj, hno⟩ KL hKL
    by_cases hjl : j < l.length
    · have hx1 : l[j]? = some l[j] := List.getElem?_eq_getElem hjl
      have hmem : l[j] ∈ l := List.getElem_mem hjl
      generalize l[j] = x at hx1 hmem
      have hc0 : (l.map cK)[((j : Nat) : Int).toNat]? = some (cK x) := by rw [Int.toNat_natCast, List.getElem?_map, hx1]; rfl
      have hwi := RWithin h th x.thing
      have hco := Covers h x.mode mode
      have hyes : hasP txn th mode x = true → l.any (hasP txn th mode) = true := fun e => List.any_eq_true.2 ⟨x, hmem, e⟩
      have hnext : hasP txn th mode x = false → ∀ (i : Nat) y, i < j + 1 → l[i]? = some y → hasP txn th mode y = false := fun e i y hi hy => by
        by_cases hij : i = j
        · subst hij; rw [hx1] at hy; obtain rfl := Option.some.inj hy; exact e
        · exact hno i y (by omega) hy
      clear hno
      have hnext := fun (_ : Unit) => hnext
      have hp : hasP txn th mode x = (x.held && (decide (x.txn = txn) && (withinQ th x.thing && coverQ x.mode mode))) := rfl
      (repeat' (first | refine X.rq ?_ | (refine X.rc ?_ ?_ <;> intro hc <;> first | (exfalso; omega) | skip)))
      refine K.s_pureE (K.p_indexL hv (Fx.und rfl) (Fx.sz rfl) rfl rfl (by omega) hc0) rfl ?_
      rintro v3 ⟨b3, o3, rfl, hcel3⟩
      refine K.s_pure (K.p_loadM (Fx.agg rfl) rfl (Cels.up hcel3) (Fx.sz rfl) rfl) rfl ?_
      refine K.l_alloc (Fx.zr rfl) rfl rfl (fun B10 => ?_)
      (repeat' (first | refine X.rq ?_ | (refine X.rc ?_ ?_ <;> intro hc <;> first | (exfalso; omega) | skip)))
      refine X.stw ?_
      simp only [List.set_cons_zero, List.set_cons_succ, List.eraseIdx_cons_zero, List.eraseIdx_cons_succ, List.cons_append, List.nil_append]
      cases hh : x.held with
      | false =>
        rw [hh, Bool.false_and] at hp
        (repeat' (first | refine X.rq ?_ | (refine X.rc ?_ ?_ <;> intro hc <;> first | (exfalso; omega) | skip)))
        all_goals first | (exfalso; simp_all; done) | skip
        refine K.AT.sel [0] rfl ?_
        refine K.a_round hKL (j + 1) ⟨by omega, hnext () hp⟩ (by repeat (first | exact K.Sub.nil _ | refine K.Sub.cons rfl ?_)) rfl rfl (by omega)
      | true =>
        rw [hh, Bool.true_and] at hp
        by_cases ht : x.txn = txn
        · rw [decide_eq_true ht, Bool.true_and] at hp
          (repeat' (first | refine X.rq ?_ | (refine X.rc ?_ ?_ <;> intro hc <;> first | (exfalso; omega) | skip)))
          all_goals first | (exfalso; simp_all; done) | skip
          refine K.s_pure (K.p_loadN (vs := cT x.thing) (Fx.agg rfl) (Fx.sz rfl) rfl (K.cels_own (pre := [_]) (post := [_, _]) 0 rfl rfl)) rfl ?_
          (repeat' (first | refine X.rq ?_ | (refine X.rc ?_ ?_ <;> intro hc <;> first | (exfalso; omega) | skip)))
          refine K.l_callV (Fx.cal rfl) rfl hwi (K.pp [] rfl) rfl rfl ?_
          simp only [List.nil_append]
          cases hwq : withinQ th x.thing with
          | false =>
            rw [hwq, Bool.false_and] at hp
            (repeat' (first | refine X.rq ?_ | (refine X.rc ?_ ?_ <;> intro hc <;> first | (exfalso; omega) | skip)))
            refine K.AT.sel [0] rfl ?_
            refine K.a_round hKL (j + 1) ⟨by omega, hnext () hp⟩ (by repeat (first | exact K.Sub.nil _ | refine K.Sub.cons rfl ?_)) rfl rfl (by omega)
          | true =>
            rw [hwq, Bool.true_and] at hp
            (repeat' (first | refine X.rq ?_ | (refine X.rc ?_ ?_ <;> intro hc <;> first | (exfalso; omega) | skip)))
            refine K.l_callV (Fx.cal rfl) rfl hco (K.pp [] rfl) rfl rfl ?_
            simp only [List.nil_append]
            cases hcq : coverQ x.mode mode with
            | false =>
              rw [hcq] at hp
              (repeat' (first | refine X.rq ?_ | (refine X.rc ?_ ?_ <;> intro hc <;> first | (exfalso; omega) | skip)))
              refine K.AT.sel [0] rfl ?_
              refine K.a_round hKL (j + 1) ⟨by omega, hnext () hp⟩ (by repeat (first | exact K.Sub.nil _ | refine K.Sub.cons rfl ?_)) rfl rfl (by omega)
            | true =>
              rw [hcq] at hp
              rw [hyes hp]
              (repeat' (first | refine X.rq ?_ | (refine X.rc ?_ ?_ <;> intro hc <;> first | (exfalso; omega) | skip)))
              refine K.AT.sel [0, 0] rfl ?_
              refine K.done (by first | exact Or.inl rfl | exact Or.inr rfl) rfl (by first | exact K.Base.le.refl _ | assumption) (H' := [_]) rfl ⟨rfl, rfl, rfl⟩
        · rw [decide_eq_false ht, Bool.false_and] at hp
          (repeat' (first | refine X.rq ?_ | (refine X.rc ?_ ?_ <;> intro hc <;> first | (exfalso; omega) | skip)))
          all_goals first | (exfalso; simp_all; done) | skip
          refine K.AT.sel [0] rfl ?_
          refine K.a_round hKL (j + 1) ⟨by omega, hnext () hp⟩ (by repeat (first | exact K.Sub.nil _ | refine K.Sub.cons rfl ?_)) rfl rfl (by omega)
    · obtain rfl : j = l.length := by omega
      rw [List.any_eq_false.2 fun x hx => by
        obtain ⟨i, hi⟩ := List.mem_iff_getElem?.1 hx
        rw [hno i x (List.getElem?_eq_some_iff.1 hi).1 hi]
        decide]
      (repeat' (first | refine X.rq ?_ | (refine X.rc ?_ ?_ <;> intro hc <;> first | (exfalso; omega) | skip)))
      refine K.AT.sel [0] rfl ?_
      refine K.done (by first | exact Or.inl rfl | exact Or.inr rfl) rfl (by first | exact K.Base.le.refl _ | assumption) (H' := [_]) rfl ⟨rfl, rfl, rfl⟩
end Go.Proofs.YtcpdfajaggbjlaaDoor.Lk
