/-
  Somebody asks for a lock: walked. Conditions: each theorem's own.
-/
import Derived.Test.YtcpdfajaggbjlaaDoorTf

namespace Go.Proofs.YtcpdfajaggbjlaaDoor.Lk
open Go Go.K Go.Proofs Go.Proofs.YtcpdfajaggbjlaaDoor
set_option linter.unusedVariables false
set_option linter.unusedSimpArgs false
set_option maxRecDepth 10000

def newK (txn : Nat) (th : PThing) (mode : Int) (b : Bool) : PLock := ⟨txn, th, mode, b⟩
def freeQ (l : List PLock) (txn : Nat) (th : PThing) (mode : Int) : Bool := (reasonsQ (l ++ [newK txn th mode false]) l.length (newK txn th mode false)).isEmpty
/-- What an asking makes of a table, and its answer. -/
def askQ (l : List PLock) (txn : Nat) (th : PThing) (mode : Int) : List PLock × Bool × Int :=
  if txn = 0 ∨ mayQ th mode = false then (l, false, 1) else if l.any (waitP txn) = true then (l, false, 121) else if hasQ l txn th mode = true then (l, true, 0)
  else if 16384 ≤ l.length then (l, false, 4) else (l ++ [newK txn th mode (freeQ l txn th mode)], freeQ l txn th mode, 0)
def AskP (h : Base) (BT : Nat) (r : List PLock × Bool × Int) (u : Value) (h' : Base) (H' : List Asrt) : Prop := h' = h ∧ ∃ a k, u = .tuple #[.bool r.2.1, .int .i64 r.2.2] ∧ H' = [rowsA a k r.1, tabB BT a k r.1]
set_option maxHeartbeats 4000000 in
theorem Ask (h : Base) (BT : Nat) (a : Option Nat) (k : Nat) (l : List PLock) (txn : Nat) (th : PThing) (mode : Int) (hw : ∀ x ∈ l, wfK x) (hG : Glob h) (hth : wfT th) (htx : txn < 4294967296) (hl : l.length ≤ 999999) :
    Tr Tryd.prog 20 [.pointer (some ⟨BT, 0, none⟩), .int .u32 txn, .agg (cT th).toArray, .int .i64 mode] h [rowsA a k l, tabB BT a k l] (AskP h BT (askQ l txn th mode)) := by
  have hma := CMay h th mode hth
  have hha := HasA h BT a k l txn th mode hw hG hth (by omega)
  refine K.enter Tryd.func20 rfl (Nat.le_of_ble_eq_true rfl) (fun F => ?_)
  simp only [List.nil_append, List.cons_append]
  (repeat' (first | refine X.rq ?_ | (refine X.rc ?_ ?_ <;> intro hc <;> first | (exfalso; omega) | skip)))
  refine K.l_box rfl rfl rfl (fun B5 => ?_)
  refine K.l_box rfl rfl rfl (fun B6 => ?_)
  have hwa := WaitsA h B5 a k l txn (by omega)
  unfold askQ
  by_cases h0 : txn = 0
  · rw [if_pos (.inl h0)]
    (repeat' (first | refine X.rq ?_ | (refine X.rc ?_ ?_ <;> intro hc <;> first | (exfalso; omega) | skip)))
    refine K.AT.sel [0, 0] rfl ?_
    refine K.done (by first | exact Or.inl rfl | exact Or.inr rfl) rfl (by first | exact K.Base.le.refl _ | assumption) (H' := [_, _]) rfl ⟨rfl, a, k, rfl, rfl⟩
  cases hm : mayQ th mode with
  | false =>
    rw [if_pos (.inr rfl)]
    rw [hm] at hma
    (repeat' (first | refine X.rq ?_ | (refine X.rc ?_ ?_ <;> intro hc <;> first | (exfalso; omega) | skip)))
    refine K.l_callV (Fx.cal rfl) rfl hma (K.pp [] rfl) rfl rfl ?_
    simp only [List.nil_append]
    (repeat' (first | refine X.rq ?_ | (refine X.rc ?_ ?_ <;> intro hc <;> first | (exfalso; omega) | skip)))
    refine K.AT.sel [0, 0] rfl ?_
    refine K.done (by first | exact Or.inl rfl | exact Or.inr rfl) rfl (by first | exact K.Base.le.refl _ | assumption) (H' := [_, _]) rfl ⟨rfl, a, k, rfl, rfl⟩
  | true =>
    rw [if_neg (fun e => e.elim h0 fun e => by cases e)]
    rw [hm] at hma
    have hmm := may_mode hm
    (repeat' (first | refine X.rq ?_ | (refine X.rc ?_ ?_ <;> intro hc <;> first | (exfalso; omega) | skip)))
    refine K.l_callV (Fx.cal rfl) rfl hma (K.pp [] rfl) rfl rfl ?_
    simp only [List.nil_append]
    (repeat' (first | refine X.rq ?_ | (refine X.rc ?_ ?_ <;> intro hc <;> first | (exfalso; omega) | skip)))
    refine K.s_pure (K.p_makeFunc rfl) rfl ?_
    refine K.l_callV (Fx.cal rfl) rfl hwa (K.pp [2, 1] rfl) rfl rfl ?_
    simp only [List.nil_append, List.cons_append]
    cases hwt : l.any (waitP txn) with
    | true =>
      rw [if_pos rfl]
      (repeat' (first | refine X.rq ?_ | (refine X.rc ?_ ?_ <;> intro hc <;> first | (exfalso; omega) | skip)))
      refine K.AT.sel [1, 1] rfl ?_
      refine K.done (by first | exact Or.inl rfl | exact Or.inr rfl) rfl (by first | exact K.Base.le.refl _ | assumption) (H' := [_, _]) rfl ⟨rfl, a, k, rfl, rfl⟩
    | false =>
      rw [if_neg (by decide)]
      (repeat' (first | refine X.rq ?_ | (refine X.rc ?_ ?_ <;> intro hc <;> first | (exfalso; omega) | skip)))
      refine K.l_callV (Fx.cal rfl) rfl hha (K.pp [0, 2] rfl) rfl rfl ?_
      simp only [List.nil_append, List.cons_append]
      cases hhs : hasQ l txn th mode with
      | true =>
        rw [if_pos rfl]
        (repeat' (first | refine X.rq ?_ | (refine X.rc ?_ ?_ <;> intro hc <;> first | (exfalso; omega) | skip)))
        refine K.AT.sel [2, 2] rfl ?_
        refine K.done (by first | exact Or.inl rfl | exact Or.inr rfl) rfl (by first | exact K.Base.le.refl _ | assumption) (H' := [_, _]) rfl ⟨rfl, a, k, rfl, rfl⟩
      | false =>
        rw [if_neg (by decide)]
        by_cases hf : 16384 ≤ l.length
        · rw [if_pos hf]
          (repeat' (first | refine X.rq ?_ | (refine X.rc ?_ ?_ <;> intro hc <;> first | (exfalso; omega) | skip)))
          refine K.AT.sel [2, 2] rfl ?_
          refine K.done (by first | exact Or.inl rfl | exact Or.inr rfl) rfl (by first | exact K.Base.le.refl _ | assumption) (H' := [_, _]) rfl ⟨rfl, a, k, rfl, rfl⟩
        · rw [if_neg hf]
          (repeat' (first | refine X.rq ?_ | (refine X.rc ?_ ?_ <;> intro hc <;> first | (exfalso; omega) | skip)))
          refine X.draw ([tabB BT a k l, blk B5 34 [.int .u32 txn], blk B6 36 (cT th)]) [13] (.pu 0 (.pu 1 (.pu 2 (.pu 3 (.pu 7 (.st 4 (.st 5 (.st 6 (.pu 8 (.on 9 (.on 10 (.pu 11 (.pu 12 (.cl 13 .nil)))))))))))))) ?_ (hQ := by repeat (first | with_reducible refine K.NoPanic.then ?_ | with_reducible refine K.NoPanic.inBlock ?_ | with_reducible exact K.post_noPanic _ _ | exact K.post_noPanic _ _))
          refine K.d_pu rfl (fun _ _ => X.mv) rfl ?_
          refine K.d_pu rfl (fun _ _ => X.mv) rfl ?_
          refine K.d_pu rfl (fun _ _ => X.nc) rfl ?_
          refine K.d_pu rfl (fun _ _ => X.fa) rfl ?_
          refine K.d_pu rfl (fun _ _ => X.mv) rfl ?_
          refine K.d_st rfl (K.p_load (Fx.agg rfl) rfl (K.cel_own 0 rfl rfl)) rfl ?_
          refine K.d_st rfl (K.p_load (Fx.agg rfl) rfl (K.cel_own 1 rfl rfl)) rfl ?_
          refine K.d_st rfl (K.p_loadN (vs := cT th) (Fx.agg rfl) (Fx.sz rfl) rfl (K.cels_own (pre := []) (post := []) 2 rfl rfl)) rfl ?_
          refine K.d_pu rfl (fun _ _ => X.bd) rfl ?_
          refine K.d_on rfl (fun KK hKK => ?_)
          refine K.l_buildSlice (Fx.und rfl) (Fx.sz rfl) rfl (Fx.zr rfl) rfl rfl rfl (cs := cK (newK txn th mode false)) rfl rfl (fun Bs => ?_)
          refine K.l_nil ?_
          refine X.onE hKK ?_
          refine K.d_on rfl (fun KK hKK => ?_)
          refine K.l_append_at 1 rfl (Fx.und rfl) (Fx.und rfl) rfl (Fx.sz rfl) (Fx.zr rfl) rfl (Fx.byt rfl) rfl rfl (K.src_cells (K.cels_own (pre := []) (cs := cK (newK txn th mode false)) (post := []) 0 rfl rfl) rfl (by simp [oneCell, cK])) (by omega) (by omega) rfl (fun a1 k1 => ?_)
          simp only [List.set_cons_zero, List.set_cons_succ, List.eraseIdx_cons_zero, List.eraseIdx_cons_succ, List.cons_append, List.nil_append]
          refine K.l_nil ?_
          refine X.onE hKK ?_
          refine K.d_pu rfl (fun _ _ => X.nc) rfl ?_
          refine K.d_pu rfl (fun _ _ => X.fa) rfl ?_
          refine K.d_cl rfl (fun KK hKK => ?_)
          refine X.sto ?_
          simp only [List.set_cons_zero, List.set_cons_succ, List.eraseIdx_cons_zero, List.eraseIdx_cons_succ, List.cons_append, List.nil_append]
          refine K.l_nil ?_
          refine K.d_clE hKK ?_
          refine K.d_nil ?_
          (repeat' (first | refine X.rq ?_ | (refine X.rc ?_ ?_ <;> intro hc <;> first | (exfalso; omega) | skip)))
          refine K.WC.drop ?_
          rw [show ((l.length + 1 : Nat) : Int) - 1 = ((l.length : Nat) : Int) by omega]
          obtain ⟨x, hx⟩ : ∃ x, x = newK txn th mode false := ⟨_, rfl⟩
          obtain ⟨l1, hl1⟩ : ∃ l1, l1 = l ++ [x] := ⟨_, rfl⟩
          have hn1 : l1.length = l.length + 1 := by rw [hl1, List.length_append]; rfl
          have hfl : (l.map cK).flatten ++ cK (newK txn th mode false) = (l1.map cK).flatten := by rw [hl1, hx, List.map_append, List.flatten_append]; simp
          rw [hfl, ← hn1]
          have hxi : l1[l.length]? = some x := by rw [hl1, List.getElem?_append_right (Nat.le_refl _), Nat.sub_self]; rfl
          have hw1 : ∀ y ∈ l1, wfK y := fun y hy => by
            rw [hl1] at hy
            rcases List.mem_append.1 hy with hy | hy
            · exact hw y hy
            · rw [List.mem_singleton.1 hy, hx]; exact ⟨htx, hth, hmm⟩
          have hfr : decide (((reasonsQ l1 l.length x).length : Int) = 0) = freeQ l txn th mode := by
            rw [freeQ, hl1, hx, Bool.eq_iff_iff, decide_eq_true_iff, List.isEmpty_iff, ← List.length_eq_zero_iff]
            omega
          have hrc : (l1.map cK)[l.length]? = some (cK x) := by rw [List.getElem?_map, hxi]; rfl
          refine K.WC.someBuf 0 rfl (by omega) (fun b hb' => ?_)
          subst hb'
          have hre := ReasonsA h BT (some b) k1 l1 l.length x hw1 hG hxi (by omega)
          refine X.draw ([tabB BT (some b) k1 l1]) [] (.pu 0 (.pu 1 (.pu 2 (.pu 4 (.pu 5 (.pu 6 (.st 3 (.on 7 (.pu 8 (.pu 9 (.pu 10 (.pu 11 (.on 12 .nil))))))))))))) ?_ (hQ := by repeat (first | with_reducible refine K.NoPanic.then ?_ | with_reducible refine K.NoPanic.inBlock ?_ | with_reducible exact K.post_noPanic _ _ | exact K.post_noPanic _ _))
          refine K.d_pu rfl (fun _ _ => X.mv) rfl ?_
          refine K.d_pu rfl (fun _ _ => X.nc) rfl ?_
          refine K.d_pu rfl (fun _ _ => X.fa) rfl ?_
          refine K.d_pu rfl (fun _ _ => X.mv) rfl ?_
          refine K.d_pu rfl (fun _ _ => X.mv) rfl ?_
          refine K.d_pu rfl (fun _ _ => X.mv) rfl ?_
          refine K.d_st rfl (K.p_load (Fx.agg rfl) rfl (K.cel_own 0 rfl rfl)) rfl ?_
          refine K.d_on rfl (fun KK hKK => ?_)
          refine K.l_call (Fx.cal rfl) rfl hre (K.pp [0, 0] rfl) rfl ?_
          rintro u h' H' - ⟨e, a2, k2, rfl, rfl⟩
          obtain rfl := e.symm
          simp only [List.nil_append, List.cons_append]
          refine K.l_nil ?_
          refine X.onE hKK ?_
          refine K.d_pu rfl (fun _ _ => X.len) rfl ?_
          refine K.d_pu rfl (fun _ _ => X.beql) rfl ?_
          rw [hfr]
          refine K.d_pu rfl (fun _ _ => X.ia) rfl ?_
          refine K.d_pu rfl (fun _ _ => X.fa) rfl ?_
          refine K.d_on rfl (fun KK hKK => ?_)
          refine K.l_storePart1 (i := l.length) (q := 6) (c := cK x) 0 rfl (Fx.sz rfl) (by show some (Value.pointer (some ⟨b, 0 + ((l.length : Nat) : Int).toNat * 7 + 6, none⟩)) = _; rw [Nat.zero_add]; rfl) rfl rfl (seven l1) hrc (by decide : 6 < 7) ?_
          simp only [List.set_cons_zero, List.set_cons_succ, List.eraseIdx_cons_zero, List.eraseIdx_cons_succ, List.cons_append, List.nil_append]
          refine K.l_nil ?_
          refine X.onE hKK ?_
          refine K.d_nil ?_
          have hset : (l1.map cK).set l.length ((cK x).set 6 (Value.bool (freeQ l txn th mode))) = (l ++ [newK txn th mode (freeQ l txn th mode)]).map cK := by
            rw [hl1, List.map_append, List.set_append_right _ _ (by rw [List.length_map]; exact Nat.le_refl _), List.length_map, Nat.sub_self, hx, List.map_append]
            rfl
          rw [hset]
          generalize freeQ l txn th mode = fr
          have hn2 : (l ++ [newK txn th mode fr]).length = l1.length := by rw [hn1, List.length_append]; rfl
          have hy : ((l ++ [newK txn th mode fr]).map cK)[l.length]? = some (cK (newK txn th mode fr)) := by
            rw [List.getElem?_map, List.getElem?_append_right (Nat.le_refl _), Nat.sub_self]; rfl
          (repeat' (first | refine X.rq ?_ | (refine X.rc ?_ ?_ <;> intro hc <;> first | (exfalso; omega) | skip)))
          refine K.s_pure (K.p_load (v := .bool fr) (Fx.agg rfl) rfl (by rw [Nat.zero_add]; exact K.cel_rowZ 0 rfl (seven _) hy rfl)) rfl ?_
          (repeat' (first | refine X.rq ?_ | (refine X.rc ?_ ?_ <;> intro hc <;> first | (exfalso; omega) | skip)))
          refine K.AT.sel [1, 2, 2] rfl ?_
          refine K.done (by first | exact Or.inl rfl | exact Or.inr rfl) rfl (K.Base.le.refl h) (H' := [_, _]) rfl ⟨rfl, some b, k1, rfl, ?_⟩
          dsimp only
          rw [tabB, tabB, rowsA, hn2]
theorem AskNil (h : Base) (txn : Nat) (th : PThing) (mode : Int) : TrV Tryd.prog 20 [.pointer none, .int .u32 txn, .agg (cT th).toArray, .int .i64 mode] h [] (.tuple #[.bool false, .int .i64 1]) [] := by
  refine K.enter Tryd.func20 rfl (Nat.le_of_ble_eq_true rfl) (fun F => ?_)
  simp only [List.nil_append, List.cons_append]
  (repeat' (first | refine X.rq ?_ | (refine X.rc ?_ ?_ <;> intro hc <;> first | (exfalso; omega) | skip)))
  refine K.l_box rfl rfl rfl (fun B5 => ?_)
  refine K.l_box rfl rfl rfl (fun B6 => ?_)
  (repeat' (first | refine X.rq ?_ | (refine X.rc ?_ ?_ <;> intro hc <;> first | (exfalso; omega) | skip)))
  refine K.AT.sel [0, 0] rfl ?_
  refine K.done (by first | exact Or.inl rfl | exact Or.inr rfl) rfl (by first | exact K.Base.le.refl _ | assumption) (H' := []) rfl ⟨rfl, rfl, rfl⟩
theorem ReleaseNil (h : Base) (txn : Nat) : TrV Tryd.prog 19 [.pointer none, .int .u32 txn] h [] (.slice none 0 0) [] := by
  refine K.enter Tryd.func19 rfl (Nat.le_of_ble_eq_true rfl) (fun F => ?_)
  simp only [List.nil_append, List.cons_append]
  (repeat' (first | refine X.rq ?_ | (refine X.rc ?_ ?_ <;> intro hc <;> first | (exfalso; omega) | skip)))
  refine K.l_box rfl rfl rfl (fun B3 => ?_)
  (repeat' (first | refine X.rq ?_ | (refine X.rc ?_ ?_ <;> intro hc <;> first | (exfalso; omega) | skip)))
  refine K.AT.sel [0] rfl ?_
  refine K.done (by first | exact Or.inl rfl | exact Or.inr rfl) rfl (by first | exact K.Base.le.refl _ | assumption) (H' := []) rfl ⟨rfl, rfl, rfl⟩
theorem AllNil (h : Base) : TrV Tryd.prog 12 [.pointer none] h [] (.slice none 0 0) [] := by
  refine K.enter Tryd.func12 rfl (Nat.le_of_ble_eq_true rfl) (fun F => ?_)
  simp only [List.nil_append, List.cons_append]
  (repeat' (first | refine X.rq ?_ | (refine X.rc ?_ ?_ <;> intro hc <;> first | (exfalso; omega) | skip)))
  refine K.done (by first | exact Or.inl rfl | exact Or.inr rfl) rfl (by first | exact K.Base.le.refl _ | assumption) (H' := []) rfl ⟨rfl, rfl, rfl⟩
theorem WaitsNil (h : Base) : TrV Tryd.prog 13 [.pointer none] h [] (.slice none 0 0) [] := by
  refine K.enter Tryd.func13 rfl (Nat.le_of_ble_eq_true rfl) (fun F => ?_)
  simp only [List.nil_append, List.cons_append]
  (repeat' (first | refine X.rq ?_ | (refine X.rc ?_ ?_ <;> intro hc <;> first | (exfalso; omega) | skip)))
  refine K.done (by first | exact Or.inl rfl | exact Or.inr rfl) rfl (by first | exact K.Base.le.refl _ | assumption) (H' := []) rfl ⟨rfl, rfl, rfl⟩
end Go.Proofs.YtcpdfajaggbjlaaDoor.Lk
