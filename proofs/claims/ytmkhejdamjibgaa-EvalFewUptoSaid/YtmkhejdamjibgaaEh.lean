/-
  Eval and Holds: the code's and the document's. Conditions: each theorem's own.
-/
import Derived.Test.YtmkhejdamjibgaaEg

namespace Go.Proofs.Ytmkhejdamjibgaa.Rw
open Go Go.K Go.Proofs Go.Proofs.Ytmkhejdamjibgaa
set_option linter.unusedVariables false
set_option linter.unusedSimpArgs false
set_option maxRecDepth 10000

def evalQ (row : List Val) (e : Ex) : Val × Int := if rightQ row.length e = true then (if row.all okV = true then valueQ row e else (vN, 5)) else (vN, 1)
theorem goods {row : List Val} (h : row.all okV = true) (hx : ∀ c ∈ row, wfV c) : ∀ c ∈ row, goodV c := fun c hc => ⟨List.all_eq_true.1 h c hc, (hx c hc).n1, (hx c hc).n2⟩
theorem Eval (m : Nat) (h : Base) (cs : List Value) (e : Ex) (rv : Value) (row : List Val) (hx : ExC h m cs e) (hrv : SL h 3 rv (row.map cV)) (hw : ∀ c ∈ row, wfV c) (hl : row.length ≤ 9223372036854775807) :
    TrV Try.prog 10 [.agg cs.toArray, rv] h [] (rV (evalQ row e)) [] := by
  obtain ⟨ao2, ca2, rfl⟩ := hrv.len
  have hlen : (row.map cV).length = row.length := List.length_map ..
  rw [hlen] at hrv ⊢
  obtain ⟨op', val', tb', nm', col', ao', n', ca', rfl⟩ := hx.form
  refine K.enter Try.func10 rfl (Nat.le_of_ble_eq_true rfl) (fun F => ?_)
  (repeat' (first | refine X.rq ?_ | (refine X.rc ?_ ?_ <;> intro hc <;> first | (exfalso; omega) | skip)))
  refine K.l_box rfl rfl rfl (fun B1 => ?_)
  refine K.l_alloc (Fx.zr rfl) rfl rfl (fun B2 => ?_)
  (repeat' (first | refine X.rq ?_ | (refine X.rc ?_ ?_ <;> intro hc <;> first | (exfalso; omega) | skip)))
  refine K.l_callV (Fx.cal rfl) rfl (Right m h _ e row.length hx) (K.pp [] rfl) rfl rfl ?_
  simp only [List.nil_append]
  rw [evalQ]
  cases hr : rightQ row.length e with
  | false =>
    rw [if_neg (by decide)]
    (repeat' (first | refine X.rq ?_ | (refine X.rc ?_ ?_ <;> intro hc <;> first | (exfalso; omega) | skip)))
    refine X.stw ?_
    (repeat' (first | refine X.rq ?_ | (refine X.rc ?_ ?_ <;> intro hc <;> first | (exfalso; omega) | skip)))
    refine K.doneC (by first | exact Or.inl rfl | exact Or.inr rfl) (.cell rfl (Fx.agg rfl) (Fx.sz rfl) (by first | exact K.cels_own (pre := []) (post := []) 0 rfl rfl | exact K.cels_own (pre := []) (post := []) 1 rfl rfl | exact K.cels_own (pre := []) (post := []) 2 rfl rfl | exact K.cels_own (pre := []) (post := []) 3 rfl rfl | exact K.cels_own (pre := []) (post := []) 4 rfl rfl | exact K.cels_own (pre := []) (post := []) 5 rfl rfl) (.tmp rfl .nil)) (by first | exact K.Base.le.refl _ | assumption) (D := [_, _]) (H' := []) rfl ⟨rfl, rfl, rfl⟩
  | true =>
    rw [if_pos rfl]
    (repeat' (first | refine X.rq ?_ | (refine X.rc ?_ ?_ <;> intro hc <;> first | (exfalso; omega) | skip)))
    refine K.l_callV (Fx.cal rfl) rfl (Whole h _ row hrv hw hl) (K.pp [] rfl) rfl rfl ?_
    simp only [List.nil_append]
    cases ho : row.all okV with
    | false =>
      rw [if_neg (by decide)]
      (repeat' (first | refine X.rq ?_ | (refine X.rc ?_ ?_ <;> intro hc <;> first | (exfalso; omega) | skip)))
      refine X.stw ?_
      (repeat' (first | refine X.rq ?_ | (refine X.rc ?_ ?_ <;> intro hc <;> first | (exfalso; omega) | skip)))
      refine K.doneC (by first | exact Or.inl rfl | exact Or.inr rfl) (.cell rfl (Fx.agg rfl) (Fx.sz rfl) (by first | exact K.cels_own (pre := []) (post := []) 0 rfl rfl | exact K.cels_own (pre := []) (post := []) 1 rfl rfl | exact K.cels_own (pre := []) (post := []) 2 rfl rfl | exact K.cels_own (pre := []) (post := []) 3 rfl rfl | exact K.cels_own (pre := []) (post := []) 4 rfl rfl | exact K.cels_own (pre := []) (post := []) 5 rfl rfl) (.tmp rfl .nil)) (by first | exact K.Base.le.refl _ | assumption) (D := [_, _]) (H' := []) rfl ⟨rfl, rfl, rfl⟩
    | true =>
      rw [if_pos rfl]
      (repeat' (first | refine X.rq ?_ | (refine X.rc ?_ ?_ <;> intro hc <;> first | (exfalso; omega) | skip)))
      refine K.l_callV (Fx.cal rfl) rfl (Of m h _ e _ row hx hrv (goods ho hw) hr) (K.pp [] rfl) rfl rfl ?_
      simp only [List.nil_append]
      (repeat' (first | refine X.rq ?_ | (refine X.rc ?_ ?_ <;> intro hc <;> first | (exfalso; omega) | skip)))
      refine X.stw ?_
      (repeat' (first | refine X.rq ?_ | (refine X.rc ?_ ?_ <;> intro hc <;> first | (exfalso; omega) | skip)))
      refine K.doneC (by first | exact Or.inl rfl | exact Or.inr rfl) (.cell rfl (Fx.agg rfl) (Fx.sz rfl) (by first | exact K.cels_own (pre := []) (post := []) 0 rfl rfl | exact K.cels_own (pre := []) (post := []) 1 rfl rfl | exact K.cels_own (pre := []) (post := []) 2 rfl rfl | exact K.cels_own (pre := []) (post := []) 3 rfl rfl | exact K.cels_own (pre := []) (post := []) 4 rfl rfl | exact K.cels_own (pre := []) (post := []) 5 rfl rfl) (.tmp rfl .nil)) (by first | exact K.Base.le.refl _ | assumption) (D := [_, _]) (H' := []) rfl ⟨rfl, rfl, rfl⟩
/-- A slice that reads as expressions. -/
def LsC (h : Base) (m : Nat) (lv : Value) (l : List Ex) : Prop := ∃ es, SL h 8 lv es ∧ es.length = l.length ∧ l.length ≤ 9223372036854775807 ∧ ∀ (j : Nat) c e, es[j]? = some c → l[j]? = some e → ExC h m c e
def bV (r : Bool × Int) : Value := .tuple #[.bool r.1, .int .i64 r.2]
def holdsL (row : List Val) : List Ex → Bool × Int
  | [] => (true, 0)
  | e :: r => if (valueQ row e).2 ≠ 0 then (false, (valueQ row e).2) else if (valueQ row e).1.kind ≠ 0 ∧ (valueQ row e).1.kind ≠ 3 then (false, 30) else if (valueQ row e).1 ≠ vB true then (false, 0) else holdsL row r
def holdsQ (row : List Val) (l : List Ex) : Bool × Int := if l.all (rightQ row.length) = true then (if row.all okV = true then holdsL row l else (false, 5)) else (false, 1)
theorem holds_at {row : List Val} {l : List Ex} {j : Nat} {e : Ex} (h : l[j]? = some e) : holdsL row (l.drop j) = if (valueQ row e).2 ≠ 0 then (false, (valueQ row e).2) else if (valueQ row e).1.kind ≠ 0 ∧ (valueQ row e).1.kind ≠ 3 then (false, 30) else if (valueQ row e).1 ≠ vB true then (false, 0) else holdsL row (l.drop (j + 1)) := by
  obtain ⟨hlt, he⟩ := List.getElem?_eq_some_iff.1 h
  rw [List.drop_eq_getElem_cons hlt, he, holdsL]
theorem eqV_not (a b : Val) : (!(decide (a.kind = b.kind) && (decide (a.n = b.n) && (decide (a.s = b.s) && true)))) = decide (a ≠ b) := by
  rw [eqV_dec]
  by_cases h : a = b
  · rw [decide_eq_true h, decide_eq_false (fun e => e h)]; rfl
  · rw [decide_eq_false h, decide_eq_true h]; rfl
set_option maxHeartbeats 1000000 in
theorem HoldsE (m : Nat) (h : Base) (lv rv : Value) (l : List Ex) (row : List Val) (hx : LsC h m lv l) (hrv : SL h 3 rv (row.map cV)) (hw : ∀ c ∈ row, wfV c) (hl : row.length ≤ 9223372036854775807) :
    TrV Try.prog 22 [lv, rv] h [] (bV (holdsQ row l)) [] := by
  obtain ⟨es, hv, hel, hal, hr⟩ := hx
  obtain ⟨ao2, ca2, rfl⟩ := hrv.len
  obtain ⟨ao, ca, rfl⟩ := hv.len
  have hlen : (row.map cV).length = row.length := List.length_map ..
  rw [hlen] at hrv ⊢
  rw [hel] at hv ⊢
  refine K.enter Try.func22 rfl (Nat.le_of_ble_eq_true rfl) (fun F => ?_)
  simp only [List.nil_append]
  (repeat' (first | refine X.rq ?_ | (refine X.rc ?_ ?_ <;> intro hc <;> first | (exfalso; omega) | skip)))
  refine K.c_loop (σ := Nat) (fun j => [(0, .slice ao l.length ca), (1, .slice ao2 row.length ca2), (12, .slice ao l.length ca), (13, .int .i64 l.length), (14, .int .i64 j)]) (fun _ => h) (fun _ => F)
    (fun j => j ≤ l.length ∧ ∀ (i : Nat) e, i < j → l[i]? = some e → rightQ row.length e = true) (fun j => l.length - j) 0 ⟨Nat.zero_le _, fun i e hi => by omega⟩ (by repeat (first | exact K.Sub.nil _ | refine K.Sub.cons rfl ?_)) rfl rfl ?_
  rintro j ⟨hj, hyes⟩ KL hKL
  by_cases hjl : j < l.length
  · have hc1 : es[j]? = some (es[j]'(by omega)) := List.getElem?_eq_getElem (by omega)
    have hc0 : es[((j : Nat) : Int).toNat]? = some (es[j]'(by omega)) := by rw [Int.toNat_natCast]; exact hc1
    have he1 : l[j]? = some l[j] := List.getElem?_eq_getElem hjl
    generalize es[j]'(by omega) = c at hc0 hc1
    have hmem : l[j] ∈ l := List.getElem_mem hjl
    generalize l[j] = e at he1 hmem
    have hce := hr j c e hc1 he1
    obtain ⟨op', val', tb', nm', col', ao', n', ca', rfl⟩ := hce.form
    (repeat' (first | refine X.rq ?_ | (refine X.rc ?_ ?_ <;> intro hc <;> first | (exfalso; omega) | skip)))
    refine K.s_pureE (K.p_indexL hv (Fx.und rfl) (Fx.sz rfl) rfl rfl (by omega) hc0) rfl ?_
    rintro v2 ⟨b, o, rfl, hcel⟩
    refine K.s_pure (K.p_loadM (Fx.agg rfl) rfl (Cels.up hcel) (Fx.sz rfl) rfl) rfl ?_
    refine K.l_alloc (Fx.zr rfl) rfl rfl (fun B => ?_)
    refine X.stw ?_
    (repeat' (first | refine X.rq ?_ | (refine X.rc ?_ ?_ <;> intro hc <;> first | (exfalso; omega) | skip)))
    refine K.l_callV (Fx.cal rfl) rfl (Right m h _ e row.length hce) (K.pp [] rfl) rfl rfl ?_
    simp only [List.nil_append]
    cases hre : rightQ row.length e with
    | false =>
      rw [holdsQ, if_neg (by rw [List.all_eq_false.2 ⟨e, hmem, by rw [hre]; decide⟩]; decide)]
      (repeat' (first | refine X.rq ?_ | (refine X.rc ?_ ?_ <;> intro hc <;> first | (exfalso; omega) | skip)))
      refine K.AT.drop ?_
      refine K.done (by first | exact Or.inl rfl | exact Or.inr rfl) rfl (by first | exact K.Base.le.refl _ | assumption) (H' := []) rfl ⟨rfl, rfl, rfl⟩
    | true =>
      (repeat' (first | refine X.rq ?_ | (refine X.rc ?_ ?_ <;> intro hc <;> first | (exfalso; omega) | skip)))
      refine K.AT.drop ?_
      refine K.a_round hKL (j + 1) ⟨by omega, fun i e' hi hi2 => ?_⟩ (by repeat (first | exact K.Sub.nil _ | refine K.Sub.cons rfl ?_)) rfl rfl (by omega)
      by_cases hij : i < j
      · exact hyes i e' hij hi2
      · obtain rfl : i = j := by omega
        rw [he1] at hi2; cases hi2; exact hre
  · obtain rfl : j = l.length := by omega
    have hall : ∀ e ∈ l, rightQ row.length e = true := fun e he => by
      obtain ⟨i, hi, e1⟩ := List.getElem_of_mem he
      exact hyes i e hi (by rw [List.getElem?_eq_getElem hi, e1])
    rw [holdsQ, if_pos (List.all_eq_true.2 hall)]
    (repeat' (first | refine X.rq ?_ | (refine X.rc ?_ ?_ <;> intro hc <;> first | (exfalso; omega) | skip)))
    refine K.l_callV (Fx.cal rfl) rfl (Whole h _ row hrv hw hl) (K.pp [] rfl) rfl rfl ?_
    simp only [List.nil_append]
    cases ho : row.all okV with
    | false =>
      rw [if_neg (by decide)]
      (repeat' (first | refine X.rq ?_ | (refine X.rc ?_ ?_ <;> intro hc <;> first | (exfalso; omega) | skip)))
      refine K.done (by first | exact Or.inl rfl | exact Or.inr rfl) rfl (by first | exact K.Base.le.refl _ | assumption) (H' := []) rfl ⟨rfl, rfl, rfl⟩
    | true =>
      rw [if_pos rfl]
      have hgood := goods ho hw
      generalize hR : holdsL row l = R
      (repeat' (first | refine X.rq ?_ | (refine X.rc ?_ ?_ <;> intro hc <;> first | (exfalso; omega) | skip)))
      refine K.c_loop (σ := Nat) (fun j => [(1, .slice ao2 row.length ca2), (27, .slice ao l.length ca), (28, .int .i64 l.length), (29, .int .i64 j)]) (fun _ => h) (fun _ => F)
        (fun j => j ≤ l.length ∧ holdsL row (l.drop j) = R) (fun j => l.length - j) 0 ⟨Nat.zero_le _, by rw [List.drop_zero]; exact hR⟩ (by repeat (first | exact K.Sub.nil _ | refine K.Sub.cons rfl ?_)) rfl rfl ?_
      rintro j ⟨hj, hRj⟩ KM hKM
      by_cases hjl : j < l.length
      · have hc1 : es[j]? = some (es[j]'(by omega)) := List.getElem?_eq_getElem (by omega)
        have hc0 : es[((j : Nat) : Int).toNat]? = some (es[j]'(by omega)) := by rw [Int.toNat_natCast]; exact hc1
        have he1 : l[j]? = some l[j] := List.getElem?_eq_getElem hjl
        generalize es[j]'(by omega) = c at hc0 hc1
        have hmem : l[j] ∈ l := List.getElem_mem hjl
        generalize l[j] = e at he1 hmem
        have hce := hr j c e hc1 he1
        have hre := hall e hmem
        obtain ⟨op', val', tb', nm', col', ao', n', ca', rfl⟩ := hce.form
        rw [holds_at he1] at hRj
        (repeat' (first | refine X.rq ?_ | (refine X.rc ?_ ?_ <;> intro hc <;> first | (exfalso; omega) | skip)))
        refine K.s_pureE (K.p_indexL hv (Fx.und rfl) (Fx.sz rfl) rfl rfl (by omega) hc0) rfl ?_
        rintro v2 ⟨b, o, rfl, hcel⟩
        refine K.s_pure (K.p_loadM (Fx.agg rfl) rfl (Cels.up hcel) (Fx.sz rfl) rfl) rfl ?_
        refine K.l_alloc (Fx.zr rfl) rfl rfl (fun B1 => ?_)
        refine X.stw ?_
        (repeat' (first | refine X.rq ?_ | (refine X.rc ?_ ?_ <;> intro hc <;> first | (exfalso; omega) | skip)))
        refine K.l_callV (Fx.cal rfl) rfl (Of m h _ e _ row hce hrv hgood hre) (K.pp [] rfl) rfl rfl ?_
        simp only [List.nil_append]
        generalize valueQ row e = vq at hRj ⊢
        obtain ⟨x, f⟩ := vq
        rw [show rV (x, f) = .tuple #[.agg (cV x).toArray, .int .i64 f] from rfl]
        dsimp only at hRj
        (repeat' (first | refine X.rq ?_ | (refine X.rc ?_ ?_ <;> intro hc <;> first | (exfalso; omega) | skip)))
        refine K.l_alloc (Fx.zr rfl) rfl rfl (fun B2 => ?_)
        refine X.stw ?_
        (repeat' (first | refine X.rq ?_ | (refine X.rc ?_ ?_ <;> intro hc <;> first | (exfalso; omega) | skip)))
        · rw [if_pos (by assumption)] at hRj
          subst hRj
          refine K.AT.sel [0, 0] rfl ?_
          refine K.done (by first | exact Or.inl rfl | exact Or.inr rfl) rfl (by first | exact K.Base.le.refl _ | assumption) (H' := []) rfl ⟨rfl, rfl, rfl⟩
        · have hf : f = 0 := by omega
          have hk0 : x.kind ≠ 0 := by assumption
          have hk3 : x.kind ≠ 3 := by assumption
          rw [if_neg (fun e => e hf), if_pos ⟨hk0, hk3⟩] at hRj
          subst hRj
          refine K.AT.sel [0, 0] rfl ?_
          refine K.done (by first | exact Or.inl rfl | exact Or.inr rfl) rfl (by first | exact K.Base.le.refl _ | assumption) (H' := []) rfl ⟨rfl, rfl, rfl⟩
        all_goals
          have hf : f = 0 := by omega
          rw [if_neg (fun e => e hf), if_neg (by omega)] at hRj
          refine X.draw ([blk B2 23 (cV x)]) [] (.st 0 (.on 1 (.pu 2 (.pu 3 .nil)))) ?_
          refine K.d_st rfl X.ld rfl ?_
          refine K.d_on rfl (fun KK hKK => ?_)
          refine K.l_callV (Fx.cal rfl) rfl (TruthE h true) (K.pp [] rfl) rfl rfl ?_
          simp only [List.nil_append]
          refine K.l_nil ?_
          refine X.onE hKK ?_
          refine K.d_pu rfl (fun _ _ => X.bneq) rfl ?_
          rw [eqV_not]
          refine K.d_pu rfl (fun _ _ => X.sg) rfl ?_
          refine K.d_nil ?_
          (repeat' (first | refine X.rq ?_ | (refine X.rc ?_ ?_ <;> intro hc <;> first | (exfalso; omega) | skip)))
          · rw [if_pos (by assumption)] at hRj
            subst hRj
            refine K.AT.sel [0, 0] rfl ?_
            refine K.done (by first | exact Or.inl rfl | exact Or.inr rfl) rfl (by first | exact K.Base.le.refl _ | assumption) (H' := []) rfl ⟨rfl, rfl, rfl⟩
          · rw [if_neg (by assumption)] at hRj
            refine K.AT.sel [0, 0] rfl ?_
            refine K.a_round hKM (j + 1) ⟨by omega, hRj⟩ (by repeat (first | exact K.Sub.nil _ | refine K.Sub.cons rfl ?_)) rfl rfl (by omega)
      · obtain rfl : j = l.length := by omega
        rw [List.drop_length] at hRj
        subst hRj
        (repeat' (first | refine X.rq ?_ | (refine X.rc ?_ ?_ <;> intro hc <;> first | (exfalso; omega) | skip)))
        refine K.done (by first | exact Or.inl rfl | exact Or.inr rfl) rfl (by first | exact K.Base.le.refl _ | assumption) (H' := []) rfl ⟨rfl, rfl, rfl⟩
end Go.Proofs.Ytmkhejdamjibgaa.Rw
