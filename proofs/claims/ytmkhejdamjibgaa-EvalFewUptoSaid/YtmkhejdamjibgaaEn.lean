/-
  The columns of an expression, rising, each once; whether a column is asked. Conditions: each theorem's own.
-/
import Derived.Test.YtmkhejdamjibgaaEl
import Derived.Test.YtmkhejdamjibgaaEm
import Derived.Test.YtmkhejdamjibgaaEi

namespace Go.Proofs.Ytmkhejdamjibgaa.Rw
open Go Go.K Go.Proofs Go.Proofs.Ytmkhejdamjibgaa
set_option linter.unusedVariables false
set_option linter.unusedSimpArgs false
set_option maxRecDepth 10000

set_option maxHeartbeats 2000000 in
theorem Cols (m : Nat) (h : Base) (cs : List Value) (e : Ex) (hx : ExC h m cs e) (hb : (colsQ e).length ≤ 17592186044415) :
    Tr Try.prog 5 [.agg cs.toArray] h [] (fun u h' H' => H' = [] ∧ ∃ p, SL h' 1 u (rowI p) ∧ Once p (colsQ e)) := by
  have hw := fun BL BW => ColsW m h cs e BL BW none 0 [] hx (by rw [List.length_nil, Nat.zero_add]; exact hb)
  obtain ⟨op', val', tb', nm', col', ao', n', ca', rfl⟩ := hx.shape
  refine K.enter Try.func5 rfl (Nat.le_of_ble_eq_true rfl) (fun F => ?_)
  simp only [List.nil_append]
  (repeat' (first | refine X.rq ?_ | (refine X.rc ?_ ?_ <;> intro hc <;> first | (exfalso; omega) | skip)))
  refine K.l_box rfl rfl rfl (fun B1 => ?_)
  (repeat' (first | refine X.rq ?_ | (refine X.rc ?_ ?_ <;> intro hc <;> first | (exfalso; omega) | skip)))
  refine K.l_alloc (Fx.zr rfl) rfl rfl (fun BL => ?_)
  (repeat' (first | refine X.rq ?_ | (refine X.rc ?_ ?_ <;> intro hc <;> first | (exfalso; omega) | skip)))
  refine K.l_alloc (Fx.zr rfl) rfl rfl (fun BW => ?_)
  (repeat' (first | refine X.rq ?_ | (refine X.rc ?_ ?_ <;> intro hc <;> first | (exfalso; omega) | skip)))
  refine K.s_pure (K.p_makeFunc rfl) rfl ?_
  refine X.sto ?_
  simp only [List.set_cons_zero, List.set_cons_succ, List.eraseIdx_cons_zero, List.eraseIdx_cons_succ, List.cons_append, List.nil_append]
  (repeat' (first | refine X.rq ?_ | (refine X.rc ?_ ?_ <;> intro hc <;> first | (exfalso; omega) | skip)))
  refine K.WL.nilBuf 3 1 ?_

  refine K.l_callF (vals := [.agg (cE op' val' tb' nm' col' (.slice ao' n' ca')).toArray]) (Fx.cal rfl) rfl rfl (hw BL BW) (K.pp [2, 0, 0] rfl) rfl ?_
  rintro u h' H' - ⟨e1, rfl, a1, k1, rfl⟩
  obtain rfl := e1
  simp only [List.nil_append, List.cons_append]
  (repeat' (first | refine X.rq ?_ | (refine X.rc ?_ ?_ <;> intro hc <;> first | (exfalso; omega) | skip)))
  refine K.l_call (Fx.cal rfl) rfl (SortI h a1 k1 (colsQ e) (by omega)) (K.pp [1] rfl) rfl ?_
  rintro u h' H' - ⟨e1, rfl, l', hp, hs, rfl⟩
  obtain rfl := e1
  have hlen := hp.length_eq
  rw [← hlen]
  simp only [List.nil_append, List.cons_append]
  (repeat' (first | refine X.rq ?_ | (refine X.rc ?_ ?_ <;> intro hc <;> first | (exfalso; omega) | skip)))
  refine K.l_call (Fx.cal rfl) rfl (CompactI h a1 k1 l' hs (by omega)) (K.pp [0] rfl) rfl ?_
  rintro u h' H' le1 ⟨rfl, _, p, hsl, hon⟩
  simp only [List.nil_append, List.cons_append]
  (repeat' (first | refine X.rq ?_ | (refine X.rc ?_ ?_ <;> intro hc <;> first | (exfalso; omega) | skip)))
  refine K.AT.sel [0, 0, 0] rfl ?_
  refine K.done (by first | exact Or.inl rfl | exact Or.inr rfl) rfl (by first | exact K.Base.le.refl _ | assumption) (H' := []) rfl ⟨rfl, p, hsl, hon.rise, fun x => (hon.mem x).trans hp.mem_iff⟩
theorem nodup_leI : ∀ {l m : List Int}, l.Nodup → (∀ x ∈ l, x ∈ m) → l.length ≤ m.length
  | [], m, _, _ => Nat.zero_le _
  | x :: l, m, hn, hs => by
    rw [List.nodup_cons] at hn
    have hx := hs x (List.mem_cons_self ..)
    have := nodup_leI (l := l) (m := m.erase x) hn.2 fun y hy => (List.mem_erase_of_ne (fun (e : y = x) => hn.1 (by rw [← e]; exact hy))).2 (hs y (List.mem_cons_of_mem _ hy))
    rw [List.length_erase_of_mem hx] at this
    have := List.length_pos_of_mem hx
    rw [List.length_cons]
    omega
theorem mem_cols {op : Int} {val : Val} {tb nm : ByteArray} {col : Int} {args : List Ex} {c : Int} : c ∈ colsQ (.mk op val tb nm col args) ↔ (op = 3 ∧ c = col) ∨ ∃ e ∈ args, c ∈ colsQ e := by
  rw [colsQ, colsL_flat, List.mem_append, List.mem_flatMap]
  by_cases h3 : op = 3
  · rw [if_pos h3, List.mem_singleton]
    exact ⟨fun e => e.imp (fun e => ⟨h3, e⟩) id, fun e => e.imp (fun e => e.2) id⟩
  · rw [if_neg h3]
    exact ⟨fun e => e.elim (fun e => by cases e) .inr, fun e => e.elim (fun e => absurd e.1 h3) .inr⟩
set_option maxHeartbeats 2000000 in
theorem Asks : ∀ (m : Nat) (h : Base) (cs : List Value) (e : Ex) (c : Int), ExC h m cs e → TrV Try.prog 6 [.agg cs.toArray, .int .i64 c] h [] (.bool (decide (c ∈ colsQ e))) []
  | 0, h, cs, e, c, hx => hx.elim
  | m + 1, h, cs, .mk op val tb nm col args, c, ⟨⟨hop, hval, hcol⟩, av, es, hcs, hv, hel, hal, hr⟩ => by
    subst hcs
    have ih := Asks m h
    obtain ⟨ao, ca, rfl⟩ := hv.len
    rw [hel] at hv ⊢
    have hmc : c ∈ colsQ (.mk op val tb nm col args) ↔ (op = 3 ∧ c = col) ∨ ∃ e ∈ args, c ∈ colsQ e := mem_cols
    refine K.enter Try.func6 rfl (Nat.le_of_ble_eq_true rfl) (fun F => ?_)
    (repeat' (first | refine X.rq ?_ | (refine X.rc ?_ ?_ <;> intro hc <;> first | (exfalso; omega) | skip)))
    refine K.l_box rfl rfl rfl (fun B1 => ?_)
    by_cases hcn : op = 3 ∧ c = col
    · obtain ⟨h3, rfl⟩ := hcn
      rw [decide_eq_true (hmc.2 (.inl ⟨h3, rfl⟩))]
      (repeat' (first | refine X.rq ?_ | (refine X.rc ?_ ?_ <;> intro hc <;> first | (exfalso; omega) | skip)))
      refine K.AT.sel [0] rfl ?_
      refine K.done (by first | exact Or.inl rfl | exact Or.inr rfl) rfl (by first | exact K.Base.le.refl _ | assumption) (H' := []) rfl ⟨rfl, rfl, rfl⟩
    · have hc' : op = 3 → col ≠ c := fun e1 e2 => hcn ⟨e1, e2.symm⟩
      by_cases h3 : op = 3
      all_goals
        (repeat' (first | refine X.rq ?_ | (refine X.rc ?_ ?_ <;> intro hc <;> first | (exfalso; omega) | skip)))
        refine K.c_loop (σ := Nat) (fun j => [(2, .pointer (some ⟨B1, 0, none⟩)), (1, .int .i64 c), (5, .int .i64 j)]) (fun _ => h) (fun _ => blk B1 26 (cE op val tb nm col (.slice ao args.length ca)) :: F)
          (fun j => j ≤ args.length ∧ ∀ (i : Nat) e, i < j → args[i]? = some e → c ∉ colsQ e) (fun j => args.length - j) 0 ⟨Nat.zero_le _, fun i e hi => absurd hi (Nat.not_lt_zero _)⟩ (by repeat (first | exact K.Sub.nil _ | refine K.Sub.cons rfl ?_)) rfl rfl ?_
        rintro j ⟨hj, hno⟩ KL hKL
        by_cases hjl : j < args.length
        · have hc1 : es[j]? = some (es[j]'(by omega)) := List.getElem?_eq_getElem (by omega)
          have hc0 : es[((j : Nat) : Int).toNat]? = some (es[j]'(by omega)) := by rw [Int.toNat_natCast]; exact hc1
          have he1 : args[j]? = some args[j] := List.getElem?_eq_getElem hjl
          generalize es[j]'(by omega) = d at hc0 hc1
          have hmem : args[j] ∈ args := List.getElem_mem hjl
          generalize args[j] = e at he1 hmem
          have hce := hr j d e hc1 he1
          (repeat' (first | refine X.rq ?_ | (refine X.rc ?_ ?_ <;> intro hc <;> first | (exfalso; omega) | skip)))
          refine K.s_pureE (K.p_indexL hv (Fx.und rfl) (Fx.sz rfl) rfl rfl (by omega) hc0) rfl ?_
          rintro v2 ⟨b, o, rfl, hcel⟩
          refine K.s_pure (K.p_loadM (Fx.agg rfl) rfl (Cels.up hcel) (Fx.sz rfl) hce.len) rfl ?_
          (repeat' (first | refine X.rq ?_ | (refine X.rc ?_ ?_ <;> intro hc <;> first | (exfalso; omega) | skip)))
          refine K.l_callV (Fx.cal rfl) rfl (ih d e c hce) (K.pp [] rfl) rfl rfl ?_
          simp only [List.nil_append]
          by_cases hq : c ∈ colsQ e
          · rw [decide_eq_true hq, decide_eq_true (hmc.2 (.inr ⟨e, hmem, hq⟩))]
            (repeat' (first | refine X.rq ?_ | (refine X.rc ?_ ?_ <;> intro hc <;> first | (exfalso; omega) | skip)))
            refine K.AT.sel [0] rfl ?_
            refine K.done (by first | exact Or.inl rfl | exact Or.inr rfl) rfl (by first | exact K.Base.le.refl _ | assumption) (H' := []) rfl ⟨rfl, rfl, rfl⟩
          · rw [decide_eq_false hq]
            (repeat' (first | refine X.rq ?_ | (refine X.rc ?_ ?_ <;> intro hc <;> first | (exfalso; omega) | skip)))
            refine K.a_round hKL (j + 1) ⟨by omega, fun i e' hi hi2 => ?_⟩ (by repeat (first | exact K.Sub.nil _ | refine K.Sub.cons rfl ?_)) rfl rfl (by omega)
            by_cases hij : i < j
            · exact hno i e' hij hi2
            · obtain rfl : i = j := by omega
              rw [he1] at hi2; cases hi2; exact hq
        · obtain rfl : j = args.length := by omega
          rw [decide_eq_false (fun hq => by
            rcases hmc.1 hq with hq | ⟨e, he, hq⟩
            · exact hcn hq
            · obtain ⟨i, hi, e1⟩ := List.getElem_of_mem he
              exact hno i e hi (by rw [List.getElem?_eq_getElem hi, e1]) hq)]
          (repeat' (first | refine X.rq ?_ | (refine X.rc ?_ ?_ <;> intro hc <;> first | (exfalso; omega) | skip)))
          refine K.AT.sel [0] rfl ?_
          refine K.done (by first | exact Or.inl rfl | exact Or.inr rfl) rfl (by first | exact K.Base.le.refl _ | assumption) (H' := []) rfl ⟨rfl, rfl, rfl⟩
/-- All columns that an expression asks are in a list. -/
theorem AllIn : ∀ (m : Nat) (h : Base) (cs : List Value) (e : Ex) (v : Value) (l : List Int), ExC h m cs e → SL h 1 v (rowI l) → l.length ≤ 9223372036854775807 → (∀ x ∈ colsQ e, x ∈ l) → TrV Try.prog 7 [.agg cs.toArray, v] h [] (.bool true) []
  | 0, h, cs, e, v, l, hx, _, _, _ => hx.elim
  | m + 1, h, cs, .mk op val tb nm col args, v, l, ⟨⟨hop, hval, hcol⟩, av, es, hcs, hv, hel, hal, hr⟩, hsl, hll, hin => by
    subst hcs
    have ih := AllIn m h
    obtain ⟨ao, ca, rfl⟩ := hv.len
    rw [hel] at hv ⊢
    have hin3 : op = 3 → col ∈ l := fun h3 => hin col (mem_cols.2 (.inl ⟨h3, rfl⟩))
    have hina : ∀ e ∈ args, ∀ x ∈ colsQ e, x ∈ l := fun e he x hx => hin x (mem_cols.2 (.inr ⟨e, he, hx⟩))
    clear hin
    have hsl0 := hsl
    obtain ⟨ao2, ca2, rfl⟩ := hsl.len
    rw [rowI_len] at hsl hsl0 ⊢
    refine K.enter Try.func7 rfl (Nat.le_of_ble_eq_true rfl) (fun F => ?_)
    simp only [List.nil_append]
    (repeat' (first | refine X.rq ?_ | (refine X.rc ?_ ?_ <;> intro hc <;> first | (exfalso; omega) | skip)))
    refine K.l_box rfl rfl rfl (fun B2 => ?_)
    (repeat' (first | refine X.rs ?_ | (refine X.rd ?_ ?_ <;> intro hc <;> first | (exfalso; omega) | skip)))
    apply K.c_seq
    refine K.c_join (β := Unit) (fun _ => [(1, .slice ao2 l.length ca2), (2, .pointer (some ⟨B2, 0, none⟩))]) (fun _ => h) (fun _ => blk B2 26 (cE op val tb nm col (.slice ao args.length ca)) :: F) (fun _ => True) (fun KJ hJ => ?_) ?_
    · by_cases h3 : op = 3
      · have hin3 := hin3 h3
        (repeat' (first | refine X.rq ?_ | (refine X.rc ?_ ?_ <;> intro hc <;> first | (exfalso; omega) | skip)))
        refine K.c_loop (σ := Nat × Bool) (fun q => [(1, .slice ao2 l.length ca2), (2, .pointer (some ⟨B2, 0, none⟩)), (5, .bool q.2), (6, .int .i64 q.1)]) (fun _ => h) (fun _ => blk B2 26 (cE op val tb nm col (.slice ao args.length ca)) :: F)
          (fun q => q.1 ≤ l.length ∧ (col ∈ l.take q.1 → q.2 = true)) (fun q => l.length - q.1) (0, false) ⟨Nat.zero_le _, fun e => by cases e⟩ (by repeat (first | exact K.Sub.nil _ | refine K.Sub.cons rfl ?_)) rfl rfl ?_
        rintro ⟨j, th⟩ ⟨hj, hth⟩ KL hKL
        dsimp only at hj hth ⊢
        by_cases hjl : j < l.length
        · have hx1 : l[j]? = some l[j] := List.getElem?_eq_getElem hjl
          have hta : l.take (j + 1) = l.take j ++ [l[j]] := List.take_succ_eq_append_getElem hjl
          generalize l[j] = x at hx1 hta
          obtain ⟨bb, oo, rfl, hcx⟩ := hsl.at (rowI_at hx1)
          have hstep : ∀ th' : Bool, (th = true → th' = true) → (x = col → th' = true) → (col ∈ l.take (j + 1) → th' = true) := fun th' g1 g2 hm => by
            rw [hta, List.mem_append, List.mem_singleton] at hm
            exact hm.elim (fun hm => g1 (hth hm)) fun e => g2 e.symm
          clear hth
          have hstep := fun (_ : Unit) => hstep
          cases th with
          | true =>
            (repeat' (first | refine X.rq ?_ | (refine X.rc ?_ ?_ <;> intro hc <;> first | (exfalso; omega) | skip)))
            refine X.draw ([blk B2 26 (cE op val tb nm col (.slice ao args.length ca))]) [] (.pu 0 (.pu 1 (.pu 2 (.pu 3 (.pu 4 (.pu 6 (.st 5 (.st 7 (.pu 8 (.pu 9 (.pu 10 .nil))))))))))) ?_
            refine K.d_pu rfl (fun _ _ => X.mv) rfl ?_
            refine K.d_pu rfl (fun _ _ => X.mv) rfl ?_
            first | refine K.d_skip rfl rfl rfl rfl ?_ | refine K.d_skipU rfl rfl rfl rfl rfl ?_ | refine K.d_puG rfl rfl rfl (fun _ _ => X.mv) rfl ?_
            first | refine K.d_skip rfl rfl rfl rfl ?_ | refine K.d_skipU rfl rfl rfl rfl rfl ?_ | refine K.d_puG rfl rfl rfl (fun _ _ => X.mv) rfl ?_
            first | refine K.d_skip rfl rfl rfl rfl ?_ | refine K.d_skipU rfl rfl rfl rfl rfl ?_ | refine K.d_puG rfl rfl rfl (fun _ _ => X.ia) rfl ?_
            first | refine K.d_skip rfl rfl rfl rfl ?_ | refine K.d_skipU rfl rfl rfl rfl rfl ?_ | refine K.d_puG rfl rfl rfl (fun _ _ => X.fa) rfl ?_
            first | refine K.d_skipS rfl rfl rfl rfl ?_ | refine K.d_skipUS rfl rfl rfl rfl rfl ?_ | refine K.d_stG rfl rfl rfl X.ld rfl ?_
            first | refine K.d_skipS rfl rfl rfl rfl ?_ | refine K.d_skipUS rfl rfl rfl rfl rfl ?_ | refine K.d_stG rfl rfl rfl X.ld rfl ?_
            first | refine K.d_skip rfl rfl rfl rfl ?_ | refine K.d_skipU rfl rfl rfl rfl rfl ?_ | refine K.d_puG rfl rfl rfl (fun _ _ => X.beql) rfl ?_
            refine K.d_pu rfl (fun _ _ => X.pk) rfl ?_
            refine K.d_pu rfl (fun _ _ => X.sg) rfl ?_
            refine K.d_nil ?_
            (repeat' (first | refine X.rq ?_ | (refine X.rc ?_ ?_ <;> intro hc <;> first | (exfalso; omega) | skip)))
            refine K.a_round hKL (j + 1, true) ⟨by dsimp only; omega, hstep () true (fun _ => rfl) (fun _ => rfl)⟩ (by repeat (first | exact K.Sub.nil _ | refine K.Sub.cons rfl ?_)) rfl rfl (by dsimp only; omega)
          | false =>
            (repeat' (first | refine X.rq ?_ | (refine X.rc ?_ ?_ <;> intro hc <;> first | (exfalso; omega) | skip)))
            refine X.draw ([blk B2 26 (cE op val tb nm col (.slice ao args.length ca))]) [] (.pu 0 (.pu 1 (.pu 2 (.pu 3 (.pu 4 (.pu 6 (.st 5 (.st 7 (.pu 8 (.pu 9 (.pu 10 .nil))))))))))) ?_
            refine K.d_pu rfl (fun _ _ => X.mv) rfl ?_
            refine K.d_pu rfl (fun _ _ => X.mv) rfl ?_
            first | refine K.d_skip rfl rfl rfl rfl ?_ | refine K.d_skipU rfl rfl rfl rfl rfl ?_ | refine K.d_puG rfl rfl rfl (fun _ _ => X.mv) rfl ?_
            first | refine K.d_skip rfl rfl rfl rfl ?_ | refine K.d_skipU rfl rfl rfl rfl rfl ?_ | refine K.d_puG rfl rfl rfl (fun _ _ => X.mv) rfl ?_
            first | refine K.d_skip rfl rfl rfl rfl ?_ | refine K.d_skipU rfl rfl rfl rfl rfl ?_ | refine K.d_puG rfl rfl rfl (fun _ _ => X.ia) rfl ?_
            first | refine K.d_skip rfl rfl rfl rfl ?_ | refine K.d_skipU rfl rfl rfl rfl rfl ?_ | refine K.d_puG rfl rfl rfl (fun _ _ => X.fa) rfl ?_
            refine K.d_stG rfl rfl rfl (K.p_load (Fx.agg rfl) rfl (Cels.get (Cels.up hcx) 0 (iV x) rfl)) rfl ?_
            refine K.d_stG rfl rfl rfl (K.p_load (Fx.agg rfl) rfl (K.cel_own 0 rfl rfl)) rfl ?_
            first | refine K.d_skip rfl rfl rfl rfl ?_ | refine K.d_skipU rfl rfl rfl rfl rfl ?_ | refine K.d_puG rfl rfl rfl (fun _ _ => X.beql) rfl ?_
            refine K.d_pu rfl (fun _ _ => X.pk) rfl ?_
            refine K.d_pu rfl (fun _ _ => X.sg) rfl ?_
            refine K.d_nil ?_
            (repeat' (first | refine X.rq ?_ | (refine X.rc ?_ ?_ <;> intro hc <;> first | (exfalso; omega) | skip)))
            refine K.a_round hKL (j + 1, decide (x = col)) ⟨by dsimp only; omega, hstep () _ (fun e => by cases e) (fun e => decide_eq_true e)⟩ (by repeat (first | exact K.Sub.nil _ | refine K.Sub.cons rfl ?_)) rfl rfl (by dsimp only; omega)
        · obtain rfl : j = l.length := by omega
          rw [List.take_length] at hth
          obtain rfl := hth hin3
          (repeat' (first | refine X.rq ?_ | (refine X.rc ?_ ?_ <;> intro hc <;> first | (exfalso; omega) | skip)))
          exact K.a_join hJ () trivial (by repeat (first | exact K.Sub.nil _ | refine K.Sub.cons rfl ?_)) rfl rfl
      · (repeat' (first | refine X.rq ?_ | (refine X.rc ?_ ?_ <;> intro hc <;> first | (exfalso; omega) | skip)))
        exact K.a_join hJ () trivial (by repeat (first | exact K.Sub.nil _ | refine K.Sub.cons rfl ?_)) rfl rfl
    · rintro ⟨⟩ -
      clear hin3 hsl
      (repeat' (first | refine X.rq ?_ | (refine X.rc ?_ ?_ <;> intro hc <;> first | (exfalso; omega) | skip)))
      refine K.c_loop (σ := Nat) (fun j => [(1, .slice ao2 l.length ca2), (2, .pointer (some ⟨B2, 0, none⟩)), (7, .int .i64 j)]) (fun _ => h) (fun _ => blk B2 26 (cE op val tb nm col (.slice ao args.length ca)) :: F)
        (fun j => j ≤ args.length) (fun j => args.length - j) 0 (Nat.zero_le _) (by repeat (first | exact K.Sub.nil _ | refine K.Sub.cons rfl ?_)) rfl rfl ?_
      rintro j hj KL hKL
      by_cases hjl : j < args.length
      · have hc1 : es[j]? = some (es[j]'(by omega)) := List.getElem?_eq_getElem (by omega)
        have hc0 : es[((j : Nat) : Int).toNat]? = some (es[j]'(by omega)) := by rw [Int.toNat_natCast]; exact hc1
        have he1 : args[j]? = some args[j] := List.getElem?_eq_getElem hjl
        generalize es[j]'(by omega) = d at hc0 hc1
        have hmem : args[j] ∈ args := List.getElem_mem hjl
        generalize args[j] = e at he1 hmem
        have hce := hr j d e hc1 he1
        (repeat' (first | refine X.rq ?_ | (refine X.rc ?_ ?_ <;> intro hc <;> first | (exfalso; omega) | skip)))
        refine K.s_pureE (K.p_indexL hv (Fx.und rfl) (Fx.sz rfl) rfl rfl (by omega) hc0) rfl ?_
        rintro v2 ⟨b, o, rfl, hcel⟩
        refine K.s_pure (K.p_loadM (Fx.agg rfl) rfl (Cels.up hcel) (Fx.sz rfl) hce.len) rfl ?_
        (repeat' (first | refine X.rq ?_ | (refine X.rc ?_ ?_ <;> intro hc <;> first | (exfalso; omega) | skip)))
        refine K.l_callV (Fx.cal rfl) rfl (ih d e _ l hce hsl0 hll (hina e hmem)) (K.pp [] rfl) rfl rfl ?_
        simp only [List.nil_append]
        (repeat' (first | refine X.rq ?_ | (refine X.rc ?_ ?_ <;> intro hc <;> first | (exfalso; omega) | skip)))
        refine K.a_round hKL (j + 1) (by omega) (by repeat (first | exact K.Sub.nil _ | refine K.Sub.cons rfl ?_)) rfl rfl (by omega)
      · obtain rfl : j = args.length := by omega
        (repeat' (first | refine X.rq ?_ | (refine X.rc ?_ ?_ <;> intro hc <;> first | (exfalso; omega) | skip)))
        refine K.AT.sel [0] rfl ?_
        refine K.done (by first | exact Or.inl rfl | exact Or.inr rfl) rfl (by first | exact K.Base.le.refl _ | assumption) (H' := []) rfl ⟨rfl, rfl, rfl⟩
set_option maxHeartbeats 4000000 in
theorem EvalColsW (m : Nat) (h : Base) (cs : List Value) (e : Ex) (more : Int) (hx : ExC h m cs e) (hb : (colsQ e).length ≤ 17592186044415) (hmo : -9223372036854775808 ≤ more ∧ more ≤ 9223372036854775807) :
    Tr Try.prog 3 [.agg cs.toArray, .int .i64 more] h [] (fun u h' H' => u = .bool true ∧ H' = []) := by
  have hco := Cols m h cs e hx hb
  have hx0 := hx
  obtain ⟨op', val', tb', nm', col', ao', n', ca', rfl⟩ := hx.shape
  refine K.enter Try.func3 rfl (Nat.le_of_ble_eq_true rfl) (fun F => ?_)
  simp only [List.nil_append]
  (repeat' (first | refine X.rq ?_ | (refine X.rc ?_ ?_ <;> intro hc <;> first | (exfalso; omega) | skip)))
  refine K.l_box rfl rfl rfl (fun B2 => ?_)
  (repeat' (first | refine X.rq ?_ | (refine X.rc ?_ ?_ <;> intro hc <;> first | (exfalso; omega) | skip)))
  refine K.l_call (Fx.cal rfl) rfl hco (K.pp [] rfl) rfl ?_
  rintro u h1 H' le1 ⟨rfl, p, hsl, hon⟩
  have hx := hx0.le le1
  have hmem : ∀ x, x ∈ p ↔ x ∈ colsQ e := hon.mem
  have hrise := hon.rise
  have hpl : p.length ≤ (colsQ e).length := by
    have hnd : p.Nodup := hrise.imp fun h e => by omega
    exact nodup_leI hnd fun x hx => (hmem x).1 hx
  obtain ⟨ao, ca, rfl⟩ := hsl.len
  have hsl0 := hsl
  rw [rowI_len] at hsl hsl0 ⊢
  have hal := AllIn m h1 _ e _ p hx hsl0 (by omega) fun x hx => (hmem x).2 hx
  have hask := fun c => Asks m h1 _ e c hx
  have haw := awake h1
  clear hco hx0 hon
  simp only [List.nil_append]
  (repeat' (first | refine X.rq ?_ | (refine X.rc ?_ ?_ <;> intro hc <;> first | (exfalso; omega) | skip)))
  refine K.c_loop (σ := Nat) (fun j => [(1, .int .i64 more), (2, .pointer (some ⟨B2, 0, none⟩)), (5, .slice ao p.length ca), (6, .int .i64 j)]) (fun _ => h1) (fun _ => blk B2 26 (cE op' val' tb' nm' col' (.slice ao' n' ca')) :: F) (fun j => j ≤ p.length) (fun j => p.length - j) 0 (Nat.zero_le _) (by repeat (first | exact K.Sub.nil _ | refine K.Sub.cons rfl ?_)) rfl rfl ?_
  rintro j hj KL hKL
  by_cases hjl : j < p.length
  · have hx1 : p[j]? = some p[j] := List.getElem?_eq_getElem hjl
    have hin : p[j] ∈ colsQ e := (hmem _).1 (List.getElem_mem hjl)
    generalize p[j] = x at hx1 hin
    have ha := hask x
    rw [decide_eq_true hin] at ha
    by_cases h0 : 0 < j
    · have hy1 : p[j - 1]? = some (p[j - 1]'(by omega)) := List.getElem?_eq_getElem (by omega)
      generalize p[j - 1]'(by omega) = y at hy1
      have hlt : y < x := by
        obtain ⟨j1, rfl⟩ := List.getElem?_eq_some_iff.1 hx1
        obtain ⟨j2, rfl⟩ := List.getElem?_eq_some_iff.1 hy1
        exact List.pairwise_iff_getElem.1 hrise (j - 1) j j2 j1 (by omega)
      obtain ⟨bb, oo, rfl, hcx⟩ := hsl.at (rowI_at hx1)
      obtain ⟨bb2, oo2, e1, hcy⟩ := hsl.at (rowI_at hy1)
      obtain ⟨rfl, rfl⟩ : bb = bb2 ∧ oo = oo2 := by cases e1; exact ⟨rfl, rfl⟩
      clear e1
      (repeat' (first | refine X.rq ?_ | (refine X.rc ?_ ?_ <;> intro hc <;> first | (exfalso; omega) | skip)))
      refine X.draw ([blk B2 26 (cE op' val' tb' nm' col' (.slice ao' n' ca'))]) [] (.pu 1 (.pu 2 (.pu 3 (.st 0 (.st 4 (.on 5 (.pu 6 (.pu 7 (.pu 8 (.pu 9 (.pu 10 (.pu 11 (.pu 12 (.pu 13 (.pu 14 (.pu 16 (.pu 17 (.pu 18 (.st 15 (.st 19 (.pu 20 (.pu 21 (.pu 22 .nil))))))))))))))))))))))) ?_
      refine K.d_pu rfl (fun _ _ => X.mv) rfl ?_
      refine K.d_pu rfl (fun _ _ => X.mv) rfl ?_
      refine K.d_pu rfl (fun _ _ => X.ia) rfl ?_
      refine K.d_st rfl (K.p_loadW 0 rfl rfl (Fx.agg rfl) (Fx.sz rfl)) rfl ?_
      refine K.d_st rfl (K.p_load (Fx.agg rfl) rfl (Cels.get (Cels.up hcx) 0 (iV x) rfl)) rfl ?_
      refine K.d_on rfl (fun KK hKK => ?_)
      refine K.l_callV (Fx.cal rfl) rfl ha (K.pp [] rfl) rfl rfl ?_
      simp only [List.nil_append]
      refine K.l_nil ?_
      refine X.onE hKK ?_
      refine K.d_pu rfl (fun _ _ => X.nt) rfl ?_
      refine K.d_pu rfl (fun _ _ => X.mv) rfl ?_
      first | refine K.d_skip rfl rfl rfl rfl ?_ | refine K.d_skipU rfl rfl rfl rfl rfl ?_ | refine K.d_puG rfl rfl rfl (fun _ _ => X.mv) rfl ?_
      first | refine K.d_skip rfl rfl rfl rfl ?_ | refine K.d_skipU rfl rfl rfl rfl rfl ?_ | refine K.d_puG rfl rfl rfl (fun _ _ => X.bgtr) rfl ?_
      rw [decide_eq_true (show ((j : Nat) : Int) > 0 by omega)]
      first | refine K.d_skip rfl rfl rfl rfl ?_ | refine K.d_skipU rfl rfl rfl rfl rfl ?_ | refine K.d_puG rfl rfl rfl (fun _ _ => X.mv) rfl ?_
      first | refine K.d_skip rfl rfl rfl rfl ?_ | refine K.d_skipU rfl rfl rfl rfl rfl ?_ | refine K.d_puG rfl rfl rfl (fun _ _ => X.mv) rfl ?_
      first | refine K.d_skip rfl rfl rfl rfl ?_ | refine K.d_skipU rfl rfl rfl rfl rfl ?_ | refine K.d_puG rfl rfl rfl (fun _ _ => X.mv) rfl ?_
      first | refine K.d_skip rfl rfl rfl rfl ?_ | refine K.d_skipU rfl rfl rfl rfl rfl ?_ | refine K.d_puG rfl rfl rfl (fun _ _ => X.bsub) rfl ?_
      rw [show ((j : Nat) : Int) - 1 = ((j - 1 : Nat) : Int) by omega]
      first | refine K.d_skip rfl rfl rfl rfl ?_ | refine K.d_skipU rfl rfl rfl rfl rfl ?_ | refine K.d_puG rfl rfl rfl (fun _ _ => X.ia) rfl ?_
      first | refine K.d_skip rfl rfl rfl rfl ?_ | refine K.d_skipU rfl rfl rfl rfl rfl ?_ | refine K.d_puG rfl rfl rfl (fun _ _ => X.mv) rfl ?_
      first | refine K.d_skip rfl rfl rfl rfl ?_ | refine K.d_skipU rfl rfl rfl rfl rfl ?_ | refine K.d_puG rfl rfl rfl (fun _ _ => X.mv) rfl ?_
      first | refine K.d_skip rfl rfl rfl rfl ?_ | refine K.d_skipU rfl rfl rfl rfl rfl ?_ | refine K.d_puG rfl rfl rfl (fun _ _ => X.ia) rfl ?_
      refine K.d_stG rfl rfl rfl (K.p_load (Fx.agg rfl) rfl (Cels.get (Cels.up hcy) 0 (iV y) rfl)) rfl ?_
      refine K.d_stG rfl rfl rfl (K.p_load (Fx.agg rfl) rfl (Cels.get (Cels.up hcx) 0 (iV x) rfl)) rfl ?_
      first | refine K.d_skip rfl rfl rfl rfl ?_ | refine K.d_skipU rfl rfl rfl rfl rfl ?_ | refine K.d_puG rfl rfl rfl (fun _ _ => X.bgeq) rfl ?_
      first | refine K.d_skip rfl rfl rfl rfl ?_ | refine K.d_skipU rfl rfl rfl rfl rfl ?_ | refine K.d_puG rfl rfl rfl (fun _ _ => X.pk) rfl ?_
      refine K.d_pu rfl (fun _ _ => X.pk) rfl ?_
      refine K.d_nil ?_
      (repeat' (first | refine X.rq ?_ | (refine X.rc ?_ ?_ <;> intro hc <;> first | (exfalso; omega) | skip)))
      refine K.a_round hKL (j + 1) (by omega) (by repeat (first | exact K.Sub.nil _ | refine K.Sub.cons rfl ?_)) rfl rfl (by omega)
    · obtain rfl : j = 0 := by omega
      obtain ⟨bb, oo, rfl, hcx⟩ := hsl.at (rowI_at hx1)
      (repeat' (first | refine X.rq ?_ | (refine X.rc ?_ ?_ <;> intro hc <;> first | (exfalso; omega) | skip)))
      refine X.draw ([blk B2 26 (cE op' val' tb' nm' col' (.slice ao' n' ca'))]) [] (.pu 1 (.pu 2 (.pu 3 (.st 0 (.st 4 (.on 5 (.pu 6 (.pu 7 (.pu 8 (.pu 9 (.pu 10 (.pu 11 (.pu 12 (.pu 13 (.pu 14 (.pu 16 (.pu 17 (.pu 18 (.st 15 (.st 19 (.pu 20 (.pu 21 (.pu 22 .nil))))))))))))))))))))))) ?_
      refine K.d_pu rfl (fun _ _ => X.mv) rfl ?_
      refine K.d_pu rfl (fun _ _ => X.mv) rfl ?_
      refine K.d_pu rfl (fun _ _ => X.ia) rfl ?_
      refine K.d_st rfl (K.p_loadW 0 rfl rfl (Fx.agg rfl) (Fx.sz rfl)) rfl ?_
      refine K.d_st rfl (K.p_load (Fx.agg rfl) rfl (Cels.get (Cels.up hcx) 0 (iV x) rfl)) rfl ?_
      refine K.d_on rfl (fun KK hKK => ?_)
      refine K.l_callV (Fx.cal rfl) rfl ha (K.pp [] rfl) rfl rfl ?_
      simp only [List.nil_append]
      refine K.l_nil ?_
      refine X.onE hKK ?_
      refine K.d_pu rfl (fun _ _ => X.nt) rfl ?_
      refine K.d_pu rfl (fun _ _ => X.mv) rfl ?_
      first | refine K.d_skip rfl rfl rfl rfl ?_ | refine K.d_skipU rfl rfl rfl rfl rfl ?_ | refine K.d_puG rfl rfl rfl (fun _ _ => X.mv) rfl ?_
      first | refine K.d_skip rfl rfl rfl rfl ?_ | refine K.d_skipU rfl rfl rfl rfl rfl ?_ | refine K.d_puG rfl rfl rfl (fun _ _ => X.bgtr) rfl ?_
      first | refine K.d_skip rfl rfl rfl rfl ?_ | refine K.d_skipU rfl rfl rfl rfl rfl ?_ | refine K.d_puG rfl rfl rfl (fun _ _ => X.mv) rfl ?_
      first | refine K.d_skip rfl rfl rfl rfl ?_ | refine K.d_skipU rfl rfl rfl rfl rfl ?_ | refine K.d_puG rfl rfl rfl (fun _ _ => X.mv) rfl ?_
      first | refine K.d_skip rfl rfl rfl rfl ?_ | refine K.d_skipU rfl rfl rfl rfl rfl ?_ | refine K.d_puG rfl rfl rfl (fun _ _ => X.mv) rfl ?_
      first | refine K.d_skip rfl rfl rfl rfl ?_ | refine K.d_skipU rfl rfl rfl rfl rfl ?_ | refine K.d_puG rfl rfl rfl (fun _ _ => X.bsub) rfl ?_
      first | refine K.d_skip rfl rfl rfl rfl ?_ | refine K.d_skipU rfl rfl rfl rfl rfl ?_ | refine K.d_puG rfl rfl rfl (fun _ _ => X.ia) rfl ?_
      first | refine K.d_skip rfl rfl rfl rfl ?_ | refine K.d_skipU rfl rfl rfl rfl rfl ?_ | refine K.d_puG rfl rfl rfl (fun _ _ => X.mv) rfl ?_
      first | refine K.d_skip rfl rfl rfl rfl ?_ | refine K.d_skipU rfl rfl rfl rfl rfl ?_ | refine K.d_puG rfl rfl rfl (fun _ _ => X.mv) rfl ?_
      first | refine K.d_skip rfl rfl rfl rfl ?_ | refine K.d_skipU rfl rfl rfl rfl rfl ?_ | refine K.d_puG rfl rfl rfl (fun _ _ => X.ia) rfl ?_
      first | refine K.d_skipS rfl rfl rfl rfl ?_ | refine K.d_skipUS rfl rfl rfl rfl rfl ?_ | refine K.d_stG rfl rfl rfl X.ld rfl ?_
      first | refine K.d_skipS rfl rfl rfl rfl ?_ | refine K.d_skipUS rfl rfl rfl rfl rfl ?_ | refine K.d_stG rfl rfl rfl X.ld rfl ?_
      first | refine K.d_skip rfl rfl rfl rfl ?_ | refine K.d_skipU rfl rfl rfl rfl rfl ?_ | refine K.d_puG rfl rfl rfl (fun _ _ => X.bgeq) rfl ?_
      first | refine K.d_skip rfl rfl rfl rfl ?_ | refine K.d_skipU rfl rfl rfl rfl rfl ?_ | refine K.d_puG rfl rfl rfl (fun _ _ => X.pk) rfl ?_
      refine K.d_pu rfl (fun _ _ => X.pk) rfl ?_
      refine K.d_nil ?_
      (repeat' (first | refine X.rq ?_ | (refine X.rc ?_ ?_ <;> intro hc <;> first | (exfalso; omega) | skip)))
      refine K.a_round hKL 1 (by omega) (by repeat (first | exact K.Sub.nil _ | refine K.Sub.cons rfl ?_)) rfl rfl (by omega)
  · obtain rfl : j = p.length := by omega
    (repeat' (first | refine X.rq ?_ | (refine X.rc ?_ ?_ <;> intro hc <;> first | (exfalso; omega) | skip)))
    refine K.c_loop (σ := Nat × Bool) (fun q => [(1, .int .i64 more), (2, .pointer (some ⟨B2, 0, none⟩)), (5, .slice ao p.length ca), (7, .bool q.2), (8, .int .i64 q.1)]) (fun _ => h1) (fun _ => blk B2 26 (cE op' val' tb' nm' col' (.slice ao' n' ca')) :: F)
      (fun q => q.1 ≤ p.length ∧ q.2 = decide (more ∈ p.take q.1)) (fun q => p.length - q.1) (0, false) ⟨Nat.zero_le _, rfl⟩ (by repeat (first | exact K.Sub.nil _ | refine K.Sub.cons rfl ?_)) rfl rfl ?_
    rintro ⟨j, th⟩ ⟨hj, hth⟩ KM hKM
    dsimp only at hj hth ⊢
    by_cases hjl : j < p.length
    · have hx1 : p[j]? = some p[j] := List.getElem?_eq_getElem hjl
      have hta : p.take (j + 1) = p.take j ++ [p[j]] := List.take_succ_eq_append_getElem hjl
      generalize p[j] = x at hx1 hta
      obtain ⟨bb, oo, rfl, hcx⟩ := hsl.at (rowI_at hx1)
      have hcx := Cels.up (K := blk B2 26 (cE op' val' tb' nm' col' (.slice ao' n' ca')) :: F) hcx
      have hstep : ∀ th' : Bool, (th' = true ↔ (th = true ∨ x = more)) → th' = decide (more ∈ p.take (j + 1)) := fun th' g => by
        rw [Bool.eq_iff_iff, g, hth, hta, decide_eq_true_iff, decide_eq_true_iff, List.mem_append, List.mem_singleton]
        exact ⟨fun e => e.imp id fun e => e.symm, fun e => e.imp id fun e => e.symm⟩
      clear hth
      have hstep := fun (_ : Unit) => hstep
      cases th with
      | true =>
        (repeat' (first | refine X.rq ?_ | (refine X.rc ?_ ?_ <;> intro hc <;> first | (exfalso; omega) | skip)))
        refine K.a_round hKM (j + 1, true) ⟨by dsimp only; omega, hstep () true ⟨fun _ => .inl rfl, fun _ => rfl⟩⟩ (by repeat (first | exact K.Sub.nil _ | refine K.Sub.cons rfl ?_)) rfl rfl (by dsimp only; omega)
      | false =>
        (repeat' (first | refine X.rq ?_ | (refine X.rc ?_ ?_ <;> intro hc <;> first | (exfalso; omega) | skip)))
        refine K.s_pure (K.p_load (Fx.agg rfl) rfl (Cels.get hcx 0 (iV x) rfl)) rfl ?_
        (repeat' (first | refine X.rq ?_ | (refine X.rc ?_ ?_ <;> intro hc <;> first | (exfalso; omega) | skip)))
        refine K.a_round hKM (j + 1, decide (x = more)) ⟨by dsimp only; omega, hstep () _ ⟨fun e => .inr (of_decide_eq_true e), fun e => e.elim (fun e => by cases e) fun e => decide_eq_true e⟩⟩ (by repeat (first | exact K.Sub.nil _ | refine K.Sub.cons rfl ?_)) rfl rfl (by dsimp only; omega)
    · obtain rfl : j = p.length := by omega
      rw [List.take_length] at hth
      have ha := hask more
      rw [show decide (more ∈ colsQ e) = th by rw [hth, Bool.eq_iff_iff, decide_eq_true_iff, decide_eq_true_iff]; exact (hmem more).symm] at ha
      clear hth hask hmem
      cases th
      all_goals
        (repeat' (first | refine X.rq ?_ | (refine X.rc ?_ ?_ <;> intro hc <;> first | (exfalso; omega) | skip)))
        refine K.l_callV (Fx.cal rfl) rfl ha (K.pp [] rfl) rfl rfl ?_
        simp only [List.nil_append]
        (repeat' (first | refine X.rq ?_ | (refine X.rc ?_ ?_ <;> intro hc <;> first | (exfalso; omega) | skip)))
        refine K.l_callV (Fx.cal rfl) rfl hal (K.pp [] rfl) rfl rfl ?_
        simp only [List.nil_append]
        (repeat' (first | refine X.rq ?_ | (refine X.rc ?_ ?_ <;> intro hc <;> first | (exfalso; omega) | skip)))
        refine K.l_call (Fx.cal rfl) rfl haw (K.pp [] rfl) rfl ?_
        rintro u h2 H' le2 ⟨rfl, rfl⟩
        simp only [List.nil_append]
        have le3 := le1.trans le2
        (repeat' (first | refine X.rq ?_ | (refine X.rc ?_ ?_ <;> intro hc <;> first | (exfalso; omega) | skip)))
        refine K.AT.drop ?_
        refine K.done (by first | exact Or.inl rfl | exact Or.inr rfl) rfl (by first | exact K.Base.le.refl _ | assumption) (H' := []) rfl ⟨rfl, rfl⟩
end Go.Proofs.Ytmkhejdamjibgaa.Rw
