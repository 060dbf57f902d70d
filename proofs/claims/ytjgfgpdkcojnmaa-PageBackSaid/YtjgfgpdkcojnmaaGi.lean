/-
  A page is read of its bytes as it was: the statement, walked. Conditions: each theorem's own.
-/
import Derived.Test.YtjgfgpdkcojnmaaGh

namespace Go.Proofs.Ytjgfgpdkcojnmaa.Pg
open Go Go.K Go.Proofs Go.Proofs.Ytjgfgpdkcojnmaa Go.Proofs.Ytjgfgpdkcojnmaa.Cc Go.Proofs.Ytjgfgpdkcojnmaa.Rb
set_option linter.unusedVariables false
set_option linter.unusedSimpArgs false
set_option maxRecDepth 10000

theorem AT.dropsA {P : Program} {n : Nat} {Q : Exit → Act → World → Prop} {q : Exit} {E : Env} {h : Base} {A F : List Asrt} (hx : AT P n Q q E h F) : AT P n Q q E h (A ++ F) := ⟨fun a w fa ok => hx.run a w fa ok.drops⟩
set_option maxHeartbeats 8000000 in
theorem PageBack (h : Base) (cs : List Value) (p : Pag) (ds : List Value) (q : Pag) (v : Value) (b : List UInt8) (hx : PagC h cs p) (hy : PagC h ds q) (hb : BV h v b) (hl : b.length ≤ 140737488351232) :
    Tr Try.prog 11 [.agg cs.toArray, .agg ds.toArray, v] h [] (fun u h' H' => u = .bool true ∧ H' = []) := by
  have hx0 := hx
  have hy0 := hy
  obtain ⟨hw, cv, rfl, es, hv, hel, hr⟩ := hx
  have hkl := killers hel hr
  obtain ⟨ao, ca, rfl⟩ := hv.len
  obtain ⟨hw2, cv2, rfl, es2, hv2, hel2, hr2⟩ := hy
  have hkl2 := killers hel2 hr2
  obtain ⟨ao2, ca2, rfl⟩ := hv2.len
  obtain ⟨aob, cab, rfl⟩ := hb.len
  clear hv hr hv2 hr2
  rw [hel] at hx0 ⊢
  rw [hel2] at hy0 ⊢
  refine K.enter Try.func11 rfl (Nat.le_of_ble_eq_true rfl) (fun F => ?_)
  simp only [List.nil_append]
  (repeat' (first | (apply K.s_pure; (first | (apply Y.mv; exact X.mv) | (apply Y.sg; exact X.sg) | (apply Y.pk; exact X.pk) | (apply Y.cv; exact X.cv) | (apply Y.ex; exact X.ex) | (apply Y.ld; exact X.ld) | (apply Y.len; exact X.len) | (apply Y.nt; exact X.nt) | (apply Y.beql; exact X.beql) | (apply Y.bneq; exact X.bneq)); exact rfl) | refine X.l ?_ | refine X.w ?_ | refine X.a ?_ | (refine K.c_condD rfl (fun hc => ?_) (fun hc => ?_) <;> first | (exfalso; omega) | skip) | refine K.c_cond rfl (fun hc => ?_) (fun hc => ?_) | (refine K.s_guardD rfl rfl (fun hc => ?_) (fun hc => ?_) <;> first | (exfalso; omega) | skip) | refine K.s_guard rfl rfl (fun hc => ?_) (fun hc => ?_)))
  refine K.l_box rfl rfl rfl (fun B3 => ?_)
  refine K.l_box rfl rfl rfl (fun B4 => ?_)
  (repeat' (first | (apply K.s_pure; (first | (apply Y.mv; exact X.mv) | (apply Y.sg; exact X.sg) | (apply Y.pk; exact X.pk) | (apply Y.cv; exact X.cv) | (apply Y.ex; exact X.ex) | (apply Y.ld; exact X.ld) | (apply Y.len; exact X.len) | (apply Y.nt; exact X.nt) | (apply Y.beql; exact X.beql) | (apply Y.bneq; exact X.bneq)); exact rfl) | refine X.l ?_ | refine X.w ?_ | refine X.a ?_ | (refine K.c_condD rfl (fun hc => ?_) (fun hc => ?_) <;> first | (exfalso; omega) | skip) | refine K.c_cond rfl (fun hc => ?_) (fun hc => ?_) | (refine K.s_guardD rfl rfl (fun hc => ?_) (fun hc => ?_) <;> first | (exfalso; omega) | skip) | refine K.s_guard rfl rfl (fun hc => ?_) (fun hc => ?_)))
  refine K.l_callV (Fx.cal rfl) rfl (Long h _ p hx0) (K.pp [] rfl) rfl rfl ?_
  simp only [List.nil_append]
  cases hlo : longQ p.cells with
  | true =>
    (repeat' (first | (apply K.s_pure; (first | (apply Y.mv; exact X.mv) | (apply Y.sg; exact X.sg) | (apply Y.pk; exact X.pk) | (apply Y.cv; exact X.cv) | (apply Y.ex; exact X.ex) | (apply Y.ld; exact X.ld) | (apply Y.len; exact X.len) | (apply Y.nt; exact X.nt) | (apply Y.beql; exact X.beql) | (apply Y.bneq; exact X.bneq)); exact rfl) | refine X.l ?_ | refine X.w ?_ | refine X.a ?_ | (refine K.c_condD rfl (fun hc => ?_) (fun hc => ?_) <;> first | (exfalso; omega) | skip) | refine K.c_cond rfl (fun hc => ?_) (fun hc => ?_) | (refine K.s_guardD rfl rfl (fun hc => ?_) (fun hc => ?_) <;> first | (exfalso; omega) | skip) | refine K.s_guard rfl rfl (fun hc => ?_) (fun hc => ?_)))
    refine K.l_callV (Fx.cal rfl) rfl (Alive h) (K.pp [] rfl) rfl rfl ?_
    simp only [List.nil_append]
    (repeat' (first | (apply K.s_pure; (first | (apply Y.mv; exact X.mv) | (apply Y.sg; exact X.sg) | (apply Y.pk; exact X.pk) | (apply Y.cv; exact X.cv) | (apply Y.ex; exact X.ex) | (apply Y.ld; exact X.ld) | (apply Y.len; exact X.len) | (apply Y.nt; exact X.nt) | (apply Y.beql; exact X.beql) | (apply Y.bneq; exact X.bneq)); exact rfl) | refine X.l ?_ | refine X.w ?_ | refine X.a ?_ | (refine K.c_condD rfl (fun hc => ?_) (fun hc => ?_) <;> first | (exfalso; omega) | skip) | refine K.c_cond rfl (fun hc => ?_) (fun hc => ?_) | (refine K.s_guardD rfl rfl (fun hc => ?_) (fun hc => ?_) <;> first | (exfalso; omega) | skip) | refine K.s_guard rfl rfl (fun hc => ?_) (fun hc => ?_)))
    refine K.AT.sel [0, 0] rfl ?_
    refine K.done (by first | exact Or.inl rfl | exact Or.inr rfl) rfl (by first | exact K.Base.le.refl _ | assumption) (H' := []) rfl ⟨rfl, rfl⟩
  | false =>
    (repeat' (first | (apply K.s_pure; (first | (apply Y.mv; exact X.mv) | (apply Y.sg; exact X.sg) | (apply Y.pk; exact X.pk) | (apply Y.cv; exact X.cv) | (apply Y.ex; exact X.ex) | (apply Y.ld; exact X.ld) | (apply Y.len; exact X.len) | (apply Y.nt; exact X.nt) | (apply Y.beql; exact X.beql) | (apply Y.bneq; exact X.bneq)); exact rfl) | refine X.l ?_ | refine X.w ?_ | refine X.a ?_ | (refine K.c_condD rfl (fun hc => ?_) (fun hc => ?_) <;> first | (exfalso; omega) | skip) | refine K.c_cond rfl (fun hc => ?_) (fun hc => ?_) | (refine K.s_guardD rfl rfl (fun hc => ?_) (fun hc => ?_) <;> first | (exfalso; omega) | skip) | refine K.s_guard rfl rfl (fun hc => ?_) (fun hc => ?_)))
    refine K.l_callV (Fx.cal rfl) rfl (Long h _ q hy0) (K.pp [] rfl) rfl rfl ?_
    simp only [List.nil_append]
    cases hlo2 : longQ q.cells with
    | true =>
      (repeat' (first | (apply K.s_pure; (first | (apply Y.mv; exact X.mv) | (apply Y.sg; exact X.sg) | (apply Y.pk; exact X.pk) | (apply Y.cv; exact X.cv) | (apply Y.ex; exact X.ex) | (apply Y.ld; exact X.ld) | (apply Y.len; exact X.len) | (apply Y.nt; exact X.nt) | (apply Y.beql; exact X.beql) | (apply Y.bneq; exact X.bneq)); exact rfl) | refine X.l ?_ | refine X.w ?_ | refine X.a ?_ | (refine K.c_condD rfl (fun hc => ?_) (fun hc => ?_) <;> first | (exfalso; omega) | skip) | refine K.c_cond rfl (fun hc => ?_) (fun hc => ?_) | (refine K.s_guardD rfl rfl (fun hc => ?_) (fun hc => ?_) <;> first | (exfalso; omega) | skip) | refine K.s_guard rfl rfl (fun hc => ?_) (fun hc => ?_)))
      refine K.l_callV (Fx.cal rfl) rfl (Alive h) (K.pp [] rfl) rfl rfl ?_
      simp only [List.nil_append]
      (repeat' (first | (apply K.s_pure; (first | (apply Y.mv; exact X.mv) | (apply Y.sg; exact X.sg) | (apply Y.pk; exact X.pk) | (apply Y.cv; exact X.cv) | (apply Y.ex; exact X.ex) | (apply Y.ld; exact X.ld) | (apply Y.len; exact X.len) | (apply Y.nt; exact X.nt) | (apply Y.beql; exact X.beql) | (apply Y.bneq; exact X.bneq)); exact rfl) | refine X.l ?_ | refine X.w ?_ | refine X.a ?_ | (refine K.c_condD rfl (fun hc => ?_) (fun hc => ?_) <;> first | (exfalso; omega) | skip) | refine K.c_cond rfl (fun hc => ?_) (fun hc => ?_) | (refine K.s_guardD rfl rfl (fun hc => ?_) (fun hc => ?_) <;> first | (exfalso; omega) | skip) | refine K.s_guard rfl rfl (fun hc => ?_) (fun hc => ?_)))
      refine K.AT.sel [0, 0] rfl ?_
      refine K.done (by first | exact Or.inl rfl | exact Or.inr rfl) rfl (by first | exact K.Base.le.refl _ | assumption) (H' := []) rfl ⟨rfl, rfl⟩
    | false =>
      (repeat' (first | (apply K.s_pure; (first | (apply Y.mv; exact X.mv) | (apply Y.sg; exact X.sg) | (apply Y.pk; exact X.pk) | (apply Y.cv; exact X.cv) | (apply Y.ex; exact X.ex) | (apply Y.ld; exact X.ld) | (apply Y.len; exact X.len) | (apply Y.nt; exact X.nt) | (apply Y.beql; exact X.beql) | (apply Y.bneq; exact X.bneq)); exact rfl) | refine X.l ?_ | refine X.w ?_ | refine X.a ?_ | (refine K.c_condD rfl (fun hc => ?_) (fun hc => ?_) <;> first | (exfalso; omega) | skip) | refine K.c_cond rfl (fun hc => ?_) (fun hc => ?_) | (refine K.s_guardD rfl rfl (fun hc => ?_) (fun hc => ?_) <;> first | (exfalso; omega) | skip) | refine K.s_guard rfl rfl (fun hc => ?_) (fun hc => ?_)))
      refine K.l_call (Fx.cal rfl) rfl (Encode h _ p hx0) (K.pp [] rfl) rfl ?_
      rintro u h' H' - ⟨e', a1, cap1, rfl, rfl⟩
      obtain rfl := e'.symm
      simp only [List.cons_append, List.nil_append]
      refine K.WL.freezeBuf (fun h1 le1 hb1 => ?_)
      obtain ⟨ao7, ca7, e7⟩ : ∃ ao ca, bufV a1 (encQ p).1.length cap1 = .slice ao (encQ p).1.length ca := ⟨_, _, rfl⟩
      rw [e7] at hb1 ⊢
      (repeat' (first | (apply K.s_pure; (first | (apply Y.mv; exact X.mv) | (apply Y.sg; exact X.sg) | (apply Y.pk; exact X.pk) | (apply Y.cv; exact X.cv) | (apply Y.ex; exact X.ex) | (apply Y.ld; exact X.ld) | (apply Y.len; exact X.len) | (apply Y.nt; exact X.nt) | (apply Y.beql; exact X.beql) | (apply Y.bneq; exact X.bneq)); exact rfl) | refine X.l ?_ | refine X.w ?_ | refine X.a ?_ | (refine K.c_condD rfl (fun hc => ?_) (fun hc => ?_) <;> first | (exfalso; omega) | skip) | refine K.c_cond rfl (fun hc => ?_) (fun hc => ?_) | (refine K.s_guardD rfl rfl (fun hc => ?_) (fun hc => ?_) <;> first | (exfalso; omega) | skip) | refine K.s_guard rfl rfl (fun hc => ?_) (fun hc => ?_)))
      refine K.l_call (Fx.cal rfl) rfl (Encode h1 _ q (hy0.le le1)) (K.pp [] rfl) rfl ?_
      rintro u h' H' - ⟨e', a2, cap2, rfl, rfl⟩
      obtain rfl := e'.symm
      simp only [List.cons_append, List.nil_append]
      refine K.WL.freezeBuf (fun h2 le2 hb2 => ?_)
      obtain ⟨ao9, ca9, e9⟩ : ∃ ao ca, bufV a2 (encQ q).1.length cap2 = .slice ao (encQ q).1.length ca := ⟨_, _, rfl⟩
      rw [e9] at hb2 ⊢
      have hb1 := hb1.le le2
      have hx2 := (hx0.le le1).le le2
      have hy2 := (hy0.le le1).le le2
      have hbb := (hb.le le1).le le2
      have hle2 := le1.trans le2
      clear e7 e9 e'
      refine K.s_pure X.mv rfl ?_
      refine K.s_pure X.ex rfl ?_
      refine K.s_pure X.ex rfl ?_
      refine K.s_pure X.sg rfl ?_
      refine K.s_pure X.sg rfl ?_
      refine X.l ?_
      refine X.a ?_
      refine X.w ?_
      have hpc : (mayQ p = true ∧ encQ p = (encB p, 0)) ∨ (mayQ p = false ∧ encQ p = ([], 5)) := by
        unfold encQ
        cases mayQ p
        · exact .inr ⟨rfl, rfl⟩
        · exact .inl ⟨rfl, rfl⟩
      have hqc : (mayQ q = true ∧ encQ q = (encB q, 0)) ∨ (mayQ q = false ∧ encQ q = ([], 5)) := by
        unfold encQ
        cases mayQ q
        · exact .inr ⟨rfl, rfl⟩
        · exact .inl ⟨rfl, rfl⟩
      refine K.c_join (β := Unit) (fun _ => [(2, .slice aob b.length cab), (3, .pointer (some ⟨B3, 0, none⟩)), (4, .pointer (some ⟨B4, 0, none⟩)), (6, .bool false), (7, .slice ao7 (encQ p).1.length ca7), (8, .int .i64 (encQ p).2)]) (fun _ => h2)
        (fun _ => blk B4 26 (cP q (.slice ao2 q.cells.length ca2)) :: blk B3 26 (cP p (.slice ao p.cells.length ca)) :: F) (fun _ => True) (fun KJ hJ => ?_) ?_
      · refine X.w ?_
        rcases hpc with ⟨hm, he⟩ | ⟨hm, he⟩
        · rw [he] at hJ hb1 ⊢
          dsimp only at hJ hb1 ⊢
          rcases hqc with ⟨hm2, he2⟩ | ⟨hm2, he2⟩
          · rw [he2] at hb2 ⊢
            dsimp only at hb2 ⊢
            have hsame := SameP h2 _ _ p q hx2 hy2
            rw [show decide (p = q) = decide (encB p = encB q) from decide_eq_decide.2 ⟨fun e => by rw [e], fun e => enc_inj hm hw hkl hm2 hw2 hkl2 e⟩] at hsame
            refine X.draw ([blk B4 26 (cP q (.slice ao2 q.cells.length ca2)), blk B3 26 (cP p (.slice ao p.cells.length ca))]) [] (.pu 0 (.pu 1 (.st 2 (.on 3 (.pu 4 (.pu 5 (.pu 6 (.pu 7 (.pu 8 (.pu 9 (.pu 10 (.pu 11 (.pu 12 (.pu 13 (.pu 15 (.st 14 (.st 16 (.pu 17 (.st 18 (.st 19 (.on 20 (.pu 21 (.pu 22 (.pu 23 .nil)))))))))))))))))))))))) ?_
            refine K.d_pu rfl (fun _ _ => X.mv) rfl ?_
            refine K.d_pu rfl (fun _ _ => X.beql) rfl ?_
            refine K.d_st rfl X.ld rfl ?_
            refine K.d_on rfl (fun KK hKK => ?_)
            refine K.l_callV (Fx.cal rfl) rfl (PMay h2 _ p hx2) (K.pp [] rfl) rfl rfl ?_
            simp only [List.nil_append]
            rw [hm]
            refine K.l_nil ?_
            refine X.onE hKK ?_
            refine K.d_pu rfl (fun _ _ => X.bneq) rfl ?_
            refine K.d_pu rfl (fun _ _ => X.mv) rfl ?_
            first | refine K.d_skip rfl rfl rfl rfl ?_ | refine K.d_skipU rfl rfl rfl rfl rfl ?_ | refine K.d_puG rfl rfl rfl (fun _ _ => X.mv) rfl ?_
            first | refine K.d_skip rfl rfl rfl rfl ?_ | refine K.d_skipU rfl rfl rfl rfl rfl ?_ | refine K.d_puG rfl rfl rfl (fun _ _ => X.beql) rfl ?_
            first | refine K.d_skip rfl rfl rfl rfl ?_ | refine K.d_skipU rfl rfl rfl rfl rfl ?_ | refine K.d_puG rfl rfl rfl (fun _ _ => X.mv) rfl ?_
            first | refine K.d_skip rfl rfl rfl rfl ?_ | refine K.d_skipU rfl rfl rfl rfl rfl ?_ | refine K.d_puG rfl rfl rfl (fun _ _ => X.mv) rfl ?_
            first | refine K.d_skip rfl rfl rfl rfl ?_ | refine K.d_skipU rfl rfl rfl rfl rfl ?_ | refine K.d_puG rfl rfl rfl (fun _ _ => X.beql) rfl ?_
            first | refine K.d_skip rfl rfl rfl rfl ?_ | refine K.d_skipU rfl rfl rfl rfl rfl ?_ | refine K.d_puG rfl rfl rfl (fun _ _ => X.pk) rfl ?_
            first | refine K.d_skip rfl rfl rfl rfl ?_ | refine K.d_skipU rfl rfl rfl rfl rfl ?_ | refine K.d_puG rfl rfl rfl (fun _ _ => X.mv) rfl ?_
            first | refine K.d_skip rfl rfl rfl rfl ?_ | refine K.d_skipU rfl rfl rfl rfl rfl ?_ | refine K.d_puG rfl rfl rfl (fun _ _ => X.mv) rfl ?_
            first | refine K.d_skip rfl rfl rfl rfl ?_ | refine K.d_skipU rfl rfl rfl rfl rfl ?_ | refine K.d_puG rfl rfl rfl (fun _ _ => X.mv) rfl ?_
            refine K.d_stG rfl rfl rfl (K.p_textB hb1 (Fx.und rfl) (Fx.und rfl) (Fx.und rfl) rfl) rfl ?_
            refine K.d_stG rfl rfl rfl (K.p_textB hb2 (Fx.und rfl) (Fx.und rfl) (Fx.und rfl) rfl) rfl ?_
            first | refine K.d_skip rfl rfl rfl rfl ?_ | refine K.d_skipU rfl rfl rfl rfl rfl ?_ | refine K.d_puG rfl rfl rfl (fun _ _ => X.beql) rfl ?_
            rw [text_eq]
            first | refine K.d_skipS rfl rfl rfl rfl ?_ | refine K.d_skipUS rfl rfl rfl rfl rfl ?_ | refine K.d_stG rfl rfl rfl X.ld rfl ?_
            first | refine K.d_skipS rfl rfl rfl rfl ?_ | refine K.d_skipUS rfl rfl rfl rfl rfl ?_ | refine K.d_stG rfl rfl rfl X.ld rfl ?_
            refine K.d_on rfl (fun KK hKK => ?_)
            refine K.s_take rfl rfl ?_
            refine K.l_callV (Fx.cal rfl) rfl hsame (K.pp [] rfl) rfl rfl ?_
            simp only [List.nil_append]
            refine K.l_nil ?_
            refine X.onE hKK ?_
            first | refine K.d_skip rfl rfl rfl rfl ?_ | refine K.d_skipU rfl rfl rfl rfl rfl ?_ | refine K.d_puG rfl rfl rfl (fun _ _ => X.bneq) rfl ?_
            rw [beq_self_eq_true]
            first | refine K.d_skip rfl rfl rfl rfl ?_ | refine K.d_skipU rfl rfl rfl rfl rfl ?_ | refine K.d_puG rfl rfl rfl (fun _ _ => X.pk) rfl ?_
            refine K.d_pu rfl (fun _ _ => X.pk) rfl ?_
            refine K.d_nil ?_
            (repeat' (first | (apply K.s_pure; (first | (apply Y.mv; exact X.mv) | (apply Y.sg; exact X.sg) | (apply Y.pk; exact X.pk) | (apply Y.cv; exact X.cv) | (apply Y.ex; exact X.ex) | (apply Y.ld; exact X.ld) | (apply Y.len; exact X.len) | (apply Y.nt; exact X.nt) | (apply Y.beql; exact X.beql) | (apply Y.bneq; exact X.bneq)); exact rfl) | refine X.l ?_ | refine X.w ?_ | refine X.a ?_ | (refine K.c_condD rfl (fun hc => ?_) (fun hc => ?_) <;> first | (exfalso; omega) | skip) | refine K.c_cond rfl (fun hc => ?_) (fun hc => ?_) | (refine K.s_guardD rfl rfl (fun hc => ?_) (fun hc => ?_) <;> first | (exfalso; omega) | skip) | refine K.s_guard rfl rfl (fun hc => ?_) (fun hc => ?_)))
            refine K.a_join hJ () trivial (by repeat (first | exact K.Sub.nil _ | refine K.Sub.cons rfl ?_)) rfl rfl
          · rw [he2] at hb2 ⊢
            dsimp only at hb2 ⊢
            refine X.draw ([blk B4 26 (cP q (.slice ao2 q.cells.length ca2)), blk B3 26 (cP p (.slice ao p.cells.length ca))]) [] (.pu 0 (.pu 1 (.st 2 (.on 3 (.pu 4 (.pu 5 (.pu 6 (.pu 7 (.pu 8 (.pu 9 (.pu 10 (.pu 11 (.pu 12 (.pu 13 (.pu 14 (.pu 15 (.pu 16 (.pu 17 (.st 18 (.st 19 (.on 20 (.pu 21 (.pu 22 (.pu 23 .nil)))))))))))))))))))))))) ?_
            refine K.d_pu rfl (fun _ _ => X.mv) rfl ?_
            refine K.d_pu rfl (fun _ _ => X.beql) rfl ?_
            refine K.d_st rfl X.ld rfl ?_
            refine K.d_on rfl (fun KK hKK => ?_)
            refine K.l_callV (Fx.cal rfl) rfl (PMay h2 _ p hx2) (K.pp [] rfl) rfl rfl ?_
            simp only [List.nil_append]
            rw [hm]
            refine K.l_nil ?_
            refine X.onE hKK ?_
            refine K.d_pu rfl (fun _ _ => X.bneq) rfl ?_
            refine K.d_pu rfl (fun _ _ => X.mv) rfl ?_
            first | refine K.d_skip rfl rfl rfl rfl ?_ | refine K.d_skipU rfl rfl rfl rfl rfl ?_ | refine K.d_puG rfl rfl rfl (fun _ _ => X.mv) rfl ?_
            first | refine K.d_skip rfl rfl rfl rfl ?_ | refine K.d_skipU rfl rfl rfl rfl rfl ?_ | refine K.d_puG rfl rfl rfl (fun _ _ => X.beql) rfl ?_
            first | refine K.d_skip rfl rfl rfl rfl ?_ | refine K.d_skipU rfl rfl rfl rfl rfl ?_ | refine K.d_puG rfl rfl rfl (fun _ _ => X.mv) rfl ?_
            first | refine K.d_skip rfl rfl rfl rfl ?_ | refine K.d_skipU rfl rfl rfl rfl rfl ?_ | refine K.d_puG rfl rfl rfl (fun _ _ => X.mv) rfl ?_
            first | refine K.d_skip rfl rfl rfl rfl ?_ | refine K.d_skipU rfl rfl rfl rfl rfl ?_ | refine K.d_puG rfl rfl rfl (fun _ _ => X.beql) rfl ?_
            first | refine K.d_skip rfl rfl rfl rfl ?_ | refine K.d_skipU rfl rfl rfl rfl rfl ?_ | refine K.d_puG rfl rfl rfl (fun _ _ => X.pk) rfl ?_
            first | refine K.d_skip rfl rfl rfl rfl ?_ | refine K.d_skipU rfl rfl rfl rfl rfl ?_ | refine K.d_puG rfl rfl rfl (fun _ _ => X.mv) rfl ?_
            first | refine K.d_skip rfl rfl rfl rfl ?_ | refine K.d_skipU rfl rfl rfl rfl rfl ?_ | refine K.d_puG rfl rfl rfl (fun _ _ => X.mv) rfl ?_
            first | refine K.d_skip rfl rfl rfl rfl ?_ | refine K.d_skipU rfl rfl rfl rfl rfl ?_ | refine K.d_puG rfl rfl rfl (fun _ _ => X.cv) rfl ?_
            first | refine K.d_skip rfl rfl rfl rfl ?_ | refine K.d_skipU rfl rfl rfl rfl rfl ?_ | refine K.d_puG rfl rfl rfl (fun _ _ => X.mv) rfl ?_
            first | refine K.d_skip rfl rfl rfl rfl ?_ | refine K.d_skipU rfl rfl rfl rfl rfl ?_ | refine K.d_puG rfl rfl rfl (fun _ _ => X.cv) rfl ?_
            first | refine K.d_skip rfl rfl rfl rfl ?_ | refine K.d_skipU rfl rfl rfl rfl rfl ?_ | refine K.d_puG rfl rfl rfl (fun _ _ => X.beql) rfl ?_
            first | refine K.d_skipS rfl rfl rfl rfl ?_ | refine K.d_skipUS rfl rfl rfl rfl rfl ?_ | refine K.d_stG rfl rfl rfl X.ld rfl ?_
            first | refine K.d_skipS rfl rfl rfl rfl ?_ | refine K.d_skipUS rfl rfl rfl rfl rfl ?_ | refine K.d_stG rfl rfl rfl X.ld rfl ?_
            refine K.d_on rfl (fun KK hKK => ?_)
            first | refine K.s_skip rfl rfl rfl ?_ | refine K.s_skipU rfl rfl rfl rfl ?_
            refine K.l_nil ?_
            refine X.onE hKK ?_
            first | refine K.d_skip rfl rfl rfl rfl ?_ | refine K.d_skipU rfl rfl rfl rfl rfl ?_ | refine K.d_puG rfl rfl rfl (fun _ _ => X.bneq) rfl ?_
            first | refine K.d_skip rfl rfl rfl rfl ?_ | refine K.d_skipU rfl rfl rfl rfl rfl ?_ | refine K.d_puG rfl rfl rfl (fun _ _ => X.pk) rfl ?_
            refine K.d_pu rfl (fun _ _ => X.pk) rfl ?_
            refine K.d_nil ?_
            (repeat' (first | (apply K.s_pure; (first | (apply Y.mv; exact X.mv) | (apply Y.sg; exact X.sg) | (apply Y.pk; exact X.pk) | (apply Y.cv; exact X.cv) | (apply Y.ex; exact X.ex) | (apply Y.ld; exact X.ld) | (apply Y.len; exact X.len) | (apply Y.nt; exact X.nt) | (apply Y.beql; exact X.beql) | (apply Y.bneq; exact X.bneq)); exact rfl) | refine X.l ?_ | refine X.w ?_ | refine X.a ?_ | (refine K.c_condD rfl (fun hc => ?_) (fun hc => ?_) <;> first | (exfalso; omega) | skip) | refine K.c_cond rfl (fun hc => ?_) (fun hc => ?_) | (refine K.s_guardD rfl rfl (fun hc => ?_) (fun hc => ?_) <;> first | (exfalso; omega) | skip) | refine K.s_guard rfl rfl (fun hc => ?_) (fun hc => ?_)))
            refine K.a_join hJ () trivial (by repeat (first | exact K.Sub.nil _ | refine K.Sub.cons rfl ?_)) rfl rfl
        · rw [he] at hJ hb1 ⊢
          dsimp only at hJ hb1 ⊢
          refine X.draw ([blk B4 26 (cP q (.slice ao2 q.cells.length ca2)), blk B3 26 (cP p (.slice ao p.cells.length ca))]) [] (.pu 0 (.pu 1 (.st 2 (.on 3 (.pu 4 (.pu 5 (.pu 6 (.pu 7 (.pu 8 (.pu 9 (.pu 10 (.pu 11 (.pu 12 (.pu 13 (.pu 14 (.pu 15 (.pu 16 (.pu 17 (.st 18 (.st 19 (.on 20 (.pu 21 (.pu 22 (.pu 23 .nil)))))))))))))))))))))))) ?_
          refine K.d_pu rfl (fun _ _ => X.mv) rfl ?_
          refine K.d_pu rfl (fun _ _ => X.beql) rfl ?_
          refine K.d_st rfl X.ld rfl ?_
          refine K.d_on rfl (fun KK hKK => ?_)
          refine K.l_callV (Fx.cal rfl) rfl (PMay h2 _ p hx2) (K.pp [] rfl) rfl rfl ?_
          simp only [List.nil_append]
          rw [hm]
          refine K.l_nil ?_
          refine X.onE hKK ?_
          refine K.d_pu rfl (fun _ _ => X.bneq) rfl ?_
          refine K.d_pu rfl (fun _ _ => X.mv) rfl ?_
          first | refine K.d_skip rfl rfl rfl rfl ?_ | refine K.d_skipU rfl rfl rfl rfl rfl ?_ | refine K.d_puG rfl rfl rfl (fun _ _ => X.mv) rfl ?_
          first | refine K.d_skip rfl rfl rfl rfl ?_ | refine K.d_skipU rfl rfl rfl rfl rfl ?_ | refine K.d_puG rfl rfl rfl (fun _ _ => X.beql) rfl ?_
          first | refine K.d_skip rfl rfl rfl rfl ?_ | refine K.d_skipU rfl rfl rfl rfl rfl ?_ | refine K.d_puG rfl rfl rfl (fun _ _ => X.mv) rfl ?_
          first | refine K.d_skip rfl rfl rfl rfl ?_ | refine K.d_skipU rfl rfl rfl rfl rfl ?_ | refine K.d_puG rfl rfl rfl (fun _ _ => X.mv) rfl ?_
          first | refine K.d_skip rfl rfl rfl rfl ?_ | refine K.d_skipU rfl rfl rfl rfl rfl ?_ | refine K.d_puG rfl rfl rfl (fun _ _ => X.beql) rfl ?_
          first | refine K.d_skip rfl rfl rfl rfl ?_ | refine K.d_skipU rfl rfl rfl rfl rfl ?_ | refine K.d_puG rfl rfl rfl (fun _ _ => X.pk) rfl ?_
          first | refine K.d_skip rfl rfl rfl rfl ?_ | refine K.d_skipU rfl rfl rfl rfl rfl ?_ | refine K.d_puG rfl rfl rfl (fun _ _ => X.mv) rfl ?_
          first | refine K.d_skip rfl rfl rfl rfl ?_ | refine K.d_skipU rfl rfl rfl rfl rfl ?_ | refine K.d_puG rfl rfl rfl (fun _ _ => X.mv) rfl ?_
          first | refine K.d_skip rfl rfl rfl rfl ?_ | refine K.d_skipU rfl rfl rfl rfl rfl ?_ | refine K.d_puG rfl rfl rfl (fun _ _ => X.cv) rfl ?_
          first | refine K.d_skip rfl rfl rfl rfl ?_ | refine K.d_skipU rfl rfl rfl rfl rfl ?_ | refine K.d_puG rfl rfl rfl (fun _ _ => X.mv) rfl ?_
          first | refine K.d_skip rfl rfl rfl rfl ?_ | refine K.d_skipU rfl rfl rfl rfl rfl ?_ | refine K.d_puG rfl rfl rfl (fun _ _ => X.cv) rfl ?_
          first | refine K.d_skip rfl rfl rfl rfl ?_ | refine K.d_skipU rfl rfl rfl rfl rfl ?_ | refine K.d_puG rfl rfl rfl (fun _ _ => X.beql) rfl ?_
          first | refine K.d_skipS rfl rfl rfl rfl ?_ | refine K.d_skipUS rfl rfl rfl rfl rfl ?_ | refine K.d_stG rfl rfl rfl X.ld rfl ?_
          first | refine K.d_skipS rfl rfl rfl rfl ?_ | refine K.d_skipUS rfl rfl rfl rfl rfl ?_ | refine K.d_stG rfl rfl rfl X.ld rfl ?_
          refine K.d_on rfl (fun KK hKK => ?_)
          first | refine K.s_skip rfl rfl rfl ?_ | refine K.s_skipU rfl rfl rfl rfl ?_
          refine K.l_nil ?_
          refine X.onE hKK ?_
          first | refine K.d_skip rfl rfl rfl rfl ?_ | refine K.d_skipU rfl rfl rfl rfl rfl ?_ | refine K.d_puG rfl rfl rfl (fun _ _ => X.bneq) rfl ?_
          first | refine K.d_skip rfl rfl rfl rfl ?_ | refine K.d_skipU rfl rfl rfl rfl rfl ?_ | refine K.d_puG rfl rfl rfl (fun _ _ => X.pk) rfl ?_
          refine K.d_pu rfl (fun _ _ => X.pk) rfl ?_
          refine K.d_nil ?_
          (repeat' (first | (apply K.s_pure; (first | (apply Y.mv; exact X.mv) | (apply Y.sg; exact X.sg) | (apply Y.pk; exact X.pk) | (apply Y.cv; exact X.cv) | (apply Y.ex; exact X.ex) | (apply Y.ld; exact X.ld) | (apply Y.len; exact X.len) | (apply Y.nt; exact X.nt) | (apply Y.beql; exact X.beql) | (apply Y.bneq; exact X.bneq)); exact rfl) | refine X.l ?_ | refine X.w ?_ | refine X.a ?_ | (refine K.c_condD rfl (fun hc => ?_) (fun hc => ?_) <;> first | (exfalso; omega) | skip) | refine K.c_cond rfl (fun hc => ?_) (fun hc => ?_) | (refine K.s_guardD rfl rfl (fun hc => ?_) (fun hc => ?_) <;> first | (exfalso; omega) | skip) | refine K.s_guard rfl rfl (fun hc => ?_) (fun hc => ?_)))
          refine K.a_join hJ () trivial (by repeat (first | exact K.Sub.nil _ | refine K.Sub.cons rfl ?_)) rfl rfl
      · intro _ _
        refine X.a ?_
        refine X.w ?_
        refine K.c_join (β := Base × List Asrt) (fun _ => [(2, .slice aob b.length cab), (6, .bool false)]) (fun r => r.1)
          (fun r => r.2 ++ F) (fun r => h2.le r.1) (fun KJ hJ => ?_) ?_
        · rcases hpc with ⟨hm, he⟩ | ⟨hm, he⟩
          · rw [he] at hb1 ⊢
            dsimp only at hb1 ⊢
            have hlen := encB_len hm
            have hdec := enc_dec hm hw hkl
            (repeat' (first | (apply K.s_pure; (first | (apply Y.mv; exact X.mv) | (apply Y.sg; exact X.sg) | (apply Y.pk; exact X.pk) | (apply Y.cv; exact X.cv) | (apply Y.ex; exact X.ex) | (apply Y.ld; exact X.ld) | (apply Y.len; exact X.len) | (apply Y.nt; exact X.nt) | (apply Y.beql; exact X.beql) | (apply Y.bneq; exact X.bneq)); exact rfl) | refine X.l ?_ | refine X.w ?_ | refine X.a ?_ | (refine K.c_condD rfl (fun hc => ?_) (fun hc => ?_) <;> first | (exfalso; omega) | skip) | refine K.c_cond rfl (fun hc => ?_) (fun hc => ?_) | (refine K.s_guardD rfl rfl (fun hc => ?_) (fun hc => ?_) <;> first | (exfalso; omega) | skip) | refine K.s_guard rfl rfl (fun hc => ?_) (fun hc => ?_)))
            refine K.l_call (Fx.cal rfl) rfl (PDecode h2 _ _ hb1 (by omega)) (K.pp [] rfl) rfl ?_
            rw [hdec]
            rintro u h3 H' le3 ⟨c, cap, l, hcl, hk, h65, h255, rfl, rfl⟩
            dsimp only at hcl
            simp only [pgA, List.cons_append, List.nil_append]
            (repeat' (first | (apply K.s_pure; (first | (apply Y.mv; exact X.mv) | (apply Y.sg; exact X.sg) | (apply Y.pk; exact X.pk) | (apply Y.cv; exact X.cv) | (apply Y.ex; exact X.ex) | (apply Y.ld; exact X.ld) | (apply Y.len; exact X.len) | (apply Y.nt; exact X.nt) | (apply Y.beql; exact X.beql) | (apply Y.bneq; exact X.bneq)); exact rfl) | refine X.l ?_ | refine X.w ?_ | refine X.a ?_ | (refine K.c_condD rfl (fun hc => ?_) (fun hc => ?_) <;> first | (exfalso; omega) | skip) | refine K.c_cond rfl (fun hc => ?_) (fun hc => ?_) | (refine K.s_guardD rfl rfl (fun hc => ?_) (fun hc => ?_) <;> first | (exfalso; omega) | skip) | refine K.s_guard rfl rfl (fun hc => ?_) (fun hc => ?_)))
            refine K.l_alloc (Fx.zr rfl) rfl rfl (fun B11 => ?_)
            refine X.stw ?_
            simp only [List.set_cons_zero, List.set_cons_succ, List.eraseIdx_cons_zero, List.eraseIdx_cons_succ, List.cons_append, List.nil_append]
            have hsame := K.TrV.borrow (h := h3) (A := pgA c cap l) (R := []) fun h' hle hs => SameP h' (cP p (bufV c l.length cap)) _ p p (by have := says_page hs hk hw hcl; rw [hcl, List.length_map] at this; exact this) ((hx2.le le3).le hle)
            rw [decide_eq_true (rfl : p = p)] at hsame
            (repeat' (first | (apply K.s_pure; (first | (apply Y.mv; exact X.mv) | (apply Y.sg; exact X.sg) | (apply Y.pk; exact X.pk) | (apply Y.cv; exact X.cv) | (apply Y.ex; exact X.ex) | (apply Y.ld; exact X.ld) | (apply Y.len; exact X.len) | (apply Y.nt; exact X.nt) | (apply Y.beql; exact X.beql) | (apply Y.bneq; exact X.bneq)); exact rfl) | refine X.l ?_ | refine X.w ?_ | refine X.a ?_ | (refine K.c_condD rfl (fun hc => ?_) (fun hc => ?_) <;> first | (exfalso; omega) | skip) | refine K.c_cond rfl (fun hc => ?_) (fun hc => ?_) | (refine K.s_guardD rfl rfl (fun hc => ?_) (fun hc => ?_) <;> first | (exfalso; omega) | skip) | refine K.s_guard rfl rfl (fun hc => ?_) (fun hc => ?_)))
            refine K.l_callV (Fx.cal rfl) rfl hsame (K.pp [1, 1] rfl) rfl rfl ?_
            simp only [pgA, List.cons_append, List.nil_append]
            simp only [List.set_cons_zero, List.set_cons_succ, List.eraseIdx_cons_zero, List.eraseIdx_cons_succ, List.cons_append, List.nil_append]
            (repeat' (first | (apply K.s_pure; (first | (apply Y.mv; exact X.mv) | (apply Y.sg; exact X.sg) | (apply Y.pk; exact X.pk) | (apply Y.cv; exact X.cv) | (apply Y.ex; exact X.ex) | (apply Y.ld; exact X.ld) | (apply Y.len; exact X.len) | (apply Y.nt; exact X.nt) | (apply Y.beql; exact X.beql) | (apply Y.bneq; exact X.bneq)); exact rfl) | refine X.l ?_ | refine X.w ?_ | refine X.a ?_ | (refine K.c_condD rfl (fun hc => ?_) (fun hc => ?_) <;> first | (exfalso; omega) | skip) | refine K.c_cond rfl (fun hc => ?_) (fun hc => ?_) | (refine K.s_guardD rfl rfl (fun hc => ?_) (fun hc => ?_) <;> first | (exfalso; omega) | skip) | refine K.s_guard rfl rfl (fun hc => ?_) (fun hc => ?_)))
            refine K.a_join hJ (h3, [_, _, _, _, _]) le3 (by repeat (first | exact K.Sub.nil _ | refine K.Sub.cons rfl ?_)) rfl rfl
          · rw [he]
            dsimp only
            (repeat' (first | (apply K.s_pure; (first | (apply Y.mv; exact X.mv) | (apply Y.sg; exact X.sg) | (apply Y.pk; exact X.pk) | (apply Y.cv; exact X.cv) | (apply Y.ex; exact X.ex) | (apply Y.ld; exact X.ld) | (apply Y.len; exact X.len) | (apply Y.nt; exact X.nt) | (apply Y.beql; exact X.beql) | (apply Y.bneq; exact X.bneq)); exact rfl) | refine X.l ?_ | refine X.w ?_ | refine X.a ?_ | (refine K.c_condD rfl (fun hc => ?_) (fun hc => ?_) <;> first | (exfalso; omega) | skip) | refine K.c_cond rfl (fun hc => ?_) (fun hc => ?_) | (refine K.s_guardD rfl rfl (fun hc => ?_) (fun hc => ?_) <;> first | (exfalso; omega) | skip) | refine K.s_guard rfl rfl (fun hc => ?_) (fun hc => ?_)))
            refine K.a_join hJ (h2, [_, _]) (K.Base.le.refl _) (by repeat (first | exact K.Sub.nil _ | refine K.Sub.cons rfl ?_)) rfl rfl
        · rintro ⟨h3, H3⟩ le3
          dsimp only at le3 ⊢
          refine AT.dropsA ?_
          have hb3 := hbb.le le3
          (repeat' (first | (apply K.s_pure; (first | (apply Y.mv; exact X.mv) | (apply Y.sg; exact X.sg) | (apply Y.pk; exact X.pk) | (apply Y.cv; exact X.cv) | (apply Y.ex; exact X.ex) | (apply Y.ld; exact X.ld) | (apply Y.len; exact X.len) | (apply Y.nt; exact X.nt) | (apply Y.beql; exact X.beql) | (apply Y.bneq; exact X.bneq)); exact rfl) | refine X.l ?_ | refine X.w ?_ | refine X.a ?_ | (refine K.c_condD rfl (fun hc => ?_) (fun hc => ?_) <;> first | (exfalso; omega) | skip) | refine K.c_cond rfl (fun hc => ?_) (fun hc => ?_) | (refine K.s_guardD rfl rfl (fun hc => ?_) (fun hc => ?_) <;> first | (exfalso; omega) | skip) | refine K.s_guard rfl rfl (fun hc => ?_) (fun hc => ?_)))
          refine K.l_call (Fx.cal rfl) rfl (PDecode h3 _ b hb3 (by omega)) (K.pp [] rfl) rfl ?_
          rintro u h5 H' le5 ⟨c, cap, l, hcl, hk, h65, h255, rfl, rfl⟩
          refine K.WL.freezeA (fun h6 le6 hs6 => ?_)
          have hp6 := says_page hs6 hk (dec_wf b) hcl
          have hll : l.length = (decQ b).1.cells.length := by rw [hcl, List.length_map]
          rw [hll]
          obtain ⟨ao6, ca6, e6⟩ : ∃ ao ca, bufV c (decQ b).1.cells.length cap = .slice ao (decQ b).1.cells.length ca := ⟨_, _, rfl⟩
          rw [e6] at hp6 ⊢
          have hle6 := ((hle2.trans le3).trans le5).trans le6
          have hb6 := (hb3.le le5).le le6
          rcases dec_cases b with ⟨_, h0, hmr, hbr⟩ | ⟨_, h5e⟩
          · have henc : encQ (decQ b).1 = (b, 0) := by unfold encQ; rw [if_pos hmr, hbr]
            generalize decQ b = r at h0 hp6 henc ⊢
            obtain ⟨r, e⟩ := r
            dsimp only at h0 hp6 henc ⊢
            subst h0
            (repeat' (first | (apply K.s_pure; (first | (apply Y.mv; exact X.mv) | (apply Y.sg; exact X.sg) | (apply Y.pk; exact X.pk) | (apply Y.cv; exact X.cv) | (apply Y.ex; exact X.ex) | (apply Y.ld; exact X.ld) | (apply Y.len; exact X.len) | (apply Y.nt; exact X.nt) | (apply Y.beql; exact X.beql) | (apply Y.bneq; exact X.bneq)); exact rfl) | refine X.l ?_ | refine X.w ?_ | refine X.a ?_ | (refine K.c_condD rfl (fun hc => ?_) (fun hc => ?_) <;> first | (exfalso; omega) | skip) | refine K.c_cond rfl (fun hc => ?_) (fun hc => ?_) | (refine K.s_guardD rfl rfl (fun hc => ?_) (fun hc => ?_) <;> first | (exfalso; omega) | skip) | refine K.s_guard rfl rfl (fun hc => ?_) (fun hc => ?_)))
            refine K.l_alloc (Fx.zr rfl) rfl rfl (fun B13 => ?_)
            refine X.stw ?_
            simp only [List.set_cons_zero, List.set_cons_succ, List.eraseIdx_cons_zero, List.eraseIdx_cons_succ, List.cons_append, List.nil_append]
            (repeat' (first | (apply K.s_pure; (first | (apply Y.mv; exact X.mv) | (apply Y.sg; exact X.sg) | (apply Y.pk; exact X.pk) | (apply Y.cv; exact X.cv) | (apply Y.ex; exact X.ex) | (apply Y.ld; exact X.ld) | (apply Y.len; exact X.len) | (apply Y.nt; exact X.nt) | (apply Y.beql; exact X.beql) | (apply Y.bneq; exact X.bneq)); exact rfl) | refine X.l ?_ | refine X.w ?_ | refine X.a ?_ | (refine K.c_condD rfl (fun hc => ?_) (fun hc => ?_) <;> first | (exfalso; omega) | skip) | refine K.c_cond rfl (fun hc => ?_) (fun hc => ?_) | (refine K.s_guardD rfl rfl (fun hc => ?_) (fun hc => ?_) <;> first | (exfalso; omega) | skip) | refine K.s_guard rfl rfl (fun hc => ?_) (fun hc => ?_)))
            refine K.l_call (Fx.cal rfl) rfl (Encode h6 _ r hp6) (K.pp [] rfl) rfl ?_
            rw [henc]
            rintro u h' H' - ⟨e', a8, cap8, rfl, rfl⟩
            obtain rfl := e'.symm
            simp only [List.cons_append, List.nil_append]
            refine K.WL.freezeBuf (fun h7 le7 hb7 => ?_)
            have hle7 := hle6.trans le7
            (repeat' (first | (apply K.s_pure; (first | (apply Y.mv; exact X.mv) | (apply Y.sg; exact X.sg) | (apply Y.pk; exact X.pk) | (apply Y.cv; exact X.cv) | (apply Y.ex; exact X.ex) | (apply Y.ld; exact X.ld) | (apply Y.len; exact X.len) | (apply Y.nt; exact X.nt) | (apply Y.beql; exact X.beql) | (apply Y.bneq; exact X.bneq)); exact rfl) | refine X.l ?_ | refine X.w ?_ | refine X.a ?_ | (refine K.c_condD rfl (fun hc => ?_) (fun hc => ?_) <;> first | (exfalso; omega) | skip) | refine K.c_cond rfl (fun hc => ?_) (fun hc => ?_) | (refine K.s_guardD rfl rfl (fun hc => ?_) (fun hc => ?_) <;> first | (exfalso; omega) | skip) | refine K.s_guard rfl rfl (fun hc => ?_) (fun hc => ?_)))
            refine K.s_pure (K.p_textB hb7 (Fx.und rfl) (Fx.und rfl) (Fx.und rfl) rfl) rfl ?_
            (repeat' (first | (apply K.s_pure; (first | (apply Y.mv; exact X.mv) | (apply Y.sg; exact X.sg) | (apply Y.pk; exact X.pk) | (apply Y.cv; exact X.cv) | (apply Y.ex; exact X.ex) | (apply Y.ld; exact X.ld) | (apply Y.len; exact X.len) | (apply Y.nt; exact X.nt) | (apply Y.beql; exact X.beql) | (apply Y.bneq; exact X.bneq)); exact rfl) | refine X.l ?_ | refine X.w ?_ | refine X.a ?_ | (refine K.c_condD rfl (fun hc => ?_) (fun hc => ?_) <;> first | (exfalso; omega) | skip) | refine K.c_cond rfl (fun hc => ?_) (fun hc => ?_) | (refine K.s_guardD rfl rfl (fun hc => ?_) (fun hc => ?_) <;> first | (exfalso; omega) | skip) | refine K.s_guard rfl rfl (fun hc => ?_) (fun hc => ?_)))
            refine K.s_pure (K.p_textB (hb6.le le7) (Fx.und rfl) (Fx.und rfl) (Fx.und rfl) rfl) rfl ?_
            (repeat' (first | (apply K.s_pure; (first | (apply Y.mv; exact X.mv) | (apply Y.sg; exact X.sg) | (apply Y.pk; exact X.pk) | (apply Y.cv; exact X.cv) | (apply Y.ex; exact X.ex) | (apply Y.ld; exact X.ld) | (apply Y.len; exact X.len) | (apply Y.nt; exact X.nt) | (apply Y.beql; exact X.beql) | (apply Y.bneq; exact X.bneq)); exact rfl) | refine X.l ?_ | refine X.w ?_ | refine X.a ?_ | (refine K.c_condD rfl (fun hc => ?_) (fun hc => ?_) <;> first | (exfalso; omega) | skip) | refine K.c_cond rfl (fun hc => ?_) (fun hc => ?_) | (refine K.s_guardD rfl rfl (fun hc => ?_) (fun hc => ?_) <;> first | (exfalso; omega) | skip) | refine K.s_guard rfl rfl (fun hc => ?_) (fun hc => ?_)))
            · refine K.l_callV (Fx.cal rfl) rfl (Alive h7) (K.pp [] rfl) rfl rfl ?_
              simp only [List.nil_append]
              (repeat' (first | (apply K.s_pure; (first | (apply Y.mv; exact X.mv) | (apply Y.sg; exact X.sg) | (apply Y.pk; exact X.pk) | (apply Y.cv; exact X.cv) | (apply Y.ex; exact X.ex) | (apply Y.ld; exact X.ld) | (apply Y.len; exact X.len) | (apply Y.nt; exact X.nt) | (apply Y.beql; exact X.beql) | (apply Y.bneq; exact X.bneq)); exact rfl) | refine X.l ?_ | refine X.w ?_ | refine X.a ?_ | (refine K.c_condD rfl (fun hc => ?_) (fun hc => ?_) <;> first | (exfalso; omega) | skip) | refine K.c_cond rfl (fun hc => ?_) (fun hc => ?_) | (refine K.s_guardD rfl rfl (fun hc => ?_) (fun hc => ?_) <;> first | (exfalso; omega) | skip) | refine K.s_guard rfl rfl (fun hc => ?_) (fun hc => ?_)))
              refine K.AT.sel [0] rfl ?_
              refine K.done (by first | exact Or.inl rfl | exact Or.inr rfl) rfl hle7 (H' := []) rfl ⟨rfl, rfl⟩
            · exact absurd rfl hc
          · rw [h5e]
            (repeat' (first | (apply K.s_pure; (first | (apply Y.mv; exact X.mv) | (apply Y.sg; exact X.sg) | (apply Y.pk; exact X.pk) | (apply Y.cv; exact X.cv) | (apply Y.ex; exact X.ex) | (apply Y.ld; exact X.ld) | (apply Y.len; exact X.len) | (apply Y.nt; exact X.nt) | (apply Y.beql; exact X.beql) | (apply Y.bneq; exact X.bneq)); exact rfl) | refine X.l ?_ | refine X.w ?_ | refine X.a ?_ | (refine K.c_condD rfl (fun hc => ?_) (fun hc => ?_) <;> first | (exfalso; omega) | skip) | refine K.c_cond rfl (fun hc => ?_) (fun hc => ?_) | (refine K.s_guardD rfl rfl (fun hc => ?_) (fun hc => ?_) <;> first | (exfalso; omega) | skip) | refine K.s_guard rfl rfl (fun hc => ?_) (fun hc => ?_)))
            refine K.l_alloc (Fx.zr rfl) rfl rfl (fun B13 => ?_)
            refine X.stw ?_
            simp only [List.set_cons_zero, List.set_cons_succ, List.eraseIdx_cons_zero, List.eraseIdx_cons_succ, List.cons_append, List.nil_append]
            (repeat' (first | (apply K.s_pure; (first | (apply Y.mv; exact X.mv) | (apply Y.sg; exact X.sg) | (apply Y.pk; exact X.pk) | (apply Y.cv; exact X.cv) | (apply Y.ex; exact X.ex) | (apply Y.ld; exact X.ld) | (apply Y.len; exact X.len) | (apply Y.nt; exact X.nt) | (apply Y.beql; exact X.beql) | (apply Y.bneq; exact X.bneq)); exact rfl) | refine X.l ?_ | refine X.w ?_ | refine X.a ?_ | (refine K.c_condD rfl (fun hc => ?_) (fun hc => ?_) <;> first | (exfalso; omega) | skip) | refine K.c_cond rfl (fun hc => ?_) (fun hc => ?_) | (refine K.s_guardD rfl rfl (fun hc => ?_) (fun hc => ?_) <;> first | (exfalso; omega) | skip) | refine K.s_guard rfl rfl (fun hc => ?_) (fun hc => ?_)))
            refine K.l_callV (Fx.cal rfl) rfl (Alive h6) (K.pp [] rfl) rfl rfl ?_
            simp only [List.nil_append]
            (repeat' (first | (apply K.s_pure; (first | (apply Y.mv; exact X.mv) | (apply Y.sg; exact X.sg) | (apply Y.pk; exact X.pk) | (apply Y.cv; exact X.cv) | (apply Y.ex; exact X.ex) | (apply Y.ld; exact X.ld) | (apply Y.len; exact X.len) | (apply Y.nt; exact X.nt) | (apply Y.beql; exact X.beql) | (apply Y.bneq; exact X.bneq)); exact rfl) | refine X.l ?_ | refine X.w ?_ | refine X.a ?_ | (refine K.c_condD rfl (fun hc => ?_) (fun hc => ?_) <;> first | (exfalso; omega) | skip) | refine K.c_cond rfl (fun hc => ?_) (fun hc => ?_) | (refine K.s_guardD rfl rfl (fun hc => ?_) (fun hc => ?_) <;> first | (exfalso; omega) | skip) | refine K.s_guard rfl rfl (fun hc => ?_) (fun hc => ?_)))
            refine K.AT.sel [0] rfl ?_
            refine K.done (by first | exact Or.inl rfl | exact Or.inr rfl) rfl hle6 (H' := []) rfl ⟨rfl, rfl⟩
end Go.Proofs.Ytjgfgpdkcojnmaa.Pg
