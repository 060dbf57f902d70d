/-
  EvalFew, walked. Conditions: each theorem's own.
-/
import Derived.Test.YtmkhejdamjibgaaEp
import Derived.Test.YtmkhejdamjibgaaEn

namespace Go.Proofs.Ytmkhejdamjibgaa.Rw
open Go Go.K Go.Proofs Go.Proofs.Ytmkhejdamjibgaa
set_option linter.unusedVariables false
set_option linter.unusedSimpArgs false
set_option maxRecDepth 10000

section
variable {P : Program} {n : Nat} {Q : Exit → Act → World → Prop} {E : Env} {h : Base} {H : List Asrt}
theorem WC.freezeRowN {c : Code} {T sz m : Nat} {a : Option Nat} {cap : Nat} {es : List (List Value)} (hm : m = es.length) (hz : ∀ e ∈ es, e.length = sz) (hk : ∀ h', h.le h' → SL h' sz (bufV a m cap) es → WC P n c Q E h' H) : WC P n c Q E h (bufA T sz a m cap es.flatten :: H) := by
  subst hm
  exact ⟨fun ac w fa ok => by
    obtain ⟨h', hle, hs, _, ok'⟩ := Ok.freezeRow hz ok
    exact (hk h' hle hs).run _ w fa ok'⟩
end
structure FwS where
  j : Nat
  mx : List Val
theorem lent_baseF {h : Base} {ao : Option Addr} {l : List Val} {cap : Nat} (hs : SL h 3 (.slice ao (l.length + 1) cap) ((l ++ [markV]).map cV)) : SL h 3 (.slice ao l.length cap) (l.map cV) := by
  have h1 := hs.take (q := l.length) (by simp)
  rw [← List.map_take, List.take_left] at h1
  exact h1
set_option maxHeartbeats 8000000 in
theorem EvalFewW (m : Nat) (h : Base) (cs : List Value) (e : Ex) (rv : Value) (row : List Val) (ov : Value) (other : List Val) (hx : ExC h m cs e) (hb : (colsQ e).length ≤ 17592186044415) (hrv : SL h 3 rv (row.map cV)) (hw : ∀ c ∈ row, wfV c) (hl : row.length ≤ 1048576) (hov : SL h 3 ov (other.map cV)) (hw2 : ∀ c ∈ other, wfV c) (hl2 : other.length ≤ 1048576) :
    Tr Try.prog 4 [.agg cs.toArray, rv, ov] h [] (fun u h' H' => u = .bool true ∧ H' = []) := by
  have hlen : (row.map cV).length = row.length := List.length_map ..
  have hlen2 : (other.map cV).length = other.length := List.length_map ..
  obtain ⟨ao, ca, rfl⟩ := hrv.len
  obtain ⟨ao2, ca2, rfl⟩ := hov.len
  rw [hlen] at hrv ⊢
  rw [hlen2] at hov ⊢
  have hri := Right m h cs e row.length hx
  have hco := Cols m h cs e hx hb
  have haw := awake h
  have hx0 := hx
  obtain ⟨op', val', tb', nm', col', ao', n', ca', rfl⟩ := hx.shape
  refine K.enter Try.func4 rfl (Nat.le_of_ble_eq_true rfl) (fun F => ?_)
  simp only [List.nil_append]
  (repeat' (first | refine X.rq ?_ | (refine X.rc ?_ ?_ <;> intro hc <;> first | (exfalso; omega) | skip)))
  refine K.l_box rfl rfl rfl (fun B3 => ?_)
  (repeat' (first | refine X.rq ?_ | (refine X.rc ?_ ?_ <;> intro hc <;> first | (exfalso; omega) | skip)))
  refine K.l_callV (Fx.cal rfl) rfl hri (K.pp [] rfl) rfl rfl ?_
  simp only [List.nil_append]
  cases hr : rightQ row.length e with
  | false =>
    (repeat' (first | refine X.rq ?_ | (refine X.rc ?_ ?_ <;> intro hc <;> first | (exfalso; omega) | skip)))
    refine K.l_call (Fx.cal rfl) rfl haw (K.pp [] rfl) rfl ?_
    rintro u h2 H' le2 ⟨rfl, rfl⟩
    simp only [List.nil_append]
    (repeat' (first | refine X.rq ?_ | (refine X.rc ?_ ?_ <;> intro hc <;> first | (exfalso; omega) | skip)))
    refine K.AT.drop ?_
    refine K.done (by first | exact Or.inl rfl | exact Or.inr rfl) rfl (by first | exact K.Base.le.refl _ | assumption) (H' := []) rfl ⟨rfl, rfl⟩
  | true =>
    by_cases hll : row.length = other.length
    case neg =>
      (repeat' (first | refine X.rq ?_ | (refine X.rc ?_ ?_ <;> intro hc <;> first | (exfalso; omega) | skip)))
      refine K.l_call (Fx.cal rfl) rfl haw (K.pp [] rfl) rfl ?_
      rintro u h2 H' le2 ⟨rfl, rfl⟩
      simp only [List.nil_append]
      (repeat' (first | refine X.rq ?_ | (refine X.rc ?_ ?_ <;> intro hc <;> first | (exfalso; omega) | skip)))
      refine K.AT.drop ?_
      refine K.done (by first | exact Or.inl rfl | exact Or.inr rfl) rfl (by first | exact K.Base.le.refl _ | assumption) (H' := []) rfl ⟨rfl, rfl⟩
    have hin := right_cols e hr
    clear hri
    (repeat' (first | refine X.rq ?_ | (refine X.rc ?_ ?_ <;> intro hc <;> first | (exfalso; omega) | skip)))
    refine K.l_call (Fx.cal rfl) rfl hco (K.pp [] rfl) rfl ?_
    rintro u h1 H' le1 ⟨rfl, p, hsl, hon⟩
    have hmem : ∀ x, x ∈ p ↔ x ∈ colsQ e := hon.mem
    have hpl : p.length ≤ (colsQ e).length := by
      have hnd : p.Nodup := hon.rise.imp fun h e => by omega
      exact nodup_leI hnd fun x hx => (hmem x).1 hx
    have hx := hx0.le le1
    have hrv := hrv.le le1
    have hov := hov.le le1
    have haw := awake h1
    obtain ⟨aop, cap, rfl⟩ := hsl.len
    rw [rowI_len] at hsl ⊢
    clear hco hon hx0
    simp only [List.nil_append]
    (repeat' (first | refine X.rq ?_ | (refine X.rc ?_ ?_ <;> intro hc <;> first | (exfalso; omega) | skip)))
    refine K.l_buildSlice (Fx.und rfl) (Fx.sz rfl) rfl (Fx.zr rfl) rfl rfl rfl rfl rfl (fun B => ?_)
    refine K.WL.bufOf (m := 0) (s := 3) rfl (by unfold maxLen; omega) ?_
    (repeat' (first | refine X.rq ?_ | (refine X.rc ?_ ?_ <;> intro hc <;> first | (exfalso; omega) | skip)))
    refine K.l_append_at 0 rfl (Fx.und rfl) (Fx.und rfl) rfl (Fx.sz rfl) (Fx.zr rfl) rfl (Fx.byt rfl) rfl rfl (hov.src (ones_V other)) (by rw [hlen2]; omega) (by rw [hlen2]; omega) rfl (fun a1 k1 => ?_)
    simp only [List.set_cons_zero, List.set_cons_succ, List.eraseIdx_cons_zero, List.eraseIdx_cons_succ, List.cons_append, List.nil_append]
    rw [Nat.zero_add, hlen2]
    (repeat' (first | refine X.rq ?_ | (refine X.rc ?_ ?_ <;> intro hc <;> first | (exfalso; omega) | skip)))
    refine K.c_loop (σ := FwS) (fun q => [(1, .slice ao row.length ca), (3, .pointer (some ⟨B3, 0, none⟩)), (7, .slice aop p.length cap), (8, bufV a1 other.length k1), (9, .int .i64 q.j)]) (fun _ => h1)
      (fun q => bufA 23 3 a1 other.length k1 (q.mx.map cV).flatten :: blk B3 26 (cE op' val' tb' nm' col' (.slice ao' n' ca')) :: F)
      (fun q => q.j ≤ p.length ∧ q.mx.length = row.length ∧ (∀ c ∈ q.mx, wfV c) ∧ ∀ (i : Nat) c, i < q.j → p[i]? = some c → q.mx[c.toNat]? = row[c.toNat]?) (fun q => p.length - q.j) ⟨0, other⟩ ⟨Nat.zero_le _, hll.symm, hw2, fun i c hi => absurd hi (Nat.not_lt_zero _)⟩ (by repeat (first | exact K.Sub.nil _ | refine K.Sub.cons rfl ?_)) rfl (by simp [cellsL]) ?_
    rintro ⟨j, mx⟩ ⟨hj, hml, hmw, hms⟩ KL hKL
    dsimp only at hj hml hmw hms ⊢
    by_cases hjl : j < p.length
    · have hx1 : p[j]? = some p[j] := List.getElem?_eq_getElem hjl
      have hcc := hin _ ((hmem _).1 (List.getElem_mem hjl))
      generalize p[j] = c at hx1 hcc
      have hr1 : row[c.toNat]? = some (row[c.toNat]'(by omega)) := List.getElem?_eq_getElem (by omega)
      have hwx := hw _ (List.getElem_mem (show c.toNat < row.length by omega))
      generalize row[c.toNat]'(by omega) = x at hr1 hwx
      have hm1 : mx[c.toNat]? = some (mx[c.toNat]'(by omega)) := List.getElem?_eq_getElem (by omega)
      generalize mx[c.toNat]'(by omega) = x0 at hm1
      have hrc : (row.map cV)[c.toNat]? = some (cV x) := by rw [List.getElem?_map, hr1]; rfl
      have hmc : (mx.map cV)[c.toNat]? = some ([] ++ cV x0 ++ []) := by rw [List.getElem?_map, hm1]; rfl
      obtain ⟨bb, oo, rfl, hcx⟩ := hsl.at (rowI_at hx1)
      obtain ⟨b2, o2, rfl, hcr⟩ := hrv.at hrc
      refine K.WC.someBuf 0 rfl (by omega) (fun b hb' => ?_)
      subst hb'
      have hms := fun (_ : Unit) => hms
      have hmw := fun (_ : Unit) => hmw
      (repeat' (first | refine X.rq ?_ | (refine X.rc ?_ ?_ <;> intro hc <;> first | (exfalso; omega) | skip)))
      refine X.draw ([]) [] (.pu 0 (.pu 1 (.pu 2 (.pu 3 (.pu 5 (.pu 6 (.pu 7 (.pu 8 (.st 4 (.st 9 (.pu 10 (.st 11 (.pu 12 (.on 13 .nil)))))))))))))) ?_ (hQ := by repeat (first | with_reducible refine K.NoPanic.then ?_ | with_reducible refine K.NoPanic.inBlock ?_ | with_reducible exact K.post_noPanic _ _ | exact K.post_noPanic _ _))
      refine K.d_pu rfl (fun _ _ => X.mv) rfl ?_
      refine K.d_pu rfl (fun _ _ => X.mv) rfl ?_
      refine K.d_pu rfl (fun _ _ => X.mv) rfl ?_
      refine K.d_pu rfl (fun _ _ => X.ia) rfl ?_
      refine K.d_pu rfl (fun _ _ => X.mv) rfl ?_
      refine K.d_pu rfl (fun _ _ => X.mv) rfl ?_
      refine K.d_pu rfl (fun _ _ => X.mv) rfl ?_
      refine K.d_pu rfl (fun _ _ => X.ia) rfl ?_
      refine K.d_st rfl (K.p_load (Fx.agg rfl) rfl (Cels.get (Cels.up hcx) 0 (iV c) rfl)) rfl ?_
      refine K.d_st rfl (K.p_load (Fx.agg rfl) rfl (Cels.get (Cels.up hcx) 0 (iV c) rfl)) rfl ?_
      refine K.d_pu rfl (fun _ _ => X.ia) rfl ?_
      refine K.d_st rfl (K.p_loadM (Fx.agg rfl) rfl (Cels.up hcr) (Fx.sz rfl) rfl) rfl ?_
      refine K.d_pu rfl (fun _ _ => X.ia) rfl ?_
      refine K.d_on rfl (fun KK hKK => ?_)
      refine K.l_storePart (i := c.toNat) (c1 := []) (c2 := cV x0) (c3 := []) (us := cV x) 0 rfl (Fx.sz rfl) (by show some (Value.pointer (some ⟨b, 0 + c.toNat * 3, none⟩)) = _; rw [Nat.zero_add]; rfl) rfl rfl (flat_map mx) hmc rfl ?_
      simp only [List.set_cons_zero, List.nil_append, List.append_nil]
      rw [← List.map_set]
      refine K.l_nil ?_
      refine X.onE hKK ?_
      refine K.d_nil ?_
      (repeat' (first | refine X.rq ?_ | (refine X.rc ?_ ?_ <;> intro hc <;> first | (exfalso; omega) | skip)))
      refine K.a_round hKL ⟨j + 1, mx.set c.toNat x⟩ ⟨by dsimp only; omega, by dsimp only; rw [List.length_set]; exact hml, fun v hv => ?_, fun i d hi hd => ?_⟩ (by repeat (first | exact K.Sub.nil _ | refine K.Sub.cons rfl ?_)) rfl rfl (by dsimp only; omega)
      · rcases List.mem_or_eq_of_mem_set hv with hv | rfl
        · exact hmw () v hv
        · exact hwx
      · dsimp only at hi ⊢
        by_cases hdc : d.toNat = c.toNat
        · rw [hdc, List.getElem?_set_self (by omega), hr1]
        · rw [List.getElem?_set_ne (fun e => hdc e.symm)]
          by_cases hij : i = j
          · subst hij
            rw [hx1] at hd
            cases hd
            exact absurd rfl hdc
          · exact hms () i d (by omega) hd
    · obtain rfl : j = p.length := by omega
      have hsame : ∀ c ∈ colsQ e, row[c.toNat]? = mx[c.toNat]? := fun c hc => by
        obtain ⟨i, hi⟩ := List.mem_iff_getElem?.1 ((hmem c).2 hc)
        exact (hms i c (List.getElem?_eq_some_iff.1 hi).1 hi).symm
      clear hms hin hmem
      have hfl : other.length = (mx.map cV).length := by rw [List.length_map, hml, hll]
      refine WC.freezeRowN hfl (flat_map mx) (fun h2 le2 hsm => ?_)
      generalize K.bufV a1 other.length k1 = xm at hsm ⊢
      obtain ⟨aom, cam, rfl⟩ := hsm.len
      rw [List.length_map] at hsm ⊢
      have hx2 := hx.le le2
      have hrv2 := hrv.le le2
      have le02 := le1.trans le2
      obtain ⟨x, f, hR⟩ : ∃ x f, evalQ row e = (x, f) := ⟨_, _, rfl⟩
      obtain ⟨y, g, hS⟩ : ∃ y g, evalQ mx e = (y, g) := ⟨_, _, rfl⟩
      clear hfl hx hrv hov hsl
      (repeat' (first | refine X.rq ?_ | (refine X.rc ?_ ?_ <;> intro hc <;> first | (exfalso; omega) | skip)))
      refine X.drawJ ([blk B3 26 (cE op' val' tb' nm' col' (.slice ao' n' ca'))]) [] (.pu 1 (.st 0 (.alt 2 (.alt 3 (.pu 4 (.pu 5 (.pu 6 (.on 7 (.on 8 (.pu 9 .nil)))))) (.on 7 (.on 3 (.pu 4 (.pu 5 (.pu 6 (.on 8 (.pu 9 .nil)))))))) (.on 7 (.on 2 (.on 3 (.pu 4 (.pu 5 (.pu 6 (.on 8 (.pu 9 .nil))))))))))) (fun r : { r : Nat × Base // h2.le r.2 } => [(1, .slice ao row.length ca), (3, .pointer (some ⟨B3, 0, none⟩)), (8, .slice aom mx.length cam), (10, .pointer (some ⟨r.1.1, 0, none⟩)), (11, .int .i64 f)]) (fun r => r.1.2) (fun r => blk r.1.1 23 (cV x) :: blk B3 26 (cE op' val' tb' nm' col' (.slice ao' n' ca')) :: F) ?_ ?_
      · refine K.d_pu rfl (fun _ _ => X.mv) rfl ?_
        refine K.d_st rfl (K.p_loadW 0 rfl rfl (Fx.agg rfl) (Fx.sz rfl)) rfl ?_
        refine K.d_alt ?_ ?_
        · refine K.d_on rfl (fun KK hKK => ?_)
          refine K.l_call (Fx.cal rfl) rfl (lent_cV h2 _ row hrv2 (by omega)) (K.pp [] rfl) rfl ?_
          rintro w3 h3 H' le3 ⟨rfl, ao3, cap3, rfl, hcap3, hsl3⟩
          simp only [List.nil_append]
          have hb3 := lent_baseF hsl3
          have hev := Eval m h3 _ e _ row (hx2.le le3) hb3 hw (by omega)
          rw [hR, show rV (x, f) = .tuple #[.agg (cV x).toArray, .int .i64 f] from rfl] at hev
          refine K.l_nil ?_
          refine X.onE hKK ?_
          refine K.d_alt ?_ ?_
          · refine K.d_on rfl (fun KK hKK => ?_)
            refine K.l_callV (Fx.cal rfl) rfl hev (K.pp [] rfl) rfl rfl ?_
            simp only [List.nil_append]
            refine K.l_nil ?_
            refine X.onE hKK ?_
            refine K.d_pu rfl (fun _ _ => X.mv) rfl ?_
            refine K.d_pu rfl (fun _ _ => X.ex) rfl ?_
            refine K.d_pu rfl (fun _ _ => X.ex) rfl ?_
            refine K.d_on rfl (fun KK hKK => ?_)
            refine K.l_alloc (Fx.zr rfl) rfl rfl (fun B10 => ?_)
            refine K.l_nil ?_
            refine X.onE hKK ?_
            refine K.d_on rfl (fun KK hKK => ?_)
            refine X.stw ?_
            simp only [List.set_cons_zero, List.set_cons_succ, List.eraseIdx_cons_zero, List.eraseIdx_cons_succ, List.cons_append, List.nil_append]
            refine K.l_nil ?_
            refine X.onE hKK ?_
            refine K.d_pu rfl (fun _ _ => X.sg) rfl ?_
            refine K.d_nil ?_
            exact K.joined ⟨(B10, h3), le3⟩ (by repeat (first | exact K.Sub.nil _ | refine K.Sub.cons rfl ?_)) rfl rfl
          refine K.d_on rfl (fun KK hKK => ?_)
          refine K.l_alloc (Fx.zr rfl) rfl rfl (fun B10 => ?_)
          refine K.l_nil ?_
          refine X.onE hKK ?_
          refine K.d_on rfl (fun KK hKK => ?_)
          refine K.l_callV (Fx.cal rfl) rfl hev (K.pp [] rfl) rfl rfl ?_
          simp only [List.nil_append]
          refine K.l_nil ?_
          refine X.onE hKK ?_
          refine K.d_pu rfl (fun _ _ => X.mv) rfl ?_
          refine K.d_pu rfl (fun _ _ => X.ex) rfl ?_
          refine K.d_pu rfl (fun _ _ => X.ex) rfl ?_
          refine K.d_on rfl (fun KK hKK => ?_)
          refine X.stw ?_
          simp only [List.set_cons_zero, List.set_cons_succ, List.eraseIdx_cons_zero, List.eraseIdx_cons_succ, List.cons_append, List.nil_append]
          refine K.l_nil ?_
          refine X.onE hKK ?_
          refine K.d_pu rfl (fun _ _ => X.sg) rfl ?_
          refine K.d_nil ?_
          exact K.joined ⟨(B10, h3), le3⟩ (by repeat (first | exact K.Sub.nil _ | refine K.Sub.cons rfl ?_)) rfl rfl
        refine K.d_on rfl (fun KK hKK => ?_)
        refine K.l_alloc (Fx.zr rfl) rfl rfl (fun B10 => ?_)
        refine K.l_nil ?_
        refine X.onE hKK ?_
        refine K.d_on rfl (fun KK hKK => ?_)
        refine K.l_call (Fx.cal rfl) rfl (lent_cV h2 _ row hrv2 (by omega)) (K.pp [] rfl) rfl ?_
        rintro w3 h3 H' le3 ⟨rfl, ao3, cap3, rfl, hcap3, hsl3⟩
        simp only [List.nil_append]
        have hb3 := lent_baseF hsl3
        have hev := Eval m h3 _ e _ row (hx2.le le3) hb3 hw (by omega)
        rw [hR, show rV (x, f) = .tuple #[.agg (cV x).toArray, .int .i64 f] from rfl] at hev
        refine K.l_nil ?_
        refine X.onE hKK ?_
        refine K.d_on rfl (fun KK hKK => ?_)
        refine K.l_callV (Fx.cal rfl) rfl hev (K.pp [] rfl) rfl rfl ?_
        simp only [List.nil_append]
        refine K.l_nil ?_
        refine X.onE hKK ?_
        refine K.d_pu rfl (fun _ _ => X.mv) rfl ?_
        refine K.d_pu rfl (fun _ _ => X.ex) rfl ?_
        refine K.d_pu rfl (fun _ _ => X.ex) rfl ?_
        refine K.d_on rfl (fun KK hKK => ?_)
        refine X.stw ?_
        simp only [List.set_cons_zero, List.set_cons_succ, List.eraseIdx_cons_zero, List.eraseIdx_cons_succ, List.cons_append, List.nil_append]
        refine K.l_nil ?_
        refine X.onE hKK ?_
        refine K.d_pu rfl (fun _ _ => X.sg) rfl ?_
        refine K.d_nil ?_
        exact K.joined ⟨(B10, h3), le3⟩ (by repeat (first | exact K.Sub.nil _ | refine K.Sub.cons rfl ?_)) rfl rfl
      refine fun r => ?_
      obtain ⟨⟨B10, h3⟩, le3⟩ := r
      dsimp only at le3 ⊢
      have hx3 := hx2.le le3
      have hrv3 := hrv2.le le3
      have hsm3 := hsm.le le3
      have le03 := le02.trans le3
      clear hx2 hrv2 hsm
      (repeat' (first | refine X.rq ?_ | (refine X.rc ?_ ?_ <;> intro hc <;> first | (exfalso; omega) | skip)))
      refine X.drawJ ([blk B3 26 (cE op' val' tb' nm' col' (.slice ao' n' ca'))]) [] (.pu 1 (.st 0 (.alt 2 (.alt 3 (.pu 4 (.pu 5 (.pu 6 (.on 7 (.on 8 (.pu 9 .nil)))))) (.on 7 (.on 3 (.pu 4 (.pu 5 (.pu 6 (.on 8 (.pu 9 .nil)))))))) (.on 7 (.on 2 (.on 3 (.pu 4 (.pu 5 (.pu 6 (.on 8 (.pu 9 .nil))))))))))) (fun r : { r : Nat × Base // h3.le r.2 } => [(1, .slice ao row.length ca), (3, .pointer (some ⟨B3, 0, none⟩)), (10, .pointer (some ⟨B10, 0, none⟩)), (11, .int .i64 f), (12, .pointer (some ⟨r.1.1, 0, none⟩)), (13, .int .i64 g)]) (fun r => r.1.2) (fun r => blk r.1.1 23 (cV y) :: blk B10 23 (cV x) :: blk B3 26 (cE op' val' tb' nm' col' (.slice ao' n' ca')) :: F) ?_ ?_
      · refine K.d_pu rfl (fun _ _ => X.mv) rfl ?_
        refine K.d_st rfl (K.p_loadW 0 rfl rfl (Fx.agg rfl) (Fx.sz rfl)) rfl ?_
        refine K.d_alt ?_ ?_
        · refine K.d_on rfl (fun KK hKK => ?_)
          refine K.l_call (Fx.cal rfl) rfl (lent_cV h3 _ mx hsm3 (by omega)) (K.pp [] rfl) rfl ?_
          rintro w4 h4 H' le4 ⟨rfl, ao4, cap4, rfl, hcap4, hsl4⟩
          simp only [List.nil_append]
          have hb4 := lent_baseF hsl4
          have hev := Eval m h4 _ e _ mx (hx3.le le4) hb4 hmw (by omega)
          rw [hS, show rV (y, g) = .tuple #[.agg (cV y).toArray, .int .i64 g] from rfl] at hev
          refine K.l_nil ?_
          refine X.onE hKK ?_
          refine K.d_alt ?_ ?_
          · refine K.d_on rfl (fun KK hKK => ?_)
            refine K.l_callV (Fx.cal rfl) rfl hev (K.pp [] rfl) rfl rfl ?_
            simp only [List.nil_append]
            refine K.l_nil ?_
            refine X.onE hKK ?_
            refine K.d_pu rfl (fun _ _ => X.mv) rfl ?_
            refine K.d_pu rfl (fun _ _ => X.ex) rfl ?_
            refine K.d_pu rfl (fun _ _ => X.ex) rfl ?_
            refine K.d_on rfl (fun KK hKK => ?_)
            refine K.l_alloc (Fx.zr rfl) rfl rfl (fun B12 => ?_)
            refine K.l_nil ?_
            refine X.onE hKK ?_
            refine K.d_on rfl (fun KK hKK => ?_)
            refine X.stw ?_
            simp only [List.set_cons_zero, List.set_cons_succ, List.eraseIdx_cons_zero, List.eraseIdx_cons_succ, List.cons_append, List.nil_append]
            refine K.l_nil ?_
            refine X.onE hKK ?_
            refine K.d_pu rfl (fun _ _ => X.sg) rfl ?_
            refine K.d_nil ?_
            exact K.joined ⟨(B12, h4), le4⟩ (by repeat (first | exact K.Sub.nil _ | refine K.Sub.cons rfl ?_)) rfl rfl
          refine K.d_on rfl (fun KK hKK => ?_)
          refine K.l_alloc (Fx.zr rfl) rfl rfl (fun B12 => ?_)
          refine K.l_nil ?_
          refine X.onE hKK ?_
          refine K.d_on rfl (fun KK hKK => ?_)
          refine K.l_callV (Fx.cal rfl) rfl hev (K.pp [] rfl) rfl rfl ?_
          simp only [List.nil_append]
          refine K.l_nil ?_
          refine X.onE hKK ?_
          refine K.d_pu rfl (fun _ _ => X.mv) rfl ?_
          refine K.d_pu rfl (fun _ _ => X.ex) rfl ?_
          refine K.d_pu rfl (fun _ _ => X.ex) rfl ?_
          refine K.d_on rfl (fun KK hKK => ?_)
          refine X.stw ?_
          simp only [List.set_cons_zero, List.set_cons_succ, List.eraseIdx_cons_zero, List.eraseIdx_cons_succ, List.cons_append, List.nil_append]
          refine K.l_nil ?_
          refine X.onE hKK ?_
          refine K.d_pu rfl (fun _ _ => X.sg) rfl ?_
          refine K.d_nil ?_
          exact K.joined ⟨(B12, h4), le4⟩ (by repeat (first | exact K.Sub.nil _ | refine K.Sub.cons rfl ?_)) rfl rfl
        refine K.d_on rfl (fun KK hKK => ?_)
        refine K.l_alloc (Fx.zr rfl) rfl rfl (fun B12 => ?_)
        refine K.l_nil ?_
        refine X.onE hKK ?_
        refine K.d_on rfl (fun KK hKK => ?_)
        refine K.l_call (Fx.cal rfl) rfl (lent_cV h3 _ mx hsm3 (by omega)) (K.pp [] rfl) rfl ?_
        rintro w4 h4 H' le4 ⟨rfl, ao4, cap4, rfl, hcap4, hsl4⟩
        simp only [List.nil_append]
        have hb4 := lent_baseF hsl4
        have hev := Eval m h4 _ e _ mx (hx3.le le4) hb4 hmw (by omega)
        rw [hS, show rV (y, g) = .tuple #[.agg (cV y).toArray, .int .i64 g] from rfl] at hev
        refine K.l_nil ?_
        refine X.onE hKK ?_
        refine K.d_on rfl (fun KK hKK => ?_)
        refine K.l_callV (Fx.cal rfl) rfl hev (K.pp [] rfl) rfl rfl ?_
        simp only [List.nil_append]
        refine K.l_nil ?_
        refine X.onE hKK ?_
        refine K.d_pu rfl (fun _ _ => X.mv) rfl ?_
        refine K.d_pu rfl (fun _ _ => X.ex) rfl ?_
        refine K.d_pu rfl (fun _ _ => X.ex) rfl ?_
        refine K.d_on rfl (fun KK hKK => ?_)
        refine X.stw ?_
        simp only [List.set_cons_zero, List.set_cons_succ, List.eraseIdx_cons_zero, List.eraseIdx_cons_succ, List.cons_append, List.nil_append]
        refine K.l_nil ?_
        refine X.onE hKK ?_
        refine K.d_pu rfl (fun _ _ => X.sg) rfl ?_
        refine K.d_nil ?_
        exact K.joined ⟨(B12, h4), le4⟩ (by repeat (first | exact K.Sub.nil _ | refine K.Sub.cons rfl ?_)) rfl rfl
      refine fun r => ?_
      obtain ⟨⟨B12, h4⟩, le4⟩ := r
      dsimp only at le4 ⊢
      have hx4 := hx3.le le4
      have hrv4 := hrv3.le le4
      have le04 := le03.trans le4
      have haw := awake h4
      clear hx3 hrv3 hsm3
      by_cases hf5 : f = 5
      · (repeat' (first | refine X.rq ?_ | (refine X.rc ?_ ?_ <;> intro hc <;> first | (exfalso; omega) | skip)))
        refine K.l_call (Fx.cal rfl) rfl haw (K.pp [] rfl) rfl ?_
        rintro u h5 H' le5 ⟨rfl, rfl⟩
        simp only [List.nil_append]
        have le05 := le04.trans le5
        (repeat' (first | refine X.rq ?_ | (refine X.rc ?_ ?_ <;> intro hc <;> first | (exfalso; omega) | skip)))
        refine K.AT.sel [0, 0, 0] rfl ?_
        refine K.done (by first | exact Or.inl rfl | exact Or.inr rfl) rfl (by first | exact K.Base.le.refl _ | assumption) (H' := []) rfl ⟨rfl, rfl⟩
      by_cases hg5 : g = 5
      · (repeat' (first | refine X.rq ?_ | (refine X.rc ?_ ?_ <;> intro hc <;> first | (exfalso; omega) | skip)))
        refine K.l_call (Fx.cal rfl) rfl haw (K.pp [] rfl) rfl ?_
        rintro u h5 H' le5 ⟨rfl, rfl⟩
        simp only [List.nil_append]
        have le05 := le04.trans le5
        (repeat' (first | refine X.rq ?_ | (refine X.rc ?_ ?_ <;> intro hc <;> first | (exfalso; omega) | skip)))
        refine K.AT.sel [0, 0, 0] rfl ?_
        refine K.done (by first | exact Or.inl rfl | exact Or.inr rfl) rfl (by first | exact K.Base.le.refl _ | assumption) (H' := []) rfl ⟨rfl, rfl⟩
      have hro : row.all okV = true := by
        cases ho : row.all okV with
        | true => rfl
        | false =>
          rw [evalQ, if_pos hr, ho, if_neg (by decide)] at hR
          cases hR
          exact absurd rfl hf5
      have hmo : mx.all okV = true := by
        cases ho : mx.all okV with
        | true => rfl
        | false =>
          rw [evalQ, hml, if_pos hr, ho, if_neg (by decide)] at hS
          cases hS
          exact absurd rfl hg5
      have hv1 : valueQ row e = (x, f) := by rw [evalQ, if_pos hr, if_pos hro] at hR; exact hR
      have hv2 : valueQ mx e = (y, g) := by rw [evalQ, hml, if_pos hr, if_pos hmo] at hS; exact hS
      obtain ⟨rfl, rfl⟩ : x = y ∧ f = g := by
        have := value_same e hsame
        rw [hv1, hv2] at this
        cases this
        exact ⟨rfl, rfl⟩
      have hox : okV x = true := by
        have := ok_value hr hro
        rw [hv1] at this
        exact this
      have hko := KindOf m h4 _ e _ row hx4 hrv4 (by omega) hr
      have hla := kind_law hro e hr
      rw [hv1] at hla
      have hwx : wfV x := by
        have := good_value hx4 hr (fun c hc => ⟨List.all_eq_true.1 hro c hc, (hw c hc).n1, (hw c hc).n2⟩)
        rw [hv1] at this
        exact this.wf
      have hsa := Safe m h4 _ e hx4
      clear hR hS hsame hmo hv2 hv1 hmw hro hw hw2 hrv4
      generalize kindQ row e = kq at hko hla
      obtain ⟨k, ok⟩ := kq
      rw [show kV (k, ok) = .tuple #[.int .i64 k, .bool ok] from rfl] at hko
      dsimp only at hla
      (repeat' (first | refine X.rq ?_ | (refine X.rc ?_ ?_ <;> intro hc <;> first | (exfalso; omega) | skip)))
      · exact absurd hc (by simp)
      refine K.l_callV (Fx.cal rfl) rfl hko (K.pp [] rfl) rfl rfl ?_
      simp only [List.nil_append]
      cases ok with
      | false =>
        (repeat' (first | refine X.rq ?_ | (refine X.rc ?_ ?_ <;> intro hc <;> first | (exfalso; omega) | skip)))
        refine K.l_call (Fx.cal rfl) rfl haw (K.pp [] rfl) rfl ?_
        rintro u h5 H' le5 ⟨rfl, rfl⟩
        simp only [List.nil_append]
        have le05 := le04.trans le5
        (repeat' (first | refine X.rq ?_ | (refine X.rc ?_ ?_ <;> intro hc <;> first | (exfalso; omega) | skip)))
        refine K.AT.sel [0, 0, 0] rfl ?_
        refine K.done (by first | exact Or.inl rfl | exact Or.inr rfl) rfl (by first | exact K.Base.le.refl _ | assumption) (H' := []) rfl ⟨rfl, rfl⟩
      | true =>
        obtain ⟨hla1, hla2⟩ := hla rfl
        dsimp only at hla1 hla2
        by_cases hf0 : f = 0
        · have hk := hla1 hf0
          have hma := RefValueMay h4 x hwx
          rw [hox] at hma
          by_cases q1 : x.kind = k
          all_goals
            (repeat' (first | refine X.rq ?_ | (refine X.rc ?_ ?_ <;> intro hc <;> first | (exfalso; omega) | skip)))
            refine K.l_callV (Fx.cal rfl) rfl hma (K.pp [] rfl) rfl rfl ?_
            simp only [List.nil_append]
            (repeat' (first | refine X.rq ?_ | (refine X.rc ?_ ?_ <;> intro hc <;> first | (exfalso; omega) | skip)))
            refine K.l_call (Fx.cal rfl) rfl haw (K.pp [] rfl) rfl ?_
            rintro u h5 H' le5 ⟨rfl, rfl⟩
            simp only [List.nil_append]
            have le05 := le04.trans le5
            (repeat' (first | refine X.rq ?_ | (refine X.rc ?_ ?_ <;> intro hc <;> first | (exfalso; omega) | skip)))
            refine K.AT.sel [0, 0, 0] rfl ?_
            refine K.done (by first | exact Or.inl rfl | exact Or.inr rfl) rfl (by first | exact K.Base.le.refl _ | assumption) (H' := []) rfl ⟨rfl, rfl⟩
        · obtain ⟨hk, hns⟩ := hla2 hf0
          rw [hns] at hsa
          by_cases q1 : f = 32
          · (repeat' (first | refine X.rq ?_ | (refine X.rc ?_ ?_ <;> intro hc <;> first | (exfalso; omega) | skip)))
            refine K.l_callV (Fx.cal rfl) rfl hsa (K.pp [] rfl) rfl rfl ?_
            simp only [List.nil_append]
            (repeat' (first | refine X.rq ?_ | (refine X.rc ?_ ?_ <;> intro hc <;> first | (exfalso; omega) | skip)))
            refine K.l_call (Fx.cal rfl) rfl haw (K.pp [] rfl) rfl ?_
            rintro u h5 H' le5 ⟨rfl, rfl⟩
            simp only [List.nil_append]
            have le05 := le04.trans le5
            (repeat' (first | refine X.rq ?_ | (refine X.rc ?_ ?_ <;> intro hc <;> first | (exfalso; omega) | skip)))
            refine K.AT.sel [0, 0, 0] rfl ?_
            refine K.done (by first | exact Or.inl rfl | exact Or.inr rfl) rfl (by first | exact K.Base.le.refl _ | assumption) (H' := []) rfl ⟨rfl, rfl⟩
          by_cases q2 : f = 31
          · (repeat' (first | refine X.rq ?_ | (refine X.rc ?_ ?_ <;> intro hc <;> first | (exfalso; omega) | skip)))
            refine K.l_callV (Fx.cal rfl) rfl hsa (K.pp [] rfl) rfl rfl ?_
            simp only [List.nil_append]
            (repeat' (first | refine X.rq ?_ | (refine X.rc ?_ ?_ <;> intro hc <;> first | (exfalso; omega) | skip)))
            refine K.l_call (Fx.cal rfl) rfl haw (K.pp [] rfl) rfl ?_
            rintro u h5 H' le5 ⟨rfl, rfl⟩
            simp only [List.nil_append]
            have le05 := le04.trans le5
            (repeat' (first | refine X.rq ?_ | (refine X.rc ?_ ?_ <;> intro hc <;> first | (exfalso; omega) | skip)))
            refine K.AT.sel [0, 0, 0] rfl ?_
            refine K.done (by first | exact Or.inl rfl | exact Or.inr rfl) rfl (by first | exact K.Base.le.refl _ | assumption) (H' := []) rfl ⟨rfl, rfl⟩
          · have q3 : f = 3 := by omega
            (repeat' (first | refine X.rq ?_ | (refine X.rc ?_ ?_ <;> intro hc <;> first | (exfalso; omega) | skip)))
            refine K.l_callV (Fx.cal rfl) rfl hsa (K.pp [] rfl) rfl rfl ?_
            simp only [List.nil_append]
            (repeat' (first | refine X.rq ?_ | (refine X.rc ?_ ?_ <;> intro hc <;> first | (exfalso; omega) | skip)))
            refine K.l_call (Fx.cal rfl) rfl haw (K.pp [] rfl) rfl ?_
            rintro u h5 H' le5 ⟨rfl, rfl⟩
            simp only [List.nil_append]
            have le05 := le04.trans le5
            (repeat' (first | refine X.rq ?_ | (refine X.rc ?_ ?_ <;> intro hc <;> first | (exfalso; omega) | skip)))
            refine K.AT.sel [0, 0, 0] rfl ?_
            refine K.done (by first | exact Or.inl rfl | exact Or.inr rfl) rfl (by first | exact K.Base.le.refl _ | assumption) (H' := []) rfl ⟨rfl, rfl⟩
end Go.Proofs.Ytmkhejdamjibgaa.Rw
