/-
  What stands twice behind one another stands once: slices.Compact at numbers, in the row itself. Conditions: each theorem's own.
-/
import Derived.Test.YtmkhejdamjibgaaEk

namespace Go.K
set_option linter.unusedVariables false
section
variable {P : Program} {n : Nat} {E : Env} {h : Base} {t ty : TypeId} {ps : String} {af : Array Edge} {x : Operand}
variable {Q : Exit → Act → World → Prop} {H : List Asrt} {ops : Array Oper} {rest : List Oper}
/-- Elements of one cell are cleared. -/
theorem l_clearN {e b o m c : Nat} {T : TypeId} {fz : Nat × Nat} {z z0 : Value} {pre cs post : List Value} (hu : P.underlying t = some (.slice e)) (hz : zrOf P e = some z) (hzs : z.cells = #[z0]) (h1 : oneCell z0 = true) (hx : lkO E x = some (.slice (some ⟨b, o, none⟩) m c))
    (h0 : 0 < m) (hl : m = cs.length) (ho : pre.length = o) (hf : Free fz (o + m)) (hk : WL P n ops Q rest E h (blkF b T (pre ++ List.replicate m z0 ++ post) fz :: H)) :
    WL P n ops Q (⟨none, .call ⟨.builtin .clear, #[x], #[t]⟩, ty, ps, af, none⟩ :: rest) E h (blkF b T (pre ++ cs ++ post) fz :: H) :=
  ⟨fun ac w fa ok => wpList_plain rfl fun KK hK => by
    subst ho
    obtain ⟨m, rfl⟩ : ∃ k, m = k + 1 := ⟨m - 1, by omega⟩
    obtain ⟨w', e1, ok'⟩ := Ok.storesF (P := P) (List.replicate (m + 1) z0) pre cs post w (by rw [List.length_replicate]; exact hl) (fun u hu => by rw [(List.mem_replicate.1 hu).2]; exact h1) (by rw [List.length_replicate]; exact hf) ok
    have e2 : (storeCells ⟨b, pre.length, none⟩ (List.replicate (m + 1) z0)).run P w = .ok () w' := by rw [storeCells_at, Nat.add_zero]; exact e1
    have hzc : (Builtin.zeroCells z.cells (m + 1)).toList = List.replicate (m + 1) z0 := by
      rw [hzs]
      simp only [Builtin.zeroCells, Array.toList_map, Array.toList_range]
      refine List.ext_getElem? fun i => ?_
      rw [List.getElem?_map, List.getElem?_replicate]
      by_cases hi : i < m + 1
      · rw [List.getElem?_range (by simpa using hi), if_pos hi]
        simp [Nat.mod_one]
      · rw [List.getElem?_eq_none (by simpa using hi), if_neg hi]; rfl
    unfold Oper.wp
    have : (execOp ac.eval ⟨none, .call ⟨.builtin .clear, #[x], #[t]⟩, ty, ps, af, none⟩).run P w = .ok (.value (.tuple #[])) w' := by
      rw [show (#[x] : Array Operand) = [x].toArray from rfl, run_builtin (vals := [.slice (some ⟨b, pre.length, none⟩) (m + 1) c]) fa (by simp [evArgs, hx])]
      simp [builtin, Builtin.clear_, run_underlying hu, run_zero hz, hzc, e2]
    rw [this, Oper.upon_value]
    exact hK _ _ (hk.run _ _ fa ok')⟩
theorem Ok.roomBuf {T s m cap j : Nat} {a : Option Nat} {cs : List Value} {w : World} (hj : H[j]? = some (bufA T s a m cap cs)) (ok : Ok h H w) : m ≤ cap := by
  have := ok.sat.own _ (List.mem_of_getElem? hj)
  cases a with
  | none => obtain ⟨e, _, _⟩ := this; omega
  | some b => obtain ⟨_, _, _, _, _, g, _⟩ := this; exact g
theorem l_storeI {b m cap i o T : Nat} {a v : Value} {y : Operand} {es : List (List Value)} (j : Nat) (hj : H[j]? = some (bufA T 1 (some b) m cap es.flatten)) (hs : szOf P t = some 1) (hx : lkO E x = some (.pointer (some ⟨b, o, none⟩))) (ho : o = i) (hy : lkO E y = some v) (hv : oneCell v = true)
    (hz : ∀ e ∈ es, e.length = 1) (hi : es[i]? = some [a]) (hk : WL P n ops Q rest E h (H.set j (bufA T 1 (some b) m cap (es.set i [v]).flatten))) :
    WL P n ops Q (⟨none, .store t x y, ty, ps, af, none⟩ :: rest) E h H :=
  l_storePart1 (i := i) (q := 0) (c := [a]) j hj hs (by rw [hx, ho, Nat.mul_one, Nat.add_zero]) hy hv hz hi (Nat.zero_lt_one) hk
theorem WC.roomBuf {cd : Code} {T s m cap : Nat} {a : Option Nat} {cs : List Value} (j : Nat) (hj : H[j]? = some (bufA T s a m cap cs)) (hk : m ≤ cap → WC P n cd Q E h H) : WC P n cd Q E h H :=
  ⟨fun ac w fa ok => (hk (Ok.roomBuf hj ok)).run _ w fa ok⟩
end
end Go.K
namespace Go.Proofs.Ytmkhejdamjibgaa.Rw
open Go Go.K Go.Proofs Go.Proofs.Ytmkhejdamjibgaa
set_option linter.unusedVariables false
set_option linter.unusedSimpArgs false
set_option maxRecDepth 10000

section
variable {P : Program} {n : Nat} {Q : Exit → Act → World → Prop} {E : Env} {h : Base} {H : List Asrt}
theorem AT.freezeRowE {q : Exit} {T sz m : Nat} {a : Option Nat} {cap : Nat} {cs : List Value} (es : List (List Value)) (hm : m = es.length) (hc : cs = es.flatten) (hz : ∀ e ∈ es, e.length = sz) (hk : ∀ h', h.le h' → SL h' sz (bufV a m cap) es → AT P n Q q E h' H) : AT P n Q q E h (bufA T sz a m cap cs :: H) := by
  subst hm; subst hc
  exact K.AT.freezeRow hz fun h' le hs _ => hk h' le hs
end
/-- Numbers, each once, rising. -/
structure Once (p q : List Int) : Prop where
  rise : p.Pairwise fun x y => x < y
  mem : ∀ x, x ∈ p ↔ x ∈ q
theorem Once.same {p q : List Int} {x : Int} (h : Once p q) (hx : x ∈ q) : Once p (q ++ [x]) :=
  ⟨h.rise, fun y => by
    rw [h.mem y, List.mem_append, List.mem_singleton]
    exact ⟨.inl, fun e => e.elim id fun e => by rw [e]; exact hx⟩⟩
theorem Once.more {p q : List Int} {x : Int} (h : Once p q) (hx : ∀ y ∈ q, y < x) : Once (p ++ [x]) (q ++ [x]) :=
  ⟨List.pairwise_append.2 ⟨h.rise, List.pairwise_singleton _ _, fun y hy z hz => by
    rw [List.mem_singleton.1 hz]
    exact hx y ((h.mem y).1 hy)⟩, fun y => by rw [List.mem_append, List.mem_append, h.mem y]⟩
theorem sorted_lt {l : List Int} (hs : l.Pairwise fun x y => x ≤ y) {j : Nat} {x y : Int} (hj : 1 ≤ j) (hx : l[j]? = some x) (hy : l[j - 1]? = some y) (hne : x ≠ y) : ∀ z ∈ l.take j, z < x := fun z hz => by
  obtain ⟨i, hi⟩ := List.mem_iff_getElem?.1 hz
  rw [List.getElem?_take] at hi
  split at hi
  · obtain ⟨i1, rfl⟩ := List.getElem?_eq_some_iff.1 hi
    obtain ⟨j1, rfl⟩ := List.getElem?_eq_some_iff.1 hx
    obtain ⟨j2, rfl⟩ := List.getElem?_eq_some_iff.1 hy
    have h1 := List.pairwise_iff_getElem.1 hs (j - 1) j j2 j1 (by omega)
    rcases Nat.lt_or_ge i (j - 1) with h2 | h2
    · have := List.pairwise_iff_getElem.1 hs i (j - 1) i1 j2 h2
      omega
    · obtain rfl : i = j - 1 := by omega
      omega
  · cases hi
theorem take_at {l : List Int} {j : Nat} {x : Int} (hx : l[j]? = some x) : l.take (j + 1) = l.take j ++ [x] := by
  obtain ⟨j1, rfl⟩ := List.getElem?_eq_some_iff.1 hx
  exact List.take_succ_eq_append_getElem j1
theorem mem_take {l : List Int} {j : Nat} {x : Int} (hj : 1 ≤ j) (hx : l[j - 1]? = some x) : x ∈ l.take j :=
  List.mem_iff_getElem?.2 ⟨j - 1, by rw [List.getElem?_take, if_pos (by omega)]; exact hx⟩
theorem cel_I {h : Base} {K : List Asrt} {T b m cap j o : Nat} {l : List Int} {x : Int} (i : Nat) (hi : K[i]? = some (bufA T 1 (some b) m cap (rowI l).flatten)) (hx : l[j]? = some x) (ho : o = j) : Cel h K b o (iV x) := by
  have := Go.K.cel_rowZ (h := h) (q := 0) (u := iV x) i hi (rowI_one l) (rowI_at hx) rfl
  rw [Nat.mul_one, Nat.add_zero] at this
  rw [ho]; exact this
structure CmS where
  k2 : Nat
  kk : Nat
  c : List Int
set_option maxHeartbeats 4000000 in
theorem CompactI (h : Base) (a : Option Nat) (k : Nat) (l : List Int) (hs : l.Pairwise fun x y => x ≤ y) (hl : l.length ≤ 17592186044415) :
    Tr Try.prog 17 [bufV a l.length k] h [bufI a k l] (fun u h' H' => H' = [] ∧ h.le h' ∧ ∃ p, SL h' 1 u (rowI p) ∧ Once p l) := by
  refine K.enter Try.func17 rfl (Nat.le_of_ble_eq_true rfl) (fun F => ?_)
  simp only [List.nil_append, List.cons_append]
  by_cases h2 : l.length < 2
  · have ho : Once l l := by
      refine ⟨?_, fun x => Iff.rfl⟩
      match l, h2 with
      | [], _ => exact .nil
      | [x], _ => exact List.pairwise_singleton _ _
    (repeat' (first | refine X.rq ?_ | (refine X.rc ?_ ?_ <;> intro hc <;> first | (exfalso; omega) | skip)))
    refine AT.freezeRowE (rowI l) (rowI_len l).symm rfl (rowI_one l) (fun h2 le2 hsl => ?_)
    refine K.done (by first | exact Or.inl rfl | exact Or.inr rfl) rfl (by first | exact K.Base.le.refl _ | assumption) (H' := []) rfl ⟨rfl, le2, l, hsl, ho⟩
  · have hs := fun (_ : Unit) => hs
    (repeat' (first | refine X.rq ?_ | (refine X.rc ?_ ?_ <;> intro hc <;> first | (exfalso; omega) | skip)))
    refine K.WC.roomBuf 0 rfl (fun hroom => ?_)
    refine K.WC.someBuf 0 rfl (by omega) (fun b hb => ?_)
    subst hb
    refine K.c_loop (σ := Nat) (fun j => [(0, bufV (some b) l.length k), (3, .int .i64 j)]) (fun _ => h) (fun _ => bufI (some b) k l :: F) (fun j => 1 ≤ j ∧ j ≤ l.length ∧ Once (l.take j) (l.take j)) (fun j => l.length - j) 1
      ⟨Nat.le_refl _, by omega, ⟨by
        match l with
        | [] => exact .nil
        | x :: r => exact List.pairwise_singleton _ _, fun x => Iff.rfl⟩⟩ (by repeat (first | exact K.Sub.nil _ | refine K.Sub.cons rfl ?_)) rfl rfl ?_
    rintro j ⟨hj1, hj, hon⟩ KL hKL
    by_cases hjl : j < l.length
    · have hx1 : l[j]? = some l[j] := List.getElem?_eq_getElem hjl
      have hy1 : l[j - 1]? = some (l[j - 1]'(by omega)) := List.getElem?_eq_getElem (by omega)
      generalize l[j] = x at hx1
      generalize l[j - 1]'(by omega) = y at hy1
      have hcx := cel_I (h := h) (K := [bufI (some b) k l]) 0 rfl hx1 rfl
      have hcy := cel_I (h := h) (K := [bufI (some b) k l]) 0 rfl hy1 rfl
      (repeat' (first | refine X.rq ?_ | (refine X.rc ?_ ?_ <;> intro hc <;> first | (exfalso; omega) | skip)))
      refine X.draw ([bufI (some b) k l]) [] (.pu 0 (.pu 1 (.pu 2 (.pu 4 (.pu 5 (.pu 6 (.pu 7 (.st 3 (.st 8 (.pu 9 .nil)))))))))) ?_
      refine K.d_pu rfl (fun _ _ => X.mv) rfl ?_
      refine K.d_pu rfl (fun _ _ => X.mv) rfl ?_
      refine K.d_pu rfl (fun _ _ => X.ia) rfl ?_
      refine K.d_pu rfl (fun _ _ => X.mv) rfl ?_
      refine K.d_pu rfl (fun _ _ => X.mv) rfl ?_
      refine K.d_pu rfl (fun _ _ => X.bsub) rfl ?_
      rw [show ((j : Nat) : Int) - 1 = ((j - 1 : Nat) : Int) by omega]
      refine K.d_pu rfl (fun _ _ => X.ia) rfl ?_
      refine K.d_st rfl (K.p_load (Fx.agg rfl) rfl hcx) rfl ?_
      refine K.d_st rfl (K.p_load (Fx.agg rfl) rfl hcy) rfl ?_
      refine K.d_pu rfl (fun _ _ => X.beql) rfl ?_
      refine K.d_nil ?_
      by_cases hxy : x = y
      · have hon2 : Once (l.take j) (l.take (j + 1)) := by
          rw [take_at hx1]
          exact hon.same (mem_take hj1 (by rw [hxy]; exact hy1))
        (repeat' (first | refine X.rq ?_ | (refine X.rc ?_ ?_ <;> intro hc <;> first | (exfalso; omega) | skip)))
        refine K.s_pure (K.p_slice (k2 := .i64) (l := j) (u := l.length) (ao := some ⟨b, j, none⟩) (Fx.und rfl) (Fx.sz rfl) rfl ⟨(j : Int), rfl, rfl⟩ rfl (by omega) (by omega) (by rw [if_neg (by omega)]; simp)) rfl ?_
        (repeat' (first | refine X.rq ?_ | (refine X.rc ?_ ?_ <;> intro hc <;> first | (exfalso; omega) | skip)))
        refine K.c_loop (σ := CmS) (fun q => [(0, bufV (some b) l.length k), (3, .int .i64 q.kk), (4, .slice (some ⟨b, j, none⟩) (l.length - j) (k - j)), (5, .int .i64 q.k2)]) (fun _ => h) (fun q => bufA 3 1 (some b) l.length k (rowI q.c).flatten :: F)
          (fun q => 1 ≤ q.k2 ∧ q.k2 ≤ l.length - j ∧ q.c.length = l.length ∧ 1 ≤ q.kk ∧ q.kk ≤ j + q.k2 - 1 ∧ Once (q.c.take q.kk) (l.take (j + q.k2)) ∧ ∀ i, j + q.k2 - 1 ≤ i → q.c[i]? = l[i]?) (fun q => l.length - q.k2) ⟨1, j, l⟩
          ⟨Nat.le_refl _, by dsimp only; omega, rfl, hj1, by dsimp only; omega, hon2, fun i _ => rfl⟩ (by repeat (first | exact K.Sub.nil _ | refine K.Sub.cons rfl ?_)) rfl rfl ?_
        clear hcx hcy hon hon2 hx1 hy1 hxy
        rintro ⟨k2, kk, c⟩ ⟨hk1, hk2, hcl, hkk1, hkk, hon, hsame⟩ KM hKM
        dsimp only at hk1 hk2 hcl hkk1 hkk hon hsame ⊢
        have hsame := fun (_ : Unit) => hsame
        by_cases hkl : k2 < l.length - j
        · have hx1 : l[j + k2]? = some (l[j + k2]'(by omega)) := List.getElem?_eq_getElem (by omega)
          have hy1 : l[j + k2 - 1]? = some (l[j + k2 - 1]'(by omega)) := List.getElem?_eq_getElem (by omega)
          generalize l[j + k2]'(by omega) = x at hx1
          generalize l[j + k2 - 1]'(by omega) = y at hy1
          have hcx := cel_I (h := h) (K := [bufA 3 1 (some b) l.length k (rowI c).flatten]) (o := j + ((k2 : Nat) : Int).toNat * 1) 0 rfl ((hsame () _ (by omega)).trans hx1) (by rw [Int.toNat_natCast]; omega)
          have hcy := cel_I (h := h) (K := [bufA 3 1 (some b) l.length k (rowI c).flatten]) (o := j + ((k2 - 1 : Nat) : Int).toNat * 1) 0 rfl ((hsame () _ (by omega)).trans hy1) (by rw [Int.toNat_natCast]; omega)
          (repeat' (first | refine X.rq ?_ | (refine X.rc ?_ ?_ <;> intro hc <;> first | (exfalso; omega) | skip)))
          refine X.draw ([bufA 3 1 (some b) l.length k (rowI c).flatten]) [] (.pu 0 (.pu 1 (.pu 2 (.pu 4 (.pu 5 (.pu 6 (.pu 7 (.st 3 (.st 8 (.pu 9 .nil)))))))))) ?_
          refine K.d_pu rfl (fun _ _ => X.mv) rfl ?_
          refine K.d_pu rfl (fun _ _ => X.mv) rfl ?_
          refine K.d_pu rfl (fun _ _ => X.ia) rfl ?_
          refine K.d_pu rfl (fun _ _ => X.mv) rfl ?_
          refine K.d_pu rfl (fun _ _ => X.mv) rfl ?_
          refine K.d_pu rfl (fun _ _ => X.bsub) rfl ?_
          rw [show ((k2 : Nat) : Int) - 1 = ((k2 - 1 : Nat) : Int) by omega]
          refine K.d_pu rfl (fun _ _ => X.ia) rfl ?_
          refine K.d_st rfl (K.p_load (Fx.agg rfl) rfl hcx) rfl ?_
          refine K.d_st rfl (K.p_load (Fx.agg rfl) rfl hcy) rfl ?_
          refine K.d_pu rfl (fun _ _ => X.bneq) rfl ?_
          refine K.d_nil ?_
          have hmx := mem_take (by omega : 1 ≤ j + k2) hy1
          by_cases hxy : x = y
          · have hon2 : Once (c.take kk) (l.take (j + k2 + 1)) := by
              rw [take_at hx1]
              exact hon.same (by rw [hxy]; exact hmx)
            (repeat' (first | refine X.rq ?_ | (refine X.rc ?_ ?_ <;> intro hc <;> first | (exfalso; omega) | skip)))
            refine K.a_round hKM ⟨k2 + 1, kk, c⟩ ⟨by dsimp only; omega, by dsimp only; omega, hcl, hkk1, by dsimp only; omega, hon2, fun i hi => hsame () i (by dsimp only at hi; omega)⟩ (by repeat (first | exact K.Sub.nil _ | refine K.Sub.cons rfl ?_)) rfl rfl (by dsimp only; omega)
          · have hz1 : c[kk]? = some (c[kk]'(by omega)) := List.getElem?_eq_getElem (by omega)
            generalize c[kk]'(by omega) = z at hz1
            have hst : (c.set kk x).take (kk + 1) = c.take kk ++ [x] := by
              rw [List.take_succ_eq_append_getElem (by rw [List.length_set]; omega), List.take_set_of_le (Nat.le_refl _), List.getElem_set_self]
            have hon2 : Once ((c.set kk x).take (kk + 1)) (l.take (j + k2 + 1)) := by
              rw [take_at hx1, hst]
              exact hon.more (sorted_lt (hs ()) (by omega) hx1 hy1 hxy)
            (repeat' (first | refine X.rq ?_ | (refine X.rc ?_ ?_ <;> intro hc <;> first | (exfalso; omega) | skip)))
            refine K.s_pure (K.p_load (Fx.agg rfl) rfl (K.Cel.sub hcx fun A hA => by rw [List.mem_singleton] at hA; rw [hA]; exact List.mem_cons_self)) rfl ?_
            (repeat' (first | refine X.rq ?_ | (refine X.rc ?_ ?_ <;> intro hc <;> first | (exfalso; omega) | skip)))
            refine K.l_storeI (i := kk) (a := iV z) 0 rfl (Fx.sz rfl) rfl rfl rfl rfl (rowI_one c) (rowI_at hz1) ?_
            simp only [List.set_cons_zero, List.set_cons_succ, List.eraseIdx_cons_zero, List.eraseIdx_cons_succ, List.cons_append, List.nil_append]
            rw [rowI_set]
            (repeat' (first | refine X.rq ?_ | (refine X.rc ?_ ?_ <;> intro hc <;> first | (exfalso; omega) | skip)))
            refine K.a_round hKM ⟨k2 + 1, kk + 1, c.set kk x⟩ ⟨by dsimp only; omega, by dsimp only; omega, by dsimp only; rw [List.length_set]; exact hcl, by dsimp only; omega, by dsimp only; omega, hon2, fun i hi => ?_⟩ (by repeat (first | exact K.Sub.nil _ | refine K.Sub.cons rfl ?_)) rfl rfl (by dsimp only; omega)
            dsimp only at hi ⊢
            rw [List.getElem?_set_ne (by omega)]
            exact hsame () i (by omega)
        · have hon2 : Once (c.take kk) l := by
            rw [show l.take (j + k2) = l from List.take_of_length_le (by omega)] at hon
            exact hon
          clear hsame hon
          (repeat' (first | refine X.rq ?_ | (refine X.rc ?_ ?_ <;> intro hc <;> first | (exfalso; omega) | skip)))
          refine K.s_pure (K.p_slice (k2 := .i64) (l := kk) (u := l.length) (ao := some ⟨b, kk, none⟩) (Fx.und rfl) (Fx.sz rfl) rfl ⟨(kk : Int), rfl, rfl⟩ rfl (by omega) (by omega) (by rw [if_neg (by omega)]; simp)) rfl ?_
          refine K.WL.openBuf (fun sp fz g2 g3 g4 g5 g6 => ?_)
          have hct : (c.take kk).length = kk := by rw [List.length_take]; omega
          rw [show (rowI c).flatten = (rowI (c.take kk)).flatten ++ (rowI (c.drop kk)).flatten from by rw [← rowI_app, List.take_append_drop]]
          rw [rowI_map, List.length_map] at g2
          rw [List.length_append, rowI_map, List.length_map] at g3
          refine K.l_clearN (Fx.und rfl) (Fx.zr rfl) rfl rfl rfl (by omega) (by rw [rowI_map, List.length_map, List.length_drop]; omega) (by rw [rowI_map, List.length_map]; exact hct) (fun o ho => g6 o (by omega)) ?_
          have hc2 : (rowI (c.take kk)).flatten ++ List.replicate (l.length - kk) (Value.int .i64 0) = (rowI (c.take kk ++ List.replicate (l.length - kk) 0)).flatten := by
            rw [rowI_app, rowI_map (List.replicate _ _), List.map_replicate]; rfl
          rw [hc2]
          have hl2 : (c.take kk ++ List.replicate (l.length - kk) (0 : Int)).length = l.length := by
            rw [List.length_append, List.length_replicate, hct]; omega
          refine K.WL.shut (m := l.length) (cap := k) (by rw [rowI_map, List.length_map, hl2]; omega) (by rw [List.length_append, rowI_map, List.length_map, hl2]; omega) (by omega) g5 g6 ?_
          (repeat' (first | refine X.rq ?_ | (refine X.rc ?_ ?_ <;> intro hc <;> first | (exfalso; omega) | skip)))
          refine K.s_pure (K.p_sliceU (Fx.und rfl) (Fx.sz rfl) rfl rfl rfl (show kk ≤ k by omega)) rfl ?_
          (repeat' (first | refine X.rq ?_ | (refine X.rc ?_ ?_ <;> intro hc <;> first | (exfalso; omega) | skip)))
          refine AT.freezeRowE (rowI (c.take kk ++ List.replicate (l.length - kk) 0)) (by rw [rowI_len, hl2]) rfl (rowI_one _) (fun h2 le2 hsl => ?_)
          have hsl := K.SL.take (q := kk) hsl (by rw [rowI_len, hl2]; omega)
          rw [show (rowI (c.take kk ++ List.replicate (l.length - kk) 0)).take kk = rowI (c.take kk) from by
            rw [rowI, ← List.map_take, List.take_left' hct]; rfl] at hsl
          refine K.done (by first | exact Or.inl rfl | exact Or.inr rfl) rfl (by first | exact K.Base.le.refl _ | assumption) (H' := []) rfl ⟨rfl, le2, c.take kk, hsl, hon2⟩
      · have hon2 : Once (l.take (j + 1)) (l.take (j + 1)) := by
          rw [take_at hx1]
          exact hon.more (sorted_lt (hs ()) hj1 hx1 hy1 hxy)
        (repeat' (first | refine X.rq ?_ | (refine X.rc ?_ ?_ <;> intro hc <;> first | (exfalso; omega) | skip)))
        refine K.a_round hKL (j + 1) ⟨by omega, by omega, hon2⟩ (by repeat (first | exact K.Sub.nil _ | refine K.Sub.cons rfl ?_)) rfl rfl (by omega)
    · obtain rfl : j = l.length := by omega
      rw [List.take_length] at hon
      (repeat' (first | refine X.rq ?_ | (refine X.rc ?_ ?_ <;> intro hc <;> first | (exfalso; omega) | skip)))
      refine AT.freezeRowE (rowI l) (rowI_len l).symm rfl (rowI_one l) (fun h2 le2 hsl => ?_)
      refine K.done (by first | exact Or.inl rfl | exact Or.inr rfl) rfl (by first | exact K.Base.le.refl _ | assumption) (H' := []) rfl ⟨rfl, le2, l, hsl, hon⟩
end Go.Proofs.Ytmkhejdamjibgaa.Rw
