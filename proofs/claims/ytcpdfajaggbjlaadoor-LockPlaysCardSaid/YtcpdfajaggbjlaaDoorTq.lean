/-
  Pairs compared for being alike, and the row of pairs without what stands twice behind one another. Conditions: each theorem's own.
-/
import Derived.Test.YtcpdfajaggbjlaaDoorTn

namespace Go.K
set_option linter.unusedVariables false
section
variable {P : Program} {n : Nat} {E : Env} {h : Base} {K : List Asrt} {t t' e ty : TypeId} {ps : String} {af : Array Edge} {x y : Operand} {dst : Option Nat} {g : Option (Nat × Bool)}
theorem run_equal_pair (w : World) (a b c d : Int) (hu : P.underlying t = some (.array 2 e)) (he : P.underlying e = some (.int .u32)) (hz : szOf P e = some 1) (hg : aggOf P e = some false) :
    (Op.equalIn 10000 t (.agg #[.int .u32 a, .int .u32 b]) (.agg #[.int .u32 c, .int .u32 d])).run P w = .ok (decide (a = c ∧ b = d)) w := by
  have p1 : (part e #[.int .u32 a, .int .u32 b] 0).run P w = .ok (.int .u32 a) w := by simp [part, run_isAgg hg]
  have p2 : (part e #[.int .u32 a, .int .u32 b] 1).run P w = .ok (.int .u32 b) w := by simp [part, run_isAgg hg]
  have p3 : (part e #[.int .u32 c, .int .u32 d] 0).run P w = .ok (.int .u32 c) w := by simp [part, run_isAgg hg]
  have p4 : (part e #[.int .u32 c, .int .u32 d] 1).run P w = .ok (.int .u32 d) w := by simp [part, run_isAgg hg]
  have q1 : (Op.equalIn 9999 e (.int .u32 a) (.int .u32 c)).run P w = .ok (decide (a = c)) w := run_leaf (P := P) w 9998 he (by simp [leafV])
  have q2 : (Op.equalIn 9999 e (.int .u32 b) (.int .u32 d)).run P w = .ok (decide (b = d)) w := run_leaf (P := P) w 9998 he (by simp [leafV])
  unfold Op.equalIn
  simp only [Sem.run_bind, run_underlying hu, Result.andThen_ok, run_sizeOf hz]
  simp only [Std.Legacy.Range.forIn_eq_forIn_range', Std.Legacy.Range.size, Nat.sub_zero, Nat.add_sub_cancel, Nat.div_one, List.range', List.forIn_cons, List.forIn_nil, Sem.run_bind, Nat.zero_mul, Nat.zero_add, Nat.one_mul, p1, p3, q1, Result.andThen_ok]
  by_cases h1 : a = c
  · subst h1
    by_cases h2 : b = d
    · subst h2
      simp [p2, q2]
    · simp [p2, p4, q2, h2]
  · simp [h1]
theorem p_eqW {a b c d : Int} (hu : P.underlying t = some (.array 2 e)) (he : P.underlying e = some (.int .u32)) (hz : szOf P e = some 1) (hg : aggOf P e = some false) (hd : P.eqGuardType P.depth t = false) (hx : lkO E x = some (.agg #[.int .u32 a, .int .u32 b])) (hy : lkO E y = some (.agg #[.int .u32 c, .int .u32 d])) :
    Pu P n E h K ⟨dst, .binOp .eql t x y t', ty, ps, af, g⟩ (.bool (decide (a = c ∧ b = d))) :=
  ⟨fun s w fa _ => by
    simp only [execOp, fa.eval hx, fa.eval hy, Sem.run_bind, run_eqGuard_agg w .eql t x y _ _ hd, Result.andThen_ok, run_eql_struct, run_equal_pair w a b c d hu he hz hg, Sem.run_pure]⟩
theorem p_neW {a b c d : Int} (hu : P.underlying t = some (.array 2 e)) (he : P.underlying e = some (.int .u32)) (hz : szOf P e = some 1) (hg : aggOf P e = some false) (hd : P.eqGuardType P.depth t = false) (hx : lkO E x = some (.agg #[.int .u32 a, .int .u32 b])) (hy : lkO E y = some (.agg #[.int .u32 c, .int .u32 d])) :
    Pu P n E h K ⟨dst, .binOp .neq t x y t', ty, ps, af, g⟩ (.bool (!decide (a = c ∧ b = d))) :=
  ⟨fun s w fa _ => by
    simp only [execOp, fa.eval hx, fa.eval hy, Sem.run_bind, run_eqGuard_agg w .neq t x y _ _ hd, Result.andThen_ok, run_neq_struct, run_equal_pair w a b c d hu he hz hg, Sem.run_pure]⟩
theorem WC.roomBuf {Q : Exit → Act → World → Prop} {H : List Asrt} {cd : Code} {T s m cap : Nat} {a : Option Nat} {cs : List Value} (j : Nat) (hj : H[j]? = some (bufA T s a m cap cs)) (hk : m ≤ cap → WC P n cd Q E h H) : WC P n cd Q E h H :=
  ⟨fun ac w fa ok => (hk (Ok.roomBuf hj ok)).run _ w fa ok⟩
end
end Go.K
namespace Go.Proofs.YtcpdfajaggbjlaaDoor.Lk
open Go Go.K Go.Proofs Go.Proofs.YtcpdfajaggbjlaaDoor
set_option linter.unusedVariables false
set_option linter.unusedSimpArgs false
set_option maxRecDepth 10000

/-- Who waits, and for whom. -/
abbrev PW : Type := Nat × Nat
abbrev cW (x : PW) : List Value := [.int .u32 x.1, .int .u32 x.2]
abbrev bufW (a : Option Nat) (k : Nat) (l : List PW) : Asrt := bufA 47 2 a l.length k (l.map cW).flatten
def ltW (x y : PW) : Prop := x.1 < y.1 ∨ x.1 = y.1 ∧ x.2 < y.2
instance (x y : PW) : Decidable (ltW x y) := by unfold ltW; infer_instance
theorem pw_ext {x y : PW} (h1 : x.1 = y.1) (h2 : x.2 = y.2) : x = y := by cases x; cases y; cases h1; cases h2; rfl
theorem ltW_irr (x : PW) : ¬ltW x x := by unfold ltW; omega
theorem ltW_trans {x y z : PW} (h1 : ltW x y) (h2 : ltW y z) : ltW x z := by unfold ltW at *; omega
theorem ltW_tot {x y : PW} (h1 : ¬ltW x y) (h2 : x ≠ y) : ltW y x := by
  have : ¬(x.1 = y.1 ∧ x.2 = y.2) := fun e => h2 (pw_ext e.1 e.2)
  unfold ltW at *
  omega
theorem leW_trans {x y z : PW} (h1 : ¬ltW y x) (h2 : ¬ltW z y) : ¬ltW z x := by unfold ltW at *; omega
theorem lelt_W {x y z : PW} (h1 : ¬ltW y x) (h2 : ltW y z) : ltW x z := by unfold ltW at *; omega
theorem two (l : List PW) : ∀ e ∈ l.map cW, e.length = 2 := fun e he => by
  obtain ⟨x, _, rfl⟩ := List.mem_map.1 he
  rfl
theorem two_len (l : List PW) : (l.map cW).flatten.length = l.length * 2 := by rw [K.flatten_len (s := 2) _ (two l), List.length_map]
theorem int_pw {x y : PW} : decide ((x.1 : Int) = (y.1 : Int) ∧ (x.2 : Int) = (y.2 : Int)) = decide (x = y) := by
  rw [decide_eq_decide]
  exact ⟨fun e => pw_ext (by omega) (by omega), fun e => by rw [e]; exact ⟨rfl, rfl⟩⟩
theorem guardW : Tryd.prog.eqGuardType Tryd.prog.depth 47 = false := by kernel_rfl
section
variable {n : Nat} {E : Env} {h : Base} {KK : List Asrt} {t' ty : TypeId} {ps : String} {af : Array Edge} {a b : Operand} {dst : Option Nat} {g : Option (Nat × Bool)}
theorem eqP (x y : PW) (hx : lkO E a = some (.agg (cW x).toArray)) (hy : lkO E b = some (.agg (cW y).toArray)) : Pu Tryd.prog n E h KK ⟨dst, .binOp .eql 47 a b t', ty, ps, af, g⟩ (.bool (decide (x = y))) := by
  rw [← int_pw]
  exact K.p_eqW (Fx.und rfl) (Fx.und rfl) (Fx.sz rfl) (Fx.agg rfl) guardW hx hy
theorem neP (x y : PW) (hx : lkO E a = some (.agg (cW x).toArray)) (hy : lkO E b = some (.agg (cW y).toArray)) : Pu Tryd.prog n E h KK ⟨dst, .binOp .neq 47 a b t', ty, ps, af, g⟩ (.bool (!decide (x = y))) := by
  rw [← int_pw]
  exact K.p_neW (Fx.und rfl) (Fx.und rfl) (Fx.sz rfl) (Fx.agg rfl) guardW hx hy
end
theorem cel_W {h : Base} {KK : List Asrt} {T b m cap j o : Nat} {l : List PW} {x : PW} (i : Nat) (hi : KK[i]? = some (bufA T 2 (some b) m cap (l.map cW).flatten)) (hx : l[j]? = some x) (ho : o = j * 2) : Cels h KK b o (cW x) := by
  rw [ho]
  exact K.cels_rowZ i hi (two l) (by rw [List.getElem?_map, hx]; rfl)
/-- Pairs, each once, rising. -/
structure OnceW (p q : List PW) : Prop where
  rise : p.Pairwise ltW
  mem : ∀ x, x ∈ p ↔ x ∈ q
theorem OnceW.same {p q : List PW} {x : PW} (h : OnceW p q) (hx : x ∈ q) : OnceW p (q ++ [x]) :=
  ⟨h.rise, fun y => by
    rw [h.mem y, List.mem_append, List.mem_singleton]
    exact ⟨.inl, fun e => e.elim id fun e => by rw [e]; exact hx⟩⟩
theorem OnceW.more {p q : List PW} {x : PW} (h : OnceW p q) (hx : ∀ y ∈ q, ltW y x) : OnceW (p ++ [x]) (q ++ [x]) :=
  ⟨List.pairwise_append.2 ⟨h.rise, List.pairwise_singleton _ _, fun y hy z hz => by
    rw [List.mem_singleton.1 hz]
    exact hx y ((h.mem y).1 hy)⟩, fun y => by rw [List.mem_append, List.mem_append, h.mem y]⟩
theorem sorted_W {l : List PW} (hs : l.Pairwise fun x y => ¬ltW y x) {j : Nat} {x y : PW} (hj : 1 ≤ j) (hx : l[j]? = some x) (hy : l[j - 1]? = some y) (hne : x ≠ y) : ∀ z ∈ l.take j, ltW z x := fun z hz => by
  obtain ⟨i, hi⟩ := List.mem_iff_getElem?.1 hz
  rw [List.getElem?_take] at hi
  split at hi
  · obtain ⟨i1, rfl⟩ := List.getElem?_eq_some_iff.1 hi
    obtain ⟨j1, rfl⟩ := List.getElem?_eq_some_iff.1 hx
    obtain ⟨j2, rfl⟩ := List.getElem?_eq_some_iff.1 hy
    have h1 := ltW_tot (List.pairwise_iff_getElem.1 hs (j - 1) j j2 j1 (by omega)) hne
    rcases Nat.lt_or_ge i (j - 1) with h2 | h2
    · exact lelt_W (List.pairwise_iff_getElem.1 hs i (j - 1) i1 j2 h2) h1
    · obtain rfl : i = j - 1 := by omega
      exact h1
  · cases hi
theorem take_atW {l : List PW} {j : Nat} {x : PW} (hx : l[j]? = some x) : l.take (j + 1) = l.take j ++ [x] := by
  obtain ⟨j1, rfl⟩ := List.getElem?_eq_some_iff.1 hx
  exact List.take_succ_eq_append_getElem j1
theorem mem_takeW {l : List PW} {j : Nat} {x : PW} (hj : 1 ≤ j) (hx : l[j - 1]? = some x) : x ∈ l.take j :=
  List.mem_iff_getElem?.2 ⟨j - 1, by rw [List.getElem?_take, if_pos (by omega)]; exact hx⟩
structure CwS where
  k2 : Nat
  kk : Nat
  c : List PW
set_option maxHeartbeats 4000000 in
theorem CompactW (h : Base) (a : Option Nat) (k : Nat) (l : List PW) (hs : l.Pairwise fun x y => ¬ltW y x) (hl : l.length ≤ 17592186044415) :
    Tr Tryd.prog 36 [bufV a l.length k] h [bufW a k l] (fun u h' H' => h' = h ∧ ∃ p a' k', u = bufV a' p.length k' ∧ H' = [bufW a' k' p] ∧ OnceW p l) := by
  refine K.enter Tryd.func36 rfl (Nat.le_of_ble_eq_true rfl) (fun F => ?_)
  simp only [List.nil_append, List.cons_append]
  by_cases h2 : l.length < 2
  · have ho : OnceW l l := by
      refine ⟨?_, fun x => Iff.rfl⟩
      match l, h2 with
      | [], _ => exact .nil
      | [x], _ => exact List.pairwise_singleton _ _
    (repeat' (first | refine X.rq ?_ | (refine X.rc ?_ ?_ <;> intro hc <;> first | (exfalso; omega) | skip)))
    refine K.done (by first | exact Or.inl rfl | exact Or.inr rfl) rfl (by first | exact K.Base.le.refl _ | assumption) (H' := [bufW a k l]) rfl ⟨rfl, l, a, k, rfl, rfl, ho⟩
  · have hs := fun (_ : Unit) => hs
    (repeat' (first | refine X.rq ?_ | (refine X.rc ?_ ?_ <;> intro hc <;> first | (exfalso; omega) | skip)))
    refine K.WC.roomBuf 0 rfl (fun hroom => ?_)
    refine K.WC.someBuf 0 rfl (by omega) (fun b hb => ?_)
    subst hb
    refine K.c_loop (σ := Nat) (fun j => [(0, bufV (some b) l.length k), (3, .int .i64 j)]) (fun _ => h) (fun _ => bufW (some b) k l :: F) (fun j => 1 ≤ j ∧ j ≤ l.length ∧ OnceW (l.take j) (l.take j)) (fun j => l.length - j) 1
      ⟨Nat.le_refl _, by omega, ⟨by
        match l with
        | [] => exact .nil
        | x :: r => exact List.pairwise_singleton _ _, fun x => Iff.rfl⟩⟩ (by repeat (first | exact K.Sub.nil _ | refine K.Sub.cons rfl ?_)) rfl rfl ?_
    rintro j ⟨hj1, hj, hon⟩ KL hKL
    by_cases hjl : j < l.length
    · have hx1 : l[j]? = some l[j] := List.getElem?_eq_getElem hjl
      have hy1 : l[j - 1]? = some (l[j - 1]'(by omega)) := List.getElem?_eq_getElem (by omega)
      generalize l[j] = x at hx1
      generalize l[j - 1]'(by omega) = y at hy1
      have hcx := cel_W (h := h) (KK := [bufW (some b) k l]) (o := 0 + ((j : Nat) : Int).toNat * 2) 0 rfl hx1 (by rw [Int.toNat_natCast]; omega)
      have hcy := cel_W (h := h) (KK := [bufW (some b) k l]) (o := 0 + ((j - 1 : Nat) : Int).toNat * 2) 0 rfl hy1 (by rw [Int.toNat_natCast]; omega)
      (repeat' (first | refine X.rq ?_ | (refine X.rc ?_ ?_ <;> intro hc <;> first | (exfalso; omega) | skip)))
      refine X.draw ([bufW (some b) k l]) [] (.pu 0 (.pu 1 (.pu 2 (.pu 4 (.pu 5 (.pu 6 (.pu 7 (.st 3 (.st 8 (.pu 9 .nil)))))))))) ?_
      refine K.d_pu rfl (fun _ _ => X.mv) rfl ?_
      refine K.d_pu rfl (fun _ _ => X.mv) rfl ?_
      refine K.d_pu rfl (fun _ _ => X.ia) rfl ?_
      refine K.d_pu rfl (fun _ _ => X.mv) rfl ?_
      refine K.d_pu rfl (fun _ _ => X.mv) rfl ?_
      refine K.d_pu rfl (fun _ _ => X.bsub) rfl ?_
      rw [show ((j : Nat) : Int) - 1 = ((j - 1 : Nat) : Int) by omega]
      refine K.d_pu rfl (fun _ _ => X.ia) rfl ?_
      refine K.d_st rfl (K.p_loadN (vs := cW x) (Fx.agg rfl) (Fx.sz rfl) rfl hcx) rfl ?_
      refine K.d_st rfl (K.p_loadN (vs := cW y) (Fx.agg rfl) (Fx.sz rfl) rfl hcy) rfl ?_
      refine K.d_pu rfl (fun _ _ => eqP x y rfl rfl) rfl ?_
      refine K.d_nil ?_
      by_cases hxy : x = y
      · have hon2 : OnceW (l.take j) (l.take (j + 1)) := by
          rw [take_atW hx1]
          exact hon.same (mem_takeW hj1 (by rw [hxy]; exact hy1))
        rw [decide_eq_true hxy]
        (repeat' (first | refine X.rq ?_ | (refine X.rc ?_ ?_ <;> intro hc <;> first | (exfalso; omega) | skip)))
        refine K.s_pure (K.p_slice (k2 := .i64) (l := j) (u := l.length) (ao := some ⟨b, j * 2, none⟩) (Fx.und rfl) (Fx.sz rfl) rfl ⟨(j : Int), rfl, rfl⟩ rfl (by omega) (by omega) (by rw [if_neg (by omega)]; simp)) rfl ?_
        (repeat' (first | refine X.rq ?_ | (refine X.rc ?_ ?_ <;> intro hc <;> first | (exfalso; omega) | skip)))
        refine K.c_loop (σ := CwS) (fun q => [(0, bufV (some b) l.length k), (3, .int .i64 q.kk), (4, .slice (some ⟨b, j * 2, none⟩) (l.length - j) (k - j)), (5, .int .i64 q.k2)]) (fun _ => h) (fun q => bufA 47 2 (some b) l.length k (q.c.map cW).flatten :: F)
          (fun q => 1 ≤ q.k2 ∧ q.k2 ≤ l.length - j ∧ q.c.length = l.length ∧ 1 ≤ q.kk ∧ q.kk ≤ j + q.k2 - 1 ∧ OnceW (q.c.take q.kk) (l.take (j + q.k2)) ∧ ∀ i, j + q.k2 - 1 ≤ i → q.c[i]? = l[i]?) (fun q => l.length - q.k2) ⟨1, j, l⟩
          ⟨Nat.le_refl _, by dsimp only; omega, rfl, hj1, by dsimp only; omega, hon2, fun i _ => rfl⟩ (by repeat (first | exact K.Sub.nil _ | refine K.Sub.cons rfl ?_)) rfl rfl ?_
        clear hcx hcy hon hon2 hx1 hy1 hxy
        rintro ⟨k2, kk, c⟩ ⟨hk1, hk2, hcl, hkk1, hkk, hon, hsame⟩ KM hKM
        dsimp only at hk1 hk2 hcl hkk1 hkk hon hsame ⊢
        have hsame := fun (_ : Unit) => hsame
        by_cases hkl : k2 < l.length - j
        · have hx1 : l[j + k2]? = some (l[j + k2]'(by omega)) := List.getElem?_eq_getElem (by omega)
          have hy1 : l[j + k2 - 1]? = some (l[j + k2 - 1]'(by omega)) := List.getElem?_eq_getElem (by omega)
          generalize l[j + k2]'(by omega) = x at hx1
          generalize l[j + k2 - 1]'(by omega) = y at hy1
          have hcx := cel_W (h := h) (KK := [bufA 47 2 (some b) l.length k (c.map cW).flatten]) (o := j * 2 + ((k2 : Nat) : Int).toNat * 2) 0 rfl ((hsame () _ (by omega)).trans hx1) (by rw [Int.toNat_natCast]; omega)
          have hcy := cel_W (h := h) (KK := [bufA 47 2 (some b) l.length k (c.map cW).flatten]) (o := j * 2 + ((k2 - 1 : Nat) : Int).toNat * 2) 0 rfl ((hsame () _ (by omega)).trans hy1) (by rw [Int.toNat_natCast]; omega)
          (repeat' (first | refine X.rq ?_ | (refine X.rc ?_ ?_ <;> intro hc <;> first | (exfalso; omega) | skip)))
          refine X.draw ([bufA 47 2 (some b) l.length k (c.map cW).flatten]) [] (.pu 0 (.pu 1 (.pu 2 (.pu 4 (.pu 5 (.pu 6 (.pu 7 (.st 3 (.st 8 (.pu 9 .nil)))))))))) ?_
          refine K.d_pu rfl (fun _ _ => X.mv) rfl ?_
          refine K.d_pu rfl (fun _ _ => X.mv) rfl ?_
          refine K.d_pu rfl (fun _ _ => X.ia) rfl ?_
          refine K.d_pu rfl (fun _ _ => X.mv) rfl ?_
          refine K.d_pu rfl (fun _ _ => X.mv) rfl ?_
          refine K.d_pu rfl (fun _ _ => X.bsub) rfl ?_
          rw [show ((k2 : Nat) : Int) - 1 = ((k2 - 1 : Nat) : Int) by omega]
          refine K.d_pu rfl (fun _ _ => X.ia) rfl ?_
          refine K.d_st rfl (K.p_loadN (vs := cW x) (Fx.agg rfl) (Fx.sz rfl) rfl hcx) rfl ?_
          refine K.d_st rfl (K.p_loadN (vs := cW y) (Fx.agg rfl) (Fx.sz rfl) rfl hcy) rfl ?_
          refine K.d_pu rfl (fun _ _ => neP x y rfl rfl) rfl ?_
          refine K.d_nil ?_
          have hmx := mem_takeW (by omega : 1 ≤ j + k2) hy1
          by_cases hxy : x = y
          · have hon2 : OnceW (c.take kk) (l.take (j + k2 + 1)) := by
              rw [take_atW hx1]
              exact hon.same (by rw [hxy]; exact hmx)
            rw [decide_eq_true hxy, Bool.not_true]
            (repeat' (first | refine X.rq ?_ | (refine X.rc ?_ ?_ <;> intro hc <;> first | (exfalso; omega) | skip)))
            refine K.a_round hKM ⟨k2 + 1, kk, c⟩ ⟨by dsimp only; omega, by dsimp only; omega, hcl, hkk1, by dsimp only; omega, hon2, fun i hi => hsame () i (by dsimp only at hi; omega)⟩ (by repeat (first | exact K.Sub.nil _ | refine K.Sub.cons rfl ?_)) rfl rfl (by dsimp only; omega)
          · have hz1 : c[kk]? = some (c[kk]'(by omega)) := List.getElem?_eq_getElem (by omega)
            generalize c[kk]'(by omega) = z at hz1
            have hst : (c.set kk x).take (kk + 1) = c.take kk ++ [x] := by
              rw [List.take_succ_eq_append_getElem (by rw [List.length_set]; omega), List.take_set_of_le (Nat.le_refl _), List.getElem_set_self]
            have hon2 : OnceW ((c.set kk x).take (kk + 1)) (l.take (j + k2 + 1)) := by
              rw [take_atW hx1, hst]
              exact hon.more (sorted_W (hs ()) (by omega) hx1 hy1 hxy)
            rw [decide_eq_false hxy, Bool.not_false]
            (repeat' (first | refine X.rq ?_ | (refine X.rc ?_ ?_ <;> intro hc <;> first | (exfalso; omega) | skip)))
            refine K.s_pure (K.p_loadN (vs := cW x) (Fx.agg rfl) (Fx.sz rfl) rfl (cel_W 0 rfl ((hsame () _ (by omega)).trans hx1) (by rw [Int.toNat_natCast]; omega))) rfl ?_
            (repeat' (first | refine X.rq ?_ | (refine X.rc ?_ ?_ <;> intro hc <;> first | (exfalso; omega) | skip)))
            refine K.l_storePart (i := kk) (c1 := []) (c2 := cW z) (c3 := []) (us := cW x) 0 rfl (Fx.sz rfl) (by show some (Value.pointer (some ⟨b, 0 + ((kk : Nat) : Int).toNat * 2, none⟩)) = _; rw [Nat.zero_add]; rfl) rfl rfl (two c) (by rw [List.append_nil, List.nil_append, List.getElem?_map, hz1]; rfl) rfl ?_
            rw [List.append_nil, List.nil_append, ← List.map_set]
            simp only [List.set_cons_zero, List.set_cons_succ, List.eraseIdx_cons_zero, List.eraseIdx_cons_succ, List.cons_append, List.nil_append]
            (repeat' (first | refine X.rq ?_ | (refine X.rc ?_ ?_ <;> intro hc <;> first | (exfalso; omega) | skip)))
            refine K.a_round hKM ⟨k2 + 1, kk + 1, c.set kk x⟩ ⟨by dsimp only; omega, by dsimp only; omega, by dsimp only; rw [List.length_set]; exact hcl, by dsimp only; omega, by dsimp only; omega, hon2, fun i hi => ?_⟩ (by repeat (first | exact K.Sub.nil _ | refine K.Sub.cons rfl ?_)) rfl rfl (by dsimp only; omega)
            dsimp only at hi ⊢
            rw [List.getElem?_set_ne (by omega)]
            exact hsame () i (by omega)
        · have hon2 : OnceW (c.take kk) l := by
            rw [show l.take (j + k2) = l from List.take_of_length_le (by omega)] at hon
            exact hon
          clear hsame hon
          (repeat' (first | refine X.rq ?_ | (refine X.rc ?_ ?_ <;> intro hc <;> first | (exfalso; omega) | skip)))
          refine K.s_pure (K.p_slice (k2 := .i64) (l := kk) (u := l.length) (ao := some ⟨b, kk * 2, none⟩) (Fx.und rfl) (Fx.sz rfl) rfl ⟨(kk : Int), rfl, rfl⟩ rfl (by omega) (by omega) (by rw [if_neg (by omega)]; simp)) rfl ?_
          refine K.WL.openBuf (fun sp fz g2 g3 g4 g5 g6 => ?_)
          have hct : (c.take kk).length = kk := by rw [List.length_take]; omega
          rw [show (c.map cW).flatten = ((c.take kk).map cW).flatten ++ ((c.drop kk).map cW).flatten from by rw [← List.flatten_append, ← List.map_append, List.take_append_drop]]
          rw [two_len] at g2
          rw [List.length_append, two_len] at g3
          refine K.l_clearR (zs := cW (0, 0)) (Fx.und rfl) (Fx.zr rfl) rfl rfl rfl (by omega) (by rw [two_len, List.length_drop]; show (l.length - kk) * 2 = _; omega) (by rw [two_len, hct]) (fun o ho => g6 o (by change o < kk * 2 + (l.length - kk) * 2 at ho; omega)) ?_
          have hzl : (List.replicate (l.length - kk) (cW (0, 0))).flatten.length = (l.length - kk) * 2 := by rw [K.flatten_len (s := 2) _ fun e he => by rw [(List.mem_replicate.1 he).2]; rfl, List.length_replicate]
          rw [List.append_assoc]
          refine K.WL.shut (m := kk) (cap := k) (by rw [two_len, hct]) (by rw [List.length_append, List.length_append, hzl, two_len, hct]; omega) (by omega) g5 g6 ?_
          (repeat' (first | refine X.rq ?_ | (refine X.rc ?_ ?_ <;> intro hc <;> first | (exfalso; omega) | skip)))
          refine K.s_pure (K.p_sliceU (Fx.und rfl) (Fx.sz rfl) rfl rfl rfl (show kk ≤ k by omega)) rfl ?_
          (repeat' (first | refine X.rq ?_ | (refine X.rc ?_ ?_ <;> intro hc <;> first | (exfalso; omega) | skip)))
          refine K.done (by first | exact Or.inl rfl | exact Or.inr rfl) rfl (by first | exact K.Base.le.refl _ | assumption) (H' := [bufA 47 2 (some b) kk k ((c.take kk).map cW).flatten]) rfl ⟨rfl, c.take kk, some b, k, by rw [hct]; rfl, by rw [bufW, hct], hon2⟩
      · have hon2 : OnceW (l.take (j + 1)) (l.take (j + 1)) := by
          rw [take_atW hx1]
          exact hon.more (sorted_W (hs ()) hj1 hx1 hy1 hxy)
        rw [decide_eq_false hxy]
        (repeat' (first | refine X.rq ?_ | (refine X.rc ?_ ?_ <;> intro hc <;> first | (exfalso; omega) | skip)))
        refine K.a_round hKL (j + 1) ⟨by omega, by omega, hon2⟩ (by repeat (first | exact K.Sub.nil _ | refine K.Sub.cons rfl ?_)) rfl rfl (by omega)
    · obtain rfl : j = l.length := by omega
      rw [List.take_length] at hon
      (repeat' (first | refine X.rq ?_ | (refine X.rc ?_ ?_ <;> intro hc <;> first | (exfalso; omega) | skip)))
      refine K.done (by first | exact Or.inl rfl | exact Or.inr rfl) rfl (by first | exact K.Base.le.refl _ | assumption) (H' := [bufW (some b) k l]) rfl ⟨rfl, l, some b, k, rfl, rfl, hon⟩
end Go.Proofs.YtcpdfajaggbjlaaDoor.Lk
