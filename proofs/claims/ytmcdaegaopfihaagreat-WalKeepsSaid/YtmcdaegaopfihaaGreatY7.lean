/-
  Texts joined: Fd Ff. Conditions: each theorem's own.
-/
import Derived.Test.YtmcdaegaopfihaaGreatY5
import Derived.Test.YtmcdaegaopfihaaGreatY4
section
namespace Go.Proofs.YtmcdaegaopfihaaGreat.Pg
open Go Go.K Go.Proofs Go.Proofs.YtmcdaegaopfihaaGreat
set_option linter.unusedVariables false
set_option linter.unusedSimpArgs false
set_option maxRecDepth 10000

end Go.Proofs.YtmcdaegaopfihaaGreat.Pg
end

section
namespace Go.Proofs.YtmcdaegaopfihaaGreat.Pg
open Go Go.K Go.Proofs Go.Proofs.YtmcdaegaopfihaaGreat
set_option linter.unusedVariables false
set_option linter.unusedSimpArgs false
set_option maxRecDepth 10000

theorem text_ne (a b : List UInt8) : ((⟨a.toArray⟩ : ByteArray) = ⟨b.toArray⟩) ↔ a = b := by
 constructor
 ·intro e
  have := congrArg (fun s : ByteArray => s.data.toList) e
  simpa using this
 ·rintro rfl; rfl
theorem SameO (h : Base) (cs ds : List Value) (o q : POp) (hx : OpC h cs o) (hy : OpC h ds q) : TrV Tryz.prog 78 [.agg cs.toArray, .agg ds.toArray] h [] (.bool (decide (o = q))) [] := by
 obtain ⟨hw, ao, ca, rfl, hb⟩ := hx
 obtain ⟨hw2, ao2, ca2, rfl, hb2⟩ := hy
 have heq : o = q ↔ o.kind = q.kind ∧ o.slot = q.slot ∧ o.txn = q.txn ∧ o.data = q.data := by
  obtain ⟨a, b, c, d⟩ := o
  obtain ⟨a2, b2, c2, d2⟩ := q
  simp
 rw [show decide (o = q) = decide (o.kind = q.kind ∧ o.slot = q.slot ∧ o.txn = q.txn ∧ o.data = q.data) by rw [decide_eq_decide]; exact heq]
 refine K.enter Tryz.func78 rfl (Nat.le_of_ble_eq_true rfl) (fun F => ?_)
 (repeat' first | refine X.rq ?_ | refine X.rc ?_ ?_ <;> intro hc <;> try omega)
 refine K.l_box rfl rfl rfl (fun B => ?_)
 refine K.l_box rfl rfl rfl (fun B => ?_)
 (repeat' first | refine X.rq ?_ | refine X.rc ?_ ?_ <;> intro hc <;> try omega)
 ·refine K.s_pure (K.p_textB hb (Fx.und rfl) (Fx.und rfl) (Fx.und rfl) rfl) rfl ?_
  (repeat' first | refine X.rq ?_ | refine X.rc ?_ ?_ <;> intro hc <;> try omega)
  refine K.s_pure (K.p_textB hb2 (Fx.und rfl) (Fx.und rfl) (Fx.und rfl) rfl) rfl ?_
  (repeat' first | refine X.rq ?_ | refine X.rc ?_ ?_ <;> intro hc <;> try omega)
  refine K.AT.sel [0, 0] rfl ?_
  refine K.done (by first | exact Or.inl rfl | exact Or.inr rfl) rfl (by first | exact K.Base.le.refl _ | assumption) (H' := []) rfl ⟨?_, rfl, rfl⟩
  show Value.bool _ = Value.bool _
  congr 1
  rw [decide_eq_decide, text_ne]
  constructor
  ·intro e; exact ⟨by omega, by omega, by omega, e⟩
  ·intro e; exact e.2.2.2
 all_goals
  refine K.AT.sel [0, 0] rfl ?_
  refine K.done (by first | exact Or.inl rfl | exact Or.inr rfl) rfl (by first | exact K.Base.le.refl _ | assumption) (H' := []) rfl ⟨?_, rfl, rfl⟩
  show Value.bool _ = Value.bool _
  congr 1
  refine (decide_eq_false ?_).symm
  rintro ⟨e1, e2, e3, e4⟩
  omega
theorem cell_eq (x y : PCell) : x = y ↔ x.used = y.used ∧ x.killer = y.killer ∧ x.data = y.data := by
 obtain ⟨a, b, c⟩ := x
 obtain ⟨a2, b2, c2⟩ := y
 simp
set_option maxHeartbeats 1000000 in
theorem SameP (h : Base) (cs ds : List Value) (p q : Pag) (hx : PagC h cs p) (hy : PagC h ds q) : TrV Tryz.prog 79 [.agg cs.toArray, .agg ds.toArray] h [] (.bool (decide (p = q))) [] := by
 obtain ⟨hw, cv, rfl, es, hv, hel, hr⟩ := hx
 obtain ⟨hw2, cv2, rfl, es2, hv2, hel2, hr2⟩ := hy
 have hlen := hw.len
 have hlen2 := hw2.len
 obtain ⟨ao, ca, rfl⟩ := hv.len
 obtain ⟨ao2, ca2, rfl⟩ := hv2.len
 rw [hel] at hv ⊢
 rw [hel2] at hv2 ⊢
 have heq : ∀ _ : Unit, p = q ↔ p.kind = q.kind ∧ p.lsn = q.lsn ∧ p.next = q.next ∧ p.cells = q.cells := fun _ => by
  obtain ⟨a, b, c, d⟩ := p
  obtain ⟨a2, b2, c2, d2⟩ := q
  simp
 refine K.enter Tryz.func79 rfl (Nat.le_of_ble_eq_true rfl) (fun F => ?_)
 by_cases hne : p.kind = q.kind ∧ p.lsn = q.lsn ∧ p.next = q.next ∧ p.cells.length = q.cells.length
 ·(repeat' first | refine X.rq ?_ | refine X.rc ?_ ?_ <;> intro hc <;> try omega)
  refine K.l_box rfl rfl rfl (fun B1 => ?_)
  refine K.l_box rfl rfl rfl (fun B2 => ?_)
  (repeat' first | refine X.rq ?_ | refine X.rc ?_ ?_ <;> intro hc <;> try omega)
  refine K.c_loop (σ := Nat) (fun j => [(2, .pointer (some ⟨B1, 0, none⟩)), (3, .pointer (some ⟨B2, 0, none⟩)), (5, .int .i64 j)]) (fun _ => h) (fun _ => blk B2 86 (cP q (.slice ao2 q.cells.length ca2)) :: blk B1 86 (cP p (.slice ao p.cells.length ca)) :: F) (fun j => j ≤ p.cells.length ∧ ∀ i, i < j → p.cells[i]? = q.cells[i]?) (fun j => p.cells.length - j) 0 ⟨Nat.zero_le _, fun i hi => by omega⟩ (by repeat (first | exact K.Sub.nil _ | refine K.Sub.cons rfl ?_)) rfl rfl ?_
  rintro j ⟨hj, hsame⟩ KL hKL
  by_cases hjl : j < p.cells.length
  ·have hc1 : es[j]? = some (es[j]'(by omega)) := List.getElem?_eq_getElem (by omega)
   have hc0 : es[((j : Nat) : Int).toNat]? = some (es[j]'(by omega)) := by rw [Int.toNat_natCast]; exact hc1
   have hx1 : p.cells[j]? = some p.cells[j] := List.getElem?_eq_getElem hjl
   have hd1 : es2[j]? = some (es2[j]'(by omega)) := List.getElem?_eq_getElem (by omega)
   have hd0 : es2[((j : Nat) : Int).toNat]? = some (es2[j]'(by omega)) := by rw [Int.toNat_natCast]; exact hd1
   have hy1 : q.cells[j]? = some (q.cells[j]'(by omega)) := List.getElem?_eq_getElem (by omega)
   generalize es[j]'(by omega) = c at hc0 hc1
   generalize p.cells[j] = x at hx1
   generalize es2[j]'(by omega) = c2 at hd0 hd1
   generalize q.cells[j]'(by omega) = y at hy1
   obtain ⟨hkl, hdl, ao3, ca3, rfl, hbv⟩ := hr j c x hc1 hx1
   obtain ⟨hkl2, hdl2, ao4, ca4, rfl, hbv2⟩ := hr2 j c2 y hd1 hy1
   have hxy := cell_eq x y
   have hno : x ≠ y → decide (p = q) = false := fun hn => decide_eq_false (fun e => hn (by subst e; rw [hx1] at hy1; cases hy1; rfl))
   have go : x = y → ∀ i, i < j + 1 → p.cells[i]? = q.cells[i]? := fun e i hi => by
    by_cases hij : i < j
    ·exact hsame i hij
    ·obtain rfl : i = j := by omega
     rw [hx1, hy1, e]
   (repeat' first | refine X.rq ?_ | refine X.rc ?_ ?_ <;> intro hc <;> try omega)
   refine X.drawJ ([blk B2 86 (cP q (.slice ao2 q.cells.length ca2)), blk B1 86 (cP p (.slice ao p.cells.length ca))]) [] (.pu 0 (.pu 2 (.pu 5 (.pu 7 (.st 1 (.st 3 (.st 4 (.st 6 (.st 8 (.st 9 (.alt 10 (.on 11 (.on 12 (.on 13 .nil))) (.on 11 (.on 10 (.on 12 (.on 13 .nil))))))))))))))) (fun r : Nat × Nat => [(2, .pointer (some ⟨B1, 0, none⟩)), (3, .pointer (some ⟨B2, 0, none⟩)), (5, .int .i64 j), (6, .pointer (some ⟨r.1, 0, none⟩)), (7, .pointer (some ⟨r.2, 0, none⟩))]) (fun _ => h) (fun r => blk r.1 90 [.bool x.used, .int .u32 x.killer, .slice ao3 x.data.length ca3] :: blk r.2 90 [.bool y.used, .int .u32 y.killer, .slice ao4 y.data.length ca4] :: blk B2 86 (cP q (.slice ao2 q.cells.length ca2)) :: blk B1 86 (cP p (.slice ao p.cells.length ca)) :: F) ?_ ?_
   ·refine K.d_pu rfl (fun _ _ => X.fa) rfl ?_
    refine K.d_pu rfl (fun _ _ => X.mv) rfl ?_
    refine K.d_pu rfl (fun _ _ => X.fa) rfl ?_
    refine K.d_pu rfl (fun _ _ => X.mv) rfl ?_
    refine K.d_st rfl X.ld rfl ?_
    refine K.d_stE rfl (K.p_indexL hv (Fx.und rfl) (Fx.sz rfl) rfl rfl (by omega) hc0) rfl ?_
    rintro v2 ⟨b2, o2, rfl, hcel⟩
    refine K.d_st rfl (K.p_loadM (Fx.agg rfl) rfl (Cels.up hcel) (Fx.sz rfl) rfl) rfl ?_
    refine K.d_st rfl X.ld rfl ?_
    refine K.d_stE rfl (K.p_indexL hv2 (Fx.und rfl) (Fx.sz rfl) rfl rfl (by omega) hd0) rfl ?_
    rintro v3 ⟨b3, o3, rfl, hcel3⟩
    refine K.d_st rfl (K.p_loadM (Fx.agg rfl) rfl (Cels.up hcel3) (Fx.sz rfl) rfl) rfl ?_
    refine K.d_alt ?_ ?_
    ·refine K.d_on rfl (fun KK hKK => ?_)
     refine K.l_alloc (Fx.zr rfl) rfl rfl (fun B3 => ?_)
     refine K.l_nil ?_
     refine X.onE hKK ?_
     refine K.d_on rfl (fun KK hKK => ?_)
     refine K.l_alloc (Fx.zr rfl) rfl rfl (fun B4 => ?_)
     refine K.l_nil ?_
     refine X.onE hKK ?_
     refine K.d_on rfl (fun KK hKK => ?_)
     refine X.stw ?_
     simp only [Go.K.nmz]
     refine K.l_nil ?_
     refine X.onE hKK ?_
     refine K.d_on rfl (fun KK hKK => ?_)
     refine X.stw ?_
     simp only [Go.K.nmz]
     refine K.l_nil ?_
     refine X.onE hKK ?_
     refine K.d_nil ?_
     refine K.AT.perm (K.pp [1, 0] rfl) ?_
     simp only [Go.K.nmz]
     exact K.joined (B3, B4) (by repeat (first | exact K.Sub.nil _ | refine K.Sub.cons rfl ?_)) rfl rfl
    refine K.d_on rfl (fun KK hKK => ?_)
    refine K.l_alloc (Fx.zr rfl) rfl rfl (fun B4 => ?_)
    refine K.l_nil ?_
    refine X.onE hKK ?_
    refine K.d_on rfl (fun KK hKK => ?_)
    refine K.l_alloc (Fx.zr rfl) rfl rfl (fun B3 => ?_)
    refine K.l_nil ?_
    refine X.onE hKK ?_
    refine K.d_on rfl (fun KK hKK => ?_)
    refine X.stw ?_
    simp only [Go.K.nmz]
    refine K.l_nil ?_
    refine X.onE hKK ?_
    refine K.d_on rfl (fun KK hKK => ?_)
    refine X.stw ?_
    simp only [Go.K.nmz]
    refine K.l_nil ?_
    refine X.onE hKK ?_
    refine K.d_nil ?_
    exact K.joined (B3, B4) (by repeat (first | exact K.Sub.nil _ | refine K.Sub.cons rfl ?_)) rfl rfl
   refine fun r => ?_
   generalize r.1 = B3
   generalize r.2 = B4
   have ret : x ≠ y → ∀ E, AT Tryz.prog Tryz.f79.ntmps (K.post Tryz.prog Tryz.f79 fun v w' => ∃ h' H', h.le h' ∧ (v = Value.bool (decide (p = q)) ∧ h' = h ∧ H' = []) ∧ Ok h' (H' ++ F) w') .ret ((4, .bool false) :: E) h (blk B3 90 [.bool x.used, .int .u32 x.killer, .slice ao3 x.data.length ca3] :: blk B4 90 [.bool y.used, .int .u32 y.killer, .slice ao4 y.data.length ca4] :: blk B2 86 (cP q (.slice ao2 q.cells.length ca2)) :: blk B1 86 (cP p (.slice ao p.cells.length ca)) :: F) := fun hn E => by
    rw [hno hn]
    refine K.AT.sel [0, 0, 0, 0] rfl ?_
    refine K.done (by first | exact Or.inl rfl | exact Or.inr rfl) rfl (by first | exact K.Base.le.refl _ | assumption) (H' := []) rfl ⟨rfl, rfl, rfl⟩
   have cont := fun (e : x = y) => go e
   clear hsame heq go hno hne hr hr2
   cases hux : x.used <;> cases huy : y.used
   all_goals rw [hux, huy] at hxy
   all_goals rw [hux, huy] at ret
   ·by_cases hk : x.killer = y.killer
    ·(repeat' first | refine X.rq ?_ | refine X.rc ?_ ?_ <;> intro hc <;> try omega)
     refine K.s_pure (K.p_textB hbv (Fx.und rfl) (Fx.und rfl) (Fx.und rfl) rfl) rfl ?_
     (repeat' first | refine X.rq ?_ | refine X.rc ?_ ?_ <;> intro hc <;> try omega)
     refine K.s_pure (K.p_textB hbv2 (Fx.und rfl) (Fx.und rfl) (Fx.und rfl) rfl) rfl ?_
     by_cases hd : x.data = y.data
     ·have he : (⟨x.data.toArray⟩ : ByteArray) = ⟨y.data.toArray⟩ := by rw [hd]
      (repeat' first | refine X.rq ?_ | refine X.rc ?_ ?_ <;> intro hc <;> try omega)
      ·exact absurd he (by assumption)
      ·refine K.AT.sel [0, 0] rfl ?_
       exact K.a_round hKL (j + 1) ⟨by omega, cont (hxy.2 ⟨rfl, hk, hd⟩)⟩ (by repeat (first | exact K.Sub.nil _ | refine K.Sub.cons rfl ?_)) rfl rfl (by omega)
     ·have he : ¬ ((⟨x.data.toArray⟩ : ByteArray) = ⟨y.data.toArray⟩) := fun e => hd ((text_ne _ _).1 e)
      (repeat' first | refine X.rq ?_ | refine X.rc ?_ ?_ <;> intro hc <;> try omega)
      ·exact ret (fun e => hd (hxy.1 e).2.2) _
      ·exact absurd (Classical.not_not.1 (by assumption)) he
    ·(repeat' first | refine X.rq ?_ | refine X.rc ?_ ?_ <;> intro hc <;> try omega)
     exact ret (fun e => hk (hxy.1 e).2.1) _
   ·(repeat' first | refine X.rq ?_ | refine X.rc ?_ ?_ <;> intro hc <;> try omega)
    exact ret (fun e => by have := (hxy.1 e).1; cases this) _
   ·(repeat' first | refine X.rq ?_ | refine X.rc ?_ ?_ <;> intro hc <;> try omega)
    exact ret (fun e => by have := (hxy.1 e).1; cases this) _
   ·by_cases hk : x.killer = y.killer
    ·(repeat' first | refine X.rq ?_ | refine X.rc ?_ ?_ <;> intro hc <;> try omega)
     refine K.s_pure (K.p_textB hbv (Fx.und rfl) (Fx.und rfl) (Fx.und rfl) rfl) rfl ?_
     (repeat' first | refine X.rq ?_ | refine X.rc ?_ ?_ <;> intro hc <;> try omega)
     refine K.s_pure (K.p_textB hbv2 (Fx.und rfl) (Fx.und rfl) (Fx.und rfl) rfl) rfl ?_
     by_cases hd : x.data = y.data
     ·have he : (⟨x.data.toArray⟩ : ByteArray) = ⟨y.data.toArray⟩ := by rw [hd]
      (repeat' first | refine X.rq ?_ | refine X.rc ?_ ?_ <;> intro hc <;> try omega)
      ·exact absurd he (by assumption)
      ·refine K.AT.sel [0, 0] rfl ?_
       exact K.a_round hKL (j + 1) ⟨by omega, cont (hxy.2 ⟨rfl, hk, hd⟩)⟩ (by repeat (first | exact K.Sub.nil _ | refine K.Sub.cons rfl ?_)) rfl rfl (by omega)
     ·have he : ¬ ((⟨x.data.toArray⟩ : ByteArray) = ⟨y.data.toArray⟩) := fun e => hd ((text_ne _ _).1 e)
      (repeat' first | refine X.rq ?_ | refine X.rc ?_ ?_ <;> intro hc <;> try omega)
      ·exact ret (fun e => hd (hxy.1 e).2.2) _
      ·exact absurd (Classical.not_not.1 (by assumption)) he
    ·(repeat' first | refine X.rq ?_ | refine X.rc ?_ ?_ <;> intro hc <;> try omega)
     exact ret (fun e => hk (hxy.1 e).2.1) _
  ·obtain rfl : j = p.cells.length := by omega
   rw [decide_eq_true ((heq ()).2 ⟨hne.1, hne.2.1, hne.2.2.1, List.ext_getElem? fun i => by
    by_cases hi : i < p.cells.length
    ·exact hsame i hi
    ·rw [List.getElem?_eq_none (by omega), List.getElem?_eq_none (by omega)]⟩)]
   (repeat' first | refine X.rq ?_ | refine X.rc ?_ ?_ <;> intro hc <;> try omega)
   refine K.AT.sel [0, 0] rfl ?_
   refine K.done (by first | exact Or.inl rfl | exact Or.inr rfl) rfl (by first | exact K.Base.le.refl _ | assumption) (H' := []) rfl ⟨rfl, rfl, rfl⟩
 ·rw [decide_eq_false (fun e => hne (by subst e; exact ⟨rfl, rfl, rfl, rfl⟩))]
  (repeat' first | refine X.rq ?_ | refine X.rc ?_ ?_ <;> intro hc <;> try omega)
  refine K.l_box rfl rfl rfl (fun B1 => ?_)
  refine K.l_box rfl rfl rfl (fun B2 => ?_)
  (repeat' first | refine X.rq ?_ | refine X.rc ?_ ?_ <;> intro hc <;> try omega)
  all_goals
   refine K.AT.sel [0, 0] rfl ?_
   refine K.done (by first | exact Or.inl rfl | exact Or.inr rfl) rfl (by first | exact K.Base.le.refl _ | assumption) (H' := []) rfl ⟨rfl, rfl, rfl⟩
end Go.Proofs.YtmcdaegaopfihaaGreat.Pg
end
