/-
  Texts joined: Fd Ff Fg Fh Fi Fj Fk Fl Fm Fn. Conditions: each theorem's own.
-/
import Derived.Test.YtijbhgiigddjdaaGreatPC5
import Derived.Test.YtijbhgiigddjdaaGreatPC4
import Derived.Test.YtijbhgiigddjdaaGreatPC1
set_option linter.unusedVariables false
set_option linter.unusedSimpArgs false
set_option maxRecDepth 10000
set_option maxHeartbeats 16000000
section
namespace Go.Proofs.YtijbhgiigddjdaaGreat.Pg
open Go.K

end Go.Proofs.YtijbhgiigddjdaaGreat.Pg
end

section
namespace Go.Proofs.YtijbhgiigddjdaaGreat.Pg
open Go.K

theorem text_ne (a b : List UInt8) : ((⟨a.toArray⟩ : ByteArray) = ⟨b.toArray⟩) ↔ a = b := by
 constructor
 ·intro e
  have := congrArg (fun s : ByteArray => s.data.toList) e
  simpa using this
 ·rintro rfl; rfl
theorem cell_eq (x y : PCell) : x = y ↔ x.used = y.used ∧ x.killer = y.killer ∧ x.data = y.data := by
 obtain ⟨a, b, c⟩ := x
 obtain ⟨a2, b2, c2⟩ := y
 simp
theorem SameP (h : Base) (cs ds : List Value) (p q : Pag) (hx : PagC h cs p) (hy : PagC h ds q) : TrV Tryz.prog 13 [.agg cs.toArray, .agg ds.toArray] h [] (.bool (decide (p = q))) [] := by
 obtain ⟨hw, cv, rfl, es, hv, hel, hr⟩ := hx
 obtain ⟨hw2, cv2, rfl, es2, hv2, hel2, hr2⟩ := hy
 have hlen := hw.len
 have hlen2 := hw2.len
 obtain ⟨ao, ca, rfl⟩ := hv.len
 obtain ⟨ao2, ca2, rfl⟩ := hv2.len
 rw [hel] at hv ⊢
 rw [hel2] at hv2 ⊢
 have heq : ∀ _ : Unit, p = q ↔ p.kind = q.kind ∧ p.lsn = q.lsn ∧ p.next = q.next ∧ p.cells = q.cells := fun _ => by
  obtain ⟨a, b, c, d⟩ := p
  obtain ⟨a2, b2, c2, d2⟩ := q
  simp
 refine K.en Tryz.func13 fun F => ?_
 by_cases hne : p.kind = q.kind ∧ p.lsn = q.lsn ∧ p.next = q.next ∧ p.cells.length = q.cells.length
 ·(repeat' first | refine X.rq ?_ | refine X.rc ?_ ?_ <;> intro hc <;> try omega)
  refine K.l_box rfl rfl rfl (fun B1 => ?_)
  refine K.l_box rfl rfl rfl (fun B2 => ?_)
  (repeat' first | refine X.rq ?_ | refine X.rc ?_ ?_ <;> intro hc <;> try omega)
  refine K.c_loop (σ := Nat) (fun j => [(2, .pointer (some ⟨B1, 0, none⟩)), (3, .pointer (some ⟨B2, 0, none⟩)), (5, .int .i64 j)]) (fun _ => h) (fun _ => blk B2 41 (cP q (.slice ao2 q.cells.length ca2)) :: blk B1 41 (cP p (.slice ao p.cells.length ca)) :: F) (fun j => j ≤ p.cells.length ∧ ∀ i, i < j → p.cells[i]? = q.cells[i]?) (fun j => p.cells.length - j) 0 ⟨Nat.zero_le _, fun i hi => by omega⟩ (by repeat (first | exact K.Sub.nil _ | refine K.Sub.cons rfl ?_)) rfl rfl ?_
  rintro j ⟨hj, hsame⟩ KL hKL
  by_cases hjl : j < p.cells.length
  ·have hc1 : es[j]? = some (es[j]'(by omega)) := List.getElem?_eq_getElem (by omega)
   have hc0 : es[((j : Nat) : Int).toNat]? = some (es[j]'(by omega)) := by rw [Int.toNat_natCast]; exact hc1
   have hx1 : p.cells[j]? = some p.cells[j] := List.getElem?_eq_getElem hjl
   have hd1 : es2[j]? = some (es2[j]'(by omega)) := List.getElem?_eq_getElem (by omega)
   have hd0 : es2[((j : Nat) : Int).toNat]? = some (es2[j]'(by omega)) := by rw [Int.toNat_natCast]; exact hd1
   have hy1 : q.cells[j]? = some (q.cells[j]'(by omega)) := List.getElem?_eq_getElem (by omega)
   generalize es[j]'(by omega) = c at hc0 hc1
   generalize p.cells[j] = x at hx1
   generalize es2[j]'(by omega) = c2 at hd0 hd1
   generalize q.cells[j]'(by omega) = y at hy1
   obtain ⟨hkl, hdl, ao3, ca3, rfl, hbv⟩ := hr j c x hc1 hx1
   obtain ⟨hkl2, hdl2, ao4, ca4, rfl, hbv2⟩ := hr2 j c2 y hd1 hy1
   have hxy := cell_eq x y
   have hno : x ≠ y → decide (p = q) = false := fun hn => decide_eq_false (fun e => hn (by subst e; rw [hx1] at hy1; cases hy1; rfl))
   have go : x = y → ∀ i, i < j + 1 → p.cells[i]? = q.cells[i]? := fun e i hi => by
    by_cases hij : i < j
    ·exact hsame i hij
    ·obtain rfl : i = j := by omega
     rw [hx1, hy1, e]
   (repeat' first | refine X.rq ?_ | refine X.rc ?_ ?_ <;> intro hc <;> try omega)
   refine X.drawJ ([blk B2 41 (cP q (.slice ao2 q.cells.length ca2)), blk B1 41 (cP p (.slice ao p.cells.length ca))]) [] (.pu 0 (.pu 2 (.pu 5 (.pu 7 (.st 1 (.st 3 (.st 4 (.st 6 (.st 8 (.st 9 (.alt 10 (.on 11 (.on 12 (.on 13 .nil))) (.on 11 (.on 10 (.on 12 (.on 13 .nil))))))))))))))) (fun r : Nat × Nat => [(2, .pointer (some ⟨B1, 0, none⟩)), (3, .pointer (some ⟨B2, 0, none⟩)), (5, .int .i64 j), (6, .pointer (some ⟨r.1, 0, none⟩)), (7, .pointer (some ⟨r.2, 0, none⟩))]) (fun _ => h) (fun r => blk r.1 120 [.bool x.used, .int .u32 x.killer, .slice ao3 x.data.length ca3] :: blk r.2 120 [.bool y.used, .int .u32 y.killer, .slice ao4 y.data.length ca4] :: blk B2 41 (cP q (.slice ao2 q.cells.length ca2)) :: blk B1 41 (cP p (.slice ao p.cells.length ca)) :: F) ?_ ?_
   ·refine X.u_fa ?_
    refine X.u_mv ?_
    refine X.u_fa ?_
    refine X.u_mv ?_
    refine X.s_ld ?_
    refine K.d_stE rfl (K.p_indexL hv (Fx.und rfl) (Fx.sz rfl) rfl rfl (by omega) hc0) rfl ?_
    rintro v2 ⟨b2, o2, rfl, hcel⟩
    refine K.d_st rfl (K.p_loadM (Fx.agg rfl) rfl (Cels.up hcel) (Fx.sz rfl) rfl) rfl ?_
    refine X.s_ld ?_
    refine K.d_stE rfl (K.p_indexL hv2 (Fx.und rfl) (Fx.sz rfl) rfl rfl (by omega) hd0) rfl ?_
    rintro v3 ⟨b3, o3, rfl, hcel3⟩
    refine K.d_st rfl (K.p_loadM (Fx.agg rfl) rfl (Cels.up hcel3) (Fx.sz rfl) rfl) rfl ?_
    refine K.d_alt ?_ ?_
    ·refine K.d_on rfl (fun KK hKK => ?_)
     refine K.l_alloc (Fx.zr rfl) rfl rfl (fun B3 => ?_)
     refine K.l_nil ?_
     refine X.onE hKK ?_
     refine K.d_on rfl (fun KK hKK => ?_)
     refine K.l_alloc (Fx.zr rfl) rfl rfl (fun B4 => ?_)
     refine K.l_nil ?_
     refine X.onE hKK ?_
     refine K.d_on rfl (fun KK hKK => ?_)
     refine X.stw ?_
     simp only [Go.K.nmz]
     refine K.l_nil ?_
     refine X.onE hKK ?_
     refine K.d_on rfl (fun KK hKK => ?_)
     refine X.stw ?_
     simp only [Go.K.nmz]
     refine K.l_nil ?_
     refine X.onE hKK ?_
     refine K.d_nil ?_
     refine K.AT.perm (K.pp [1, 0] rfl) ?_
     simp only [Go.K.nmz]
     exact K.joined (B3, B4) (by repeat (first | exact K.Sub.nil _ | refine K.Sub.cons rfl ?_)) rfl rfl
    refine K.d_on rfl (fun KK hKK => ?_)
    refine K.l_alloc (Fx.zr rfl) rfl rfl (fun B4 => ?_)
    refine K.l_nil ?_
    refine X.onE hKK ?_
    refine K.d_on rfl (fun KK hKK => ?_)
    refine K.l_alloc (Fx.zr rfl) rfl rfl (fun B3 => ?_)
    refine K.l_nil ?_
    refine X.onE hKK ?_
    refine K.d_on rfl (fun KK hKK => ?_)
    refine X.stw ?_
    simp only [Go.K.nmz]
    refine K.l_nil ?_
    refine X.onE hKK ?_
    refine K.d_on rfl (fun KK hKK => ?_)
    refine X.stw ?_
    simp only [Go.K.nmz]
    refine K.l_nil ?_
    refine X.onE hKK ?_
    refine K.d_nil ?_
    exact K.joined (B3, B4) (by repeat (first | exact K.Sub.nil _ | refine K.Sub.cons rfl ?_)) rfl rfl
   refine fun r => ?_
   generalize r.1 = B3
   generalize r.2 = B4
   have ret : x ≠ y → ∀ E, AT Tryz.prog Tryz.f13.ntmps (K.post Tryz.prog Tryz.f13 fun v w' => ∃ h' H', h.le h' ∧ (v = Value.bool (decide (p = q)) ∧ h' = h ∧ H' = []) ∧ Ok h' (H' ++ F) w') .ret ((4, .bool false) :: E) h (blk B3 120 [.bool x.used, .int .u32 x.killer, .slice ao3 x.data.length ca3] :: blk B4 120 [.bool y.used, .int .u32 y.killer, .slice ao4 y.data.length ca4] :: blk B2 41 (cP q (.slice ao2 q.cells.length ca2)) :: blk B1 41 (cP p (.slice ao p.cells.length ca)) :: F) := fun hn E => by
    rw [hno hn]
    refine K.AT.sel [0, 0, 0, 0] rfl ?_
    refine K.dl rfl (H' := []) rfl ⟨rfl, rfl, rfl⟩
   have cont := fun (e : x = y) => go e
   clear hsame heq go hno hne hr hr2
   cases hux : x.used <;> cases huy : y.used
   all_goals rw [hux, huy] at hxy
   all_goals rw [hux, huy] at ret
   ·by_cases hk : x.killer = y.killer
    ·(repeat' first | refine X.rq ?_ | refine X.rc ?_ ?_ <;> intro hc <;> try omega)
     refine K.s_pure (K.p_textB hbv (Fx.und rfl) (Fx.und rfl) (Fx.und rfl) rfl) rfl ?_
     (repeat' first | refine X.rq ?_ | refine X.rc ?_ ?_ <;> intro hc <;> try omega)
     refine K.s_pure (K.p_textB hbv2 (Fx.und rfl) (Fx.und rfl) (Fx.und rfl) rfl) rfl ?_
     by_cases hd : x.data = y.data
     ·have he : (⟨x.data.toArray⟩ : ByteArray) = ⟨y.data.toArray⟩ := by rw [hd]
      (repeat' first | refine X.rq ?_ | refine X.rc ?_ ?_ <;> intro hc <;> try omega)
      ·exact absurd he (by assumption)
      ·refine K.AT.sel [0, 0] rfl ?_
       exact K.a_round hKL (j + 1) ⟨by omega, cont (hxy.2 ⟨rfl, hk, hd⟩)⟩ (by repeat (first | exact K.Sub.nil _ | refine K.Sub.cons rfl ?_)) rfl rfl (by omega)
     ·have he : ¬ ((⟨x.data.toArray⟩ : ByteArray) = ⟨y.data.toArray⟩) := fun e => hd ((text_ne _ _).1 e)
      (repeat' first | refine X.rq ?_ | refine X.rc ?_ ?_ <;> intro hc <;> try omega)
      ·exact ret (fun e => hd (hxy.1 e).2.2) _
      ·exact absurd (Classical.not_not.1 (by assumption)) he
    ·(repeat' first | refine X.rq ?_ | refine X.rc ?_ ?_ <;> intro hc <;> try omega)
     exact ret (fun e => hk (hxy.1 e).2.1) _
   ·(repeat' first | refine X.rq ?_ | refine X.rc ?_ ?_ <;> intro hc <;> try omega)
    exact ret (fun e => by have := (hxy.1 e).1; cases this) _
   ·(repeat' first | refine X.rq ?_ | refine X.rc ?_ ?_ <;> intro hc <;> try omega)
    exact ret (fun e => by have := (hxy.1 e).1; cases this) _
   ·by_cases hk : x.killer = y.killer
    ·(repeat' first | refine X.rq ?_ | refine X.rc ?_ ?_ <;> intro hc <;> try omega)
     refine K.s_pure (K.p_textB hbv (Fx.und rfl) (Fx.und rfl) (Fx.und rfl) rfl) rfl ?_
     (repeat' first | refine X.rq ?_ | refine X.rc ?_ ?_ <;> intro hc <;> try omega)
     refine K.s_pure (K.p_textB hbv2 (Fx.und rfl) (Fx.und rfl) (Fx.und rfl) rfl) rfl ?_
     by_cases hd : x.data = y.data
     ·have he : (⟨x.data.toArray⟩ : ByteArray) = ⟨y.data.toArray⟩ := by rw [hd]
      (repeat' first | refine X.rq ?_ | refine X.rc ?_ ?_ <;> intro hc <;> try omega)
      ·exact absurd he (by assumption)
      ·refine K.AT.sel [0, 0] rfl ?_
       exact K.a_round hKL (j + 1) ⟨by omega, cont (hxy.2 ⟨rfl, hk, hd⟩)⟩ (by repeat (first | exact K.Sub.nil _ | refine K.Sub.cons rfl ?_)) rfl rfl (by omega)
     ·have he : ¬ ((⟨x.data.toArray⟩ : ByteArray) = ⟨y.data.toArray⟩) := fun e => hd ((text_ne _ _).1 e)
      (repeat' first | refine X.rq ?_ | refine X.rc ?_ ?_ <;> intro hc <;> try omega)
      ·exact ret (fun e => hd (hxy.1 e).2.2) _
      ·exact absurd (Classical.not_not.1 (by assumption)) he
    ·(repeat' first | refine X.rq ?_ | refine X.rc ?_ ?_ <;> intro hc <;> try omega)
     exact ret (fun e => hk (hxy.1 e).2.1) _
  ·obtain rfl : j = p.cells.length := by omega
   rw [decide_eq_true ((heq ()).2 ⟨hne.1, hne.2.1, hne.2.2.1, List.ext_getElem? fun i => by
    by_cases hi : i < p.cells.length
    ·exact hsame i hi
    ·rw [List.getElem?_eq_none (by omega), List.getElem?_eq_none (by omega)]⟩)]
   (repeat' first | refine X.rq ?_ | refine X.rc ?_ ?_ <;> intro hc <;> try omega)
   refine K.AT.sel [0, 0] rfl ?_
   refine K.dl rfl (H' := []) rfl ⟨rfl, rfl, rfl⟩
 ·rw [decide_eq_false (fun e => hne (by subst e; exact ⟨rfl, rfl, rfl, rfl⟩))]
  (repeat' first | refine X.rq ?_ | refine X.rc ?_ ?_ <;> intro hc <;> try omega)
  refine K.l_box rfl rfl rfl (fun B1 => ?_)
  refine K.l_box rfl rfl rfl (fun B2 => ?_)
  (repeat' first | refine X.rq ?_ | refine X.rc ?_ ?_ <;> intro hc <;> try omega)
  all_goals
   refine K.AT.sel [0, 0] rfl ?_
   refine K.dl rfl (H' := []) rfl ⟨rfl, rfl, rfl⟩
end Go.Proofs.YtijbhgiigddjdaaGreat.Pg
end

section
namespace Go.Proofs.YtijbhgiigddjdaaGreat.Pg
open Go.K

def RowC (h : Base) (es : List (List Value)) (l : List PCell) : Prop := es.length = l.length ∧ (∀ e ∈ es, e.length = 3) ∧ ∀ (j : Nat) c x, es[j]? = some c → l[j]? = some x → CellC h c x
def smallX (l : List PCell) : Prop := l.length ≤ 4398046511104 ∧ ∀ x ∈ l, x.data.length ≤ 140737488351232
end Go.Proofs.YtijbhgiigddjdaaGreat.Pg
end

section
namespace Go.Proofs.YtijbhgiigddjdaaGreat.Pg
open Go.K

def freeQ (l : List PCell) : Bool := l.any (fun x => !x.used)
def roomN (l : List PCell) : Int := if freeQ l = true then 508 - sizeQ l else if l.length = 60 then 0 else 506 - sizeQ l
def roomQ (p : Pag) : Int := if mayQ p = true ∧ p.kind ≠ 3 then max 0 (min (roomN p.cells) 180) else 0
end Go.Proofs.YtijbhgiigddjdaaGreat.Pg
end

section
namespace Go.Proofs.YtijbhgiigddjdaaGreat.Pg
open Go.K

structure OC where
 used : Bool
 killer : Nat
 a : Option Nat
 cap : Nat
 data : List UInt8
def OC.cell (c : OC) : PCell := ⟨c.used, c.killer, c.data⟩
def rowO (c : OC) : List Value := [.bool c.used, .int .u32 c.killer, bufV c.a c.data.length c.cap]
def datA (c : OC) : Asrt := bufA 5 1 c.a c.data.length c.cap (c.data.map u8)
def pgA (b : Option Nat) (cap : Nat) (l : List OC) : List Asrt := [bufA 120 3 b l.length cap (l.map rowO).flatten, all (l.map datA)]
def okO (l : List OC) : Prop := ∀ c ∈ l, c.killer < 4294967296
theorem rowO_len (l : List OC) : ∀ e ∈ l.map rowO, e.length = 3 := fun e he => by
 obtain ⟨c, _, rfl⟩ := List.mem_map.1 he
 rfl
theorem says_row {h : Base} {b : Option Nat} {cap : Nat} {l : List OC} (hs : Says h (pgA b cap l)) (hk : okO l) : SL h 3 (bufV b l.length cap) (l.map rowO) ∧ RowC h (l.map rowO) (l.map OC.cell) := by
 have h1 := K.says_mem hs (List.mem_cons_self ..)
 have h2 := K.says_all (K.says_mem hs (List.mem_cons_of_mem _ (List.mem_cons_self ..)))
 have hl : (l.map rowO).length = l.length := List.length_map ..
 have hsl := K.says_sl (T := 120) (a := b) (cap := cap) (es := l.map rowO) (rowO_len l) (by rw [hl]; exact h1)
 rw [hl] at hsl
 refine ⟨hsl, by simp, rowO_len l, fun j c x hj hx => ?_⟩
 rw [List.getElem?_map] at hj hx
 cases hc : l[j]? with
 | none => rw [hc] at hj; cases hj
 | some o =>
  rw [hc] at hj hx
  cases hj; cases hx
  have hmem := List.mem_of_getElem? hc
  have h3 := K.says_bv (T := 5) (a := o.a) (cap := o.cap) (l := o.data) (K.says_mem h2 (List.mem_map.2 ⟨o, hmem, rfl⟩))
  have h4 : o.data.length ≤ 9223372036854775807 := by
   obtain ⟨w, hw⟩ := h2.1
   have := h2.2 w hw (datA o) (List.mem_map.2 ⟨o, hmem, rfl⟩)
   unfold datA bufA at this
   cases ha : o.a with
   | none => rw [ha] at this; have := this.1; omega
   | some b => rw [ha] at this; obtain ⟨_, _, _, _, _, g4, g5, _⟩ := this; unfold maxLen at g5; omega
  exact ⟨hk o hmem, h4, _, _, rfl, h3⟩
theorem says_page {h : Base} {b : Option Nat} {cap : Nat} {l : List OC} {p : Pag} (hs : Says h (pgA b cap l)) (hk : okO l) (hw : wfP p) (hc : p.cells = l.map OC.cell) : PagC h (cP p (bufV b p.cells.length cap)) p := by
 obtain ⟨h1, h2⟩ := says_row hs hk
 have hl : p.cells.length = l.length := by rw [hc, List.length_map]
 refine ⟨hw, _, rfl, _, by rw [hl]; exact h1, by rw [hc]; exact h2.1, by rw [hc]; exact h2.2.2⟩
def OwnP (h0 : Base) (p : Pag) (v : Value) (h' : Base) (H' : List Asrt) : Prop := h' = h0 ∧ ∃ b cap l, p.cells = l.map OC.cell ∧ okO l ∧ v = .agg (cP p (bufV b p.cells.length cap)).toArray ∧ H' = pgA b cap l
theorem Ok.allPush {h : Base} {A : Asrt} {Hs F : List Asrt} {w : World} (ok : Ok h (A :: all Hs :: F) w) : Ok h (all (Hs ++ [A]) :: F) w := by
 have ok1 := K.Ok.all_iff.1 (ok.perm (List.Perm.swap _ _ _))
 refine K.Ok.all_iff.2 (ok1.perm ?_)
 rw [List.append_assoc]; exact List.Perm.refl _
section
variable {P : Program} {n : NN} {Q : Exit → Act → World → Prop} {E : Env} {h : Base} {H F : List Asrt} {ops : Array Oper}
theorem AT.allPush {q : Exit} {A : Asrt} {Hs : List Asrt} (hx : AT P n Q q E h (all (Hs ++ [A]) :: F)) : AT P n Q q E h (A :: all Hs :: F) := ⟨fun a w fa ok => hx.run a w fa (Ok.allPush ok)⟩
theorem Ok.allNil {w : World} (ok : Ok h F w) : Ok h (all [] :: F) w := K.Ok.all_iff.2 ok
theorem WC.allNil {c : Code} (hx : WC P n c Q E h (all [] :: F)) : WC P n c Q E h F := ⟨fun a w fa ok => hx.run a w fa (Ok.allNil ok)⟩
theorem AT.allNil {q : Exit} (hx : AT P n Q q E h (all [] :: F)) : AT P n Q q E h F := ⟨fun a w fa ok => hx.run a w fa (Ok.allNil ok)⟩
end
/-! ### Rows that are made -/
end Go.Proofs.YtijbhgiigddjdaaGreat.Pg
end

section
namespace Go.Proofs.YtijbhgiigddjdaaGreat.Pg
open Go.K

end Go.Proofs.YtijbhgiigddjdaaGreat.Pg
end

section
namespace Go.Proofs.YtijbhgiigddjdaaGreat.Pg
open Go.K

end Go.Proofs.YtijbhgiigddjdaaGreat.Pg
end

section
namespace Go.Proofs.YtijbhgiigddjdaaGreat.Pg
open Go.K

end Go.Proofs.YtijbhgiigddjdaaGreat.Pg
end

section
namespace Go.Proofs.YtijbhgiigddjdaaGreat.Pg
open Go.K

def putC (kind : Int) (l : List PCell) (i : Nat) (d : List UInt8) : List PCell := if kind = 2 ∨ i = l.length then l.take i ++ ⟨true, 0, d⟩ :: l.drop i else l.set i ⟨true, 0, d⟩
def zP : Pag := ⟨0, 0, 0, []⟩
end Go.Proofs.YtijbhgiigddjdaaGreat.Pg
end

section
namespace Go.Proofs.YtijbhgiigddjdaaGreat.Pg
open Go.K

end Go.Proofs.YtijbhgiigddjdaaGreat.Pg
end
