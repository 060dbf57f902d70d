/-
  Pages whose memory is their owner's; clones. Conditions: each theorem's own.
-/
import Derived.Test.YtahdbncfegedjaaGreatFh

namespace Go.Proofs.YtahdbncfegedjaaGreat.Pg
open Go Go.K Go.Proofs Go.Proofs.YtahdbncfegedjaaGreat
set_option linter.unusedVariables false
set_option linter.unusedSimpArgs false
set_option maxRecDepth 10000

structure OC where
  used : Bool
  killer : Nat
  a : Option Nat
  cap : Nat
  data : List UInt8
def OC.cell (c : OC) : PCell := ⟨c.used, c.killer, c.data⟩
def rowO (c : OC) : List Value := [.bool c.used, .int .u32 c.killer, bufV c.a c.data.length c.cap]
def datA (c : OC) : Asrt := bufA 5 1 c.a c.data.length c.cap (c.data.map u8)
/-- The memory of a page: the row of its cells, and their bytes. -/
def pgA (b : Option Nat) (cap : Nat) (l : List OC) : List Asrt := [bufA 74 3 b l.length cap (l.map rowO).flatten, all (l.map datA)]
def okO (l : List OC) : Prop := ∀ c ∈ l, c.killer < 4294967296
theorem rowO_len (l : List OC) : ∀ e ∈ l.map rowO, e.length = 3 := fun e he => by
  obtain ⟨c, _, rfl⟩ := List.mem_map.1 he
  rfl
theorem says_row {h : Base} {b : Option Nat} {cap : Nat} {l : List OC} (hs : Says h (pgA b cap l)) (hk : okO l) : SL h 3 (bufV b l.length cap) (l.map rowO) ∧ RowC h (l.map rowO) (l.map OC.cell) := by
  have h1 := K.says_mem hs (List.mem_cons_self ..)
  have h2 := K.says_all (K.says_mem hs (List.mem_cons_of_mem _ (List.mem_cons_self ..)))
  have hl : (l.map rowO).length = l.length := List.length_map ..
  have hsl := K.says_sl (T := 74) (a := b) (cap := cap) (es := l.map rowO) (rowO_len l) (by rw [hl]; exact h1)
  rw [hl] at hsl
  refine ⟨hsl, by simp, rowO_len l, fun j c x hj hx => ?_⟩
  rw [List.getElem?_map] at hj hx
  cases hc : l[j]? with
  | none => rw [hc] at hj; cases hj
  | some o =>
    rw [hc] at hj hx
    cases hj; cases hx
    have hmem := List.mem_of_getElem? hc
    have h3 := K.says_bv (T := 5) (a := o.a) (cap := o.cap) (l := o.data) (K.says_mem h2 (List.mem_map.2 ⟨o, hmem, rfl⟩))
    have h4 : o.data.length ≤ 9223372036854775807 := by
      obtain ⟨w, hw⟩ := h2.1
      have := h2.2 w hw (datA o) (List.mem_map.2 ⟨o, hmem, rfl⟩)
      unfold datA bufA at this
      cases ha : o.a with
      | none => rw [ha] at this; have := this.1; omega
      | some b => rw [ha] at this; obtain ⟨_, _, _, _, _, g4, g5, _⟩ := this; unfold maxLen at g5; omega
    exact ⟨hk o hmem, h4, _, _, rfl, h3⟩
theorem says_page {h : Base} {b : Option Nat} {cap : Nat} {l : List OC} {p : Pag} (hs : Says h (pgA b cap l)) (hk : okO l) (hw : wfP p) (hc : p.cells = l.map OC.cell) : PagC h (cP p (bufV b p.cells.length cap)) p := by
  obtain ⟨h1, h2⟩ := says_row hs hk
  have hl : p.cells.length = l.length := by rw [hc, List.length_map]
  refine ⟨hw, _, rfl, _, by rw [hl]; exact h1, by rw [hc]; exact h2.1, by rw [hc]; exact h2.2.2⟩
/-- A page all of whose memory is its owner's. -/
def OwnP (h0 : Base) (p : Pag) (v : Value) (h' : Base) (H' : List Asrt) : Prop := h' = h0 ∧ ∃ b cap l, p.cells = l.map OC.cell ∧ okO l ∧ v = .agg (cP p (bufV b p.cells.length cap)).toArray ∧ H' = pgA b cap l
theorem Ok.allPerm {h : Base} {A B F : List Asrt} {w : World} (hp : A.Perm B) (ok : Ok h (all A :: F) w) : Ok h (all B :: F) w :=
  K.Ok.all_iff.2 ((K.Ok.all_iff.1 ok).perm (hp.append_right F))
theorem Ok.allPush {h : Base} {A : Asrt} {Hs F : List Asrt} {w : World} (ok : Ok h (A :: all Hs :: F) w) : Ok h (all (Hs ++ [A]) :: F) w := by
  have ok1 := K.Ok.all_iff.1 (ok.perm (List.Perm.swap _ _ _))
  refine K.Ok.all_iff.2 (ok1.perm ?_)
  rw [List.append_assoc]; exact List.Perm.refl _
section
variable {P : Program} {n : NN} {Q : Exit → Act → World → Prop} {E : Env} {h : Base} {H F : List Asrt} {ops : Array Oper}
theorem AT.allPush {q : Exit} {A : Asrt} {Hs : List Asrt} (hx : AT P n Q q E h (all (Hs ++ [A]) :: F)) : AT P n Q q E h (A :: all Hs :: F) := ⟨fun a w fa ok => hx.run a w fa (Ok.allPush ok)⟩
theorem AT.allPerm {q : Exit} {A B : List Asrt} (hp : A.Perm B) (hx : AT P n Q q E h (all B :: F)) : AT P n Q q E h (all A :: F) := ⟨fun a w fa ok => hx.run a w fa (Ok.allPerm hp ok)⟩
theorem WL.allPush {L : List Oper} {A : Asrt} {Hs : List Asrt} (hx : WL P n ops Q L E h (all (Hs ++ [A]) :: F)) : WL P n ops Q L E h (A :: all Hs :: F) := ⟨fun a w fa ok => hx.run a w fa (Ok.allPush ok)⟩
theorem WL.allPerm {L : List Oper} {A B : List Asrt} (hp : A.Perm B) (hx : WL P n ops Q L E h (all B :: F)) : WL P n ops Q L E h (all A :: F) := ⟨fun a w fa ok => hx.run a w fa (Ok.allPerm hp ok)⟩
theorem Ok.allNil {w : World} (ok : Ok h F w) : Ok h (all [] :: F) w := K.Ok.all_iff.2 ok
theorem WL.allNil {L : List Oper} (hx : WL P n ops Q L E h (all [] :: F)) : WL P n ops Q L E h F := ⟨fun a w fa ok => hx.run a w fa (Ok.allNil ok)⟩
theorem WC.allNil {c : Code} (hx : WC P n c Q E h (all [] :: F)) : WC P n c Q E h F := ⟨fun a w fa ok => hx.run a w fa (Ok.allNil ok)⟩
theorem AT.allNil {q : Exit} (hx : AT P n Q q E h (all [] :: F)) : AT P n Q q E h F := ⟨fun a w fa ok => hx.run a w fa (Ok.allNil ok)⟩
end
/-! ### Rows that are made -/
theorem rep_flat (zs : List Value) : ∀ (m i : Nat), i < m * zs.length → (List.replicate m zs).flatten[i]? = zs[i % zs.length]?
  | 0, i, hi => by simp at hi
  | m + 1, i, hi => by
    rw [List.replicate_succ, List.flatten_cons]
    by_cases h : i < zs.length
    · rw [List.getElem?_append_left h, Nat.mod_eq_of_lt h]
    · rw [List.getElem?_append_right (by omega), rep_flat zs m (i - zs.length) (by rw [Nat.add_mul] at hi; omega)]
      congr 1
      rw [← Nat.mod_eq_sub_mod (by omega)]
theorem made_rows (zs : List Value) (m c : Nat) (hm : m ≤ c) (hz : 0 < zs.length) : (madeCells zs.toArray (c * zs.length)).toList.take (m * zs.length) = (List.replicate m zs).flatten := by
  have hmc : m * zs.length ≤ c * zs.length := Nat.mul_le_mul_right _ hm
  have hfl : (List.replicate m zs).flatten.length = m * zs.length := by rw [K.flatten_len (s := zs.length) _ fun e he => by rw [List.eq_of_mem_replicate he], List.length_replicate]
  refine List.ext_getElem? fun i => ?_
  by_cases hi : i < m * zs.length
  · rw [List.getElem?_take, if_pos hi, rep_flat zs m i hi]
    simp only [madeCells, List.size_toArray, Array.toList_map, Array.toList_range, List.getElem?_map]
    rw [List.getElem?_range (by omega)]
    have hlt := Nat.mod_lt i hz
    simp [hlt]
  · have hml : (madeCells zs.toArray (c * zs.length)).toList.length = c * zs.length := (Array.length_toList ..).trans (size_madeCells _ _)
    rw [List.getElem?_eq_none (by rw [List.length_take, hml]; omega), List.getElem?_eq_none (by omega)]
def zrow : List Value := [.bool false, .int .u32 0, .slice none 0 0]
/-- A row that is filled from its head on. -/
def fillR (l : List OC) (m : Nat) : List (List Value) := l.map rowO ++ List.replicate (m - l.length) zrow
theorem fillR_len {l : List OC} {m : Nat} (h : l.length ≤ m) : (fillR l m).length = m := by simp [fillR]; omega
theorem fillR_three (l : List OC) (m : Nat) : ∀ e ∈ fillR l m, e.length = 3 := fun e he => by
  rcases List.mem_append.1 he with he | he
  · exact rowO_len l e he
  · rw [List.eq_of_mem_replicate he]; rfl
theorem fillR_set {l : List OC} {m : Nat} (h : l.length < m) (c : OC) : (fillR l m).set l.length (rowO c) = fillR (l ++ [c]) m := by
  unfold fillR
  rw [List.set_append, if_neg (by simp), List.length_map, Nat.sub_self, List.length_append, List.length_singleton]
  rw [show m - l.length = (m - (l.length + 1)) + 1 by omega, List.replicate_succ, List.set_cons_zero, List.map_append, List.append_assoc]
  rfl
set_option maxHeartbeats 1000000 in
theorem PClone (h : Base) (cs : List Value) (p : Pag) (hx : PagC h cs p) (hs : small p.cells) : Tr Tryz.prog 74 [.agg cs.toArray] h [] (fun v h' H' => h' = h ∧ ∃ b l, p.cells = l.map OC.cell ∧ okO l ∧ v = .agg (cP p (bufV (some b) p.cells.length (p.cells.length + 1))).toArray ∧ H' = pgA (some b) (p.cells.length + 1) l) := by
  obtain ⟨hw, cv, rfl, es, hv, hel, hr⟩ := hx
  have hlen := hw.len
  obtain ⟨ao, ca, rfl⟩ := hv.len
  rw [hel] at hv ⊢
  generalize hpl : p.cells = l at hv hel hr hlen hs ⊢
  have hl400 := hs.1
  refine K.enter Tryz.func74 rfl (Nat.le_of_ble_eq_true rfl) (fun F => ?_)
  (repeat' (first | refine X.rq ?_ | (refine X.rc ?_ ?_ <;> intro hc <;> first | (exfalso; omega) | skip)))
  refine K.l_box rfl rfl rfl (fun B1 => ?_)
  refine K.l_alloc (Fx.zr rfl) rfl rfl (fun B2 => ?_)
  (repeat' (first | refine X.rq ?_ | (refine X.rc ?_ ?_ <;> intro hc <;> first | (exfalso; omega) | skip)))
  refine K.l_makeSlice (m := l.length) (c := l.length + 1) (Fx.und rfl) (Fx.sz rfl) (Fx.zr rfl) rfl (Fx.byt rfl) rfl rfl (by omega) (by omega) (by unfold maxLen; omega) rfl (fun B3 => ?_)
  rw [show (Value.agg [Value.bool false, Value.int .u32 0, Value.slice none 0 0].toArray).cells = zrow.toArray from rfl, show (3 : Nat) = zrow.length from rfl, made_rows zrow l.length (l.length + 1) (by omega) (by decide), show zrow.length = 3 from rfl]
  (repeat' (first | refine X.rq ?_ | (refine X.rc ?_ ?_ <;> intro hc <;> first | (exfalso; omega) | skip)))
  refine WC.allNil ?_
  refine K.c_loop (σ := List OC) (fun m => [(1, .pointer (some ⟨B1, 0, none⟩)), (2, .pointer (some ⟨B2, 0, none⟩)), (3, bufV (some B3) l.length (l.length + 1)), (15, .slice ao l.length ca), (16, .int .i64 l.length), (17, .int .i64 m.length)]) (fun _ => h)
    (fun m => all (m.map datA) :: bufA 74 3 (some B3) l.length (l.length + 1) (fillR m l.length).flatten :: blk B2 62 (cP ⟨0, 0, 0, []⟩ (.slice none 0 0)) :: blk B1 62 (cP p (.slice ao l.length ca)) :: F)
    (fun m => m.length ≤ l.length ∧ m.map OC.cell = l.take m.length ∧ okO m) (fun m => l.length - m.length) [] ⟨Nat.zero_le _, rfl, fun c hc => by cases hc⟩ (by repeat (first | exact K.Sub.nil _ | refine K.Sub.cons rfl ?_)) rfl rfl ?_
  rintro m ⟨hj, hmc, hmk⟩ KL hKL
  by_cases hjl : m.length < l.length
  · have hc1 : es[m.length]? = some (es[m.length]'(by omega)) := List.getElem?_eq_getElem (by omega)
    have hc0 : es[((m.length : Nat) : Int).toNat]? = some (es[m.length]'(by omega)) := by rw [Int.toNat_natCast]; exact hc1
    have he1 : l[m.length]? = some l[m.length] := List.getElem?_eq_getElem hjl
    generalize es[m.length]'(by omega) = c at hc0 hc1
    have hmem : l[m.length] ∈ l := List.getElem_mem hjl
    generalize l[m.length] = x at he1 hmem
    have hd4 := hs.2 x hmem
    obtain ⟨hkl, hdl, ao3, ca3, rfl, hbv⟩ := hr m.length c x hc1 he1
    (repeat' (first | refine X.rq ?_ | (refine X.rc ?_ ?_ <;> intro hc <;> first | (exfalso; omega) | skip)))
    refine K.s_pureE (K.p_indexL hv (Fx.und rfl) (Fx.sz rfl) rfl rfl (by omega) hc0) rfl ?_
    rintro v2 ⟨b, o, rfl, hcel⟩
    refine K.s_pure (K.p_loadM (Fx.agg rfl) rfl (Cels.up hcel) (Fx.sz rfl) rfl) rfl ?_
    refine K.l_alloc (Fx.zr rfl) rfl rfl (fun B5 => ?_)
    (repeat' (first | refine X.rq ?_ | (refine X.rc ?_ ?_ <;> intro hc <;> first | (exfalso; omega) | skip)))
    refine X.stw ?_
    simp only [List.set_cons_zero, List.set_cons_succ, List.eraseIdx_cons_zero, List.eraseIdx_cons_succ, List.cons_append, List.nil_append]
    (repeat' (first | refine X.rq ?_ | (refine X.rc ?_ ?_ <;> intro hc <;> first | (exfalso; omega) | skip)))
    refine K.WC.perm (K.pp [2] rfl) ?_
    refine K.oc_buf (fun e _ _ _ => by cases e) ?_
    rintro bb sp fz e g2 g3 g4 g5 g6
    cases e
    simp only [List.set_cons_zero, List.set_cons_succ, List.eraseIdx_cons_zero, List.eraseIdx_cons_succ, List.cons_append, List.nil_append]
    refine X.draw ([blk B5 74 [.bool x.used, .int .u32 x.killer, .slice ao3 x.data.length ca3]]) [] (.pu 0 (.pu 1 (.pu 2 (.pu 4 (.pu 6 (.st 3 (.st 5 (.st 7 (.on 8 (.pu 9 (.pu 10 (.on 11 .nil)))))))))))) ?_
    refine K.d_pu rfl (fun _ _ => X.mv) rfl ?_
    refine K.d_pu rfl (fun _ _ => X.mv) rfl ?_
    refine K.d_pu rfl (fun _ _ => X.fa) rfl ?_
    refine K.d_pu rfl (fun _ _ => X.fa) rfl ?_
    refine K.d_pu rfl (fun _ _ => X.fa) rfl ?_
    refine K.d_st rfl X.ld rfl ?_
    refine K.d_st rfl X.ld rfl ?_
    refine K.d_st rfl X.ld rfl ?_
    refine K.d_on rfl (fun KK hKK => ?_)
    refine K.l_call (Fx.cal rfl) rfl (Clone h _ x.data hbv (by omega)) (K.pp [] rfl) rfl ?_
    rintro u h' H' - ⟨e, a2, cap2, rfl, rfl⟩
    obtain rfl := e.symm
    simp only [List.set_cons_zero, List.set_cons_succ, List.eraseIdx_cons_zero, List.eraseIdx_cons_succ, List.cons_append, List.nil_append]
    refine K.l_nil ?_
    refine X.onE hKK ?_
    refine K.d_pu rfl (fun _ _ => X.bd) rfl ?_
    refine K.d_pu rfl (fun _ _ => X.ia) rfl ?_
    refine K.d_on rfl (fun KK hKK => ?_)
    refine K.WL.perm (K.pp [1] rfl) ?_
    simp only [List.set_cons_zero, List.set_cons_succ, List.eraseIdx_cons_zero, List.eraseIdx_cons_succ, List.cons_append, List.nil_append]
    refine K.l_storeRow (s := 3) (i := m.length) (us := rowO ⟨x.used, x.killer, a2, cap2, x.data⟩) (Fx.sz rfl) (by show some (Value.pointer (some ⟨B3, 0 + ((m.length : Nat) : Int).toNat * 3, none⟩)) = _; rw [Nat.zero_add]; rfl) rfl rfl (fillR_three _ _) rfl (by rw [fillR_len hj]; exact hjl) (fun o ho => g6 o (by rw [fillR_len hj] at ho; omega)) ?_
    rw [fillR_set hjl ⟨x.used, x.killer, a2, cap2, x.data⟩]
    refine K.l_nil ?_
    refine X.onE hKK ?_
    refine K.d_nil ?_
    (repeat' (first | refine X.rq ?_ | (refine X.rc ?_ ?_ <;> intro hc <;> first | (exfalso; omega) | skip)))
    have hj1 : (m ++ [(⟨x.used, x.killer, a2, cap2, x.data⟩ : OC)]).length ≤ l.length := by rw [List.length_append, List.length_singleton]; omega
    have hfl1 : (fillR m l.length).flatten.length = l.length * 3 := by rw [K.flatten_len _ (fillR_three _ _), fillR_len hj]
    have hfl2 : (fillR (m ++ [(⟨x.used, x.killer, a2, cap2, x.data⟩ : OC)]) l.length).flatten.length = l.length * 3 := by rw [K.flatten_len _ (fillR_three _ _), fillR_len hj1]
    refine K.AT.shut (s := 3) (m := l.length) (cap := l.length + 1) hfl2 (by rw [List.length_append, hfl2, ← hfl1, ← List.length_append]; exact g3) g4 g5 g6 ?_
    refine K.AT.perm (K.pp [1, 2] rfl) ?_
    simp only [List.set_cons_zero, List.set_cons_succ, List.eraseIdx_cons_zero, List.eraseIdx_cons_succ, List.cons_append, List.nil_append]
    refine AT.allPush (A := datA ⟨x.used, x.killer, a2, cap2, x.data⟩) (Hs := m.map datA) ?_
    refine K.AT.perm (K.pp [2] rfl) ?_
    simp only [List.set_cons_zero, List.set_cons_succ, List.eraseIdx_cons_zero, List.eraseIdx_cons_succ, List.cons_append, List.nil_append]
    refine K.AT.drop ?_
    refine K.a_round hKL (m ++ [(⟨x.used, x.killer, a2, cap2, x.data⟩ : OC)]) ⟨hj1, ?_, fun c hc => ?_⟩ ?_ rfl ?_ (by rw [List.length_append, List.length_singleton]; omega)
    · rw [List.map_append, hmc, List.length_append, List.length_singleton, List.take_add_one, he1]
      rfl
    · rcases List.mem_append.1 hc with hc | hc
      · exact hmk c hc
      · rw [List.mem_singleton.1 hc]; exact hkl
    · rw [List.length_append, List.length_singleton, Int.natCast_add]
      exact (by repeat (first | exact K.Sub.nil _ | refine K.Sub.cons rfl ?_))
    · rw [List.map_append]; rfl
  · have hml : m.length = l.length := by omega
    rw [hml, List.take_length] at hmc
    have hfr : (fillR m l.length) = m.map rowO := by rw [fillR, hml, Nat.sub_self]; simp
    rw [hfr]
    (repeat' (first | refine X.rq ?_ | (refine X.rc ?_ ?_ <;> intro hc <;> first | (exfalso; omega) | skip)))
    refine X.sto ?_
    simp only [List.set_cons_zero, List.set_cons_succ, List.eraseIdx_cons_zero, List.eraseIdx_cons_succ, List.cons_append, List.nil_append]
    (repeat' (first | refine X.rq ?_ | (refine X.rc ?_ ?_ <;> intro hc <;> first | (exfalso; omega) | skip)))
    refine X.stw ?_
    simp only [List.set_cons_zero, List.set_cons_succ, List.eraseIdx_cons_zero, List.eraseIdx_cons_succ, List.cons_append, List.nil_append]
    (repeat' (first | refine X.rq ?_ | (refine X.rc ?_ ?_ <;> intro hc <;> first | (exfalso; omega) | skip)))
    refine K.AT.perm (K.pp [2, 2, 1, 0] rfl) ?_
    simp only [List.set_cons_zero, List.set_cons_succ, List.eraseIdx_cons_zero, List.eraseIdx_cons_succ, List.cons_append, List.nil_append]
    refine K.doneC (vs := [.agg (cP p (bufV (some B3) l.length (l.length + 1))).toArray]) (by first | exact Or.inl rfl | exact Or.inr rfl) (.cell rfl (Fx.agg rfl) (Fx.sz rfl) (by first | exact K.cels_own (pre := []) (post := []) 0 rfl rfl | exact K.cels_own (pre := []) (post := []) 1 rfl rfl) .nil) (by first | exact K.Base.le.refl _ | assumption) (D := [_, _]) (H' := [bufA 74 3 (some B3) l.length (l.length + 1) (m.map rowO).flatten, all (m.map datA)]) rfl ⟨rfl, B3, m, hmc.symm, hmk, rfl, ?_⟩
    rw [pgA, hml]
end Go.Proofs.YtahdbncfegedjaaGreat.Pg
