/-
  Some answers that the document fixes. Conditions: each theorem's own.
-/
import Derived.Test.YtjgfgpdkcojnmaaFn
import Derived.Test.YtjgfgpdkcojnmaaFo
import Derived.Test.YtjgfgpdkcojnmaaKY

namespace Go.Proofs.Ytjgfgpdkcojnmaa.Pg
open Go Go.K Go.Proofs Go.Proofs.Ytjgfgpdkcojnmaa
set_option linter.unusedVariables false
set_option linter.unusedSimpArgs false
set_option maxRecDepth 10000

theorem Ok.back {h h1 : Base} {F : List Asrt} {w : World} (hle : h.le h1) (ok : Ok h1 F w) : Ok h F w :=
  ⟨ok.os.trans hle.os, ok.tape.trans hle.tape, ok.output.trans hle.output, ⟨fun b o hb => ok.sat.imm b o (hle.mem b o hb), ok.sat.own⟩, ok.nd, fun b hb => by
    cases hm : h.mem b with
    | none => rfl
    | some o => have := hle.mem b o hm; rw [ok.dj b hb] at this; cases this⟩
section
variable {P : Program} {n : Nat} {Q : Exit → Act → World → Prop} {E : Env} {h h1 : Base} {F : List Asrt} {ops : Array Oper}
theorem AT.back {q : Exit} (hle : h.le h1) (hx : AT P n Q q E h F) : AT P n Q q E h1 F := ⟨fun a w fa ok => hx.run a w fa (Ok.back hle ok)⟩
theorem WL.back {L : List Oper} (hle : h.le h1) (hx : WL P n ops Q L E h F) : WL P n ops Q L E h1 F := ⟨fun a w fa ok => hx.run a w fa (Ok.back hle ok)⟩
theorem WC.back {c : Code} (hle : h.le h1) (hx : WC P n c Q E h F) : WC P n c Q E h1 F := ⟨fun a w fa ok => hx.run a w fa (Ok.back hle ok)⟩
end
def pA : Pag := ⟨1, 0, 0, []⟩
def pB : Pag := ⟨1, 0, 0, [⟨true, 0, [97, 98]⟩]⟩
def pC : Pag := ⟨1, 0, 0, [⟨true, 0, [97, 98]⟩, ⟨true, 0, [99]⟩]⟩
theorem doA : doQ pA ⟨1, 0, 0, [97, 98]⟩ = (pB, 0) := by decide +kernel
theorem doB : doQ pB ⟨1, 1, 0, [99]⟩ = (pC, 0) := by decide +kernel
theorem doC : doQ pC ⟨1, 1, 0, [99]⟩ = (zP, 7) := by decide +kernel
theorem mayC : mayQ pC = true := by decide +kernel
theorem roomC : roomQ pC = 180 := by decide +kernel
theorem sizeB : sizeQ pB.cells = 26 := by decide +kernel
theorem sizeC33 : sizeQ pC.cells = 33 := by decide +kernel
theorem smallC : small pC.cells := do_small mayC
theorem smallB : small pB.cells := do_small (by decide +kernel)
theorem wfO_of {k s : Int} {d : List UInt8} (h1 : in64 k) (h2 : in64 s) (h3 : d.length ≤ 1000) : wfO ⟨k, s, 0, d⟩ := ⟨h1, h2, (by decide : (0 : Nat) < 4294967296), by show d.length ≤ _; omega⟩
set_option maxHeartbeats 2000000 in
theorem Alive (h : Base) : TrV Try.prog 14 [] h [] (.bool true) [] := by
  refine K.enter Try.func14 rfl (Nat.le_of_ble_eq_true rfl) (fun F => ?_)
  (repeat' (first | (apply K.s_pure; (first | (apply Y.mv; exact X.mv) | (apply Y.sg; exact X.sg) | (apply Y.pk; exact X.pk) | (apply Y.cv; exact X.cv) | (apply Y.ex; exact X.ex) | (apply Y.ld; exact X.ld) | (apply Y.bd; exact X.bd) | (apply Y.len; exact X.len) | (apply Y.beql; exact X.beql)); exact rfl) | refine X.l ?_ | refine X.w ?_ | refine X.a ?_ | (refine K.c_condD rfl (fun hc => ?_) (fun hc => ?_) <;> first | (exfalso; omega) | skip) | refine K.c_cond rfl (fun hc => ?_) (fun hc => ?_) | (refine K.s_guardD rfl rfl (fun hc => ?_) (fun hc => ?_) <;> first | (exfalso; omega) | skip) | refine K.s_guard rfl rfl (fun hc => ?_) (fun hc => ?_)))
  refine X.bs (fun B => ?_)
  refine K.l_mark (Fx.und rfl) (Fx.und rfl) rfl rfl (by unfold maxLen; omega) rfl ?_
  refine K.WL.freezeBuf (l := [97, 98]) (fun h1 le1 hb1 => ?_)
  (repeat' (first | (apply K.s_pure; (first | (apply Y.mv; exact X.mv) | (apply Y.sg; exact X.sg) | (apply Y.pk; exact X.pk) | (apply Y.cv; exact X.cv) | (apply Y.ex; exact X.ex) | (apply Y.ld; exact X.ld) | (apply Y.bd; exact X.bd) | (apply Y.len; exact X.len) | (apply Y.beql; exact X.beql)); exact rfl) | refine X.l ?_ | refine X.w ?_ | refine X.a ?_ | (refine K.c_condD rfl (fun hc => ?_) (fun hc => ?_) <;> first | (exfalso; omega) | skip) | refine K.c_cond rfl (fun hc => ?_) (fun hc => ?_) | (refine K.s_guardD rfl rfl (fun hc => ?_) (fun hc => ?_) <;> first | (exfalso; omega) | skip) | refine K.s_guard rfl rfl (fun hc => ?_) (fun hc => ?_)))
  have ho1 : OpC h1 (cO ⟨1, 0, 0, [97, 98]⟩ (bufV (some B) 2 2)) ⟨1, 0, 0, [97, 98]⟩ := ⟨wfO_of (by decide) (by decide) (by decide), _, _, rfl, hb1⟩
  have hp1 : PagC h1 (cP pA (.slice none 0 0)) pA := ⟨⟨by decide, by decide, by decide, by decide⟩, _, rfl, [], .inl ⟨_, _, rfl, rfl⟩, rfl, fun j c x hc => by cases hc⟩
  have hdo1 := Do h1 _ _ _ _ hp1 ho1
  rw [doA] at hdo1
  refine K.l_call (Fx.cal rfl) rfl hdo1 (K.pp [] rfl) rfl ?_
  rintro u h' H' - ⟨e, b2, cap2, l2, hl2, hk2, rfl, rfl⟩
  obtain rfl := e.symm
  simp only [List.append_nil]
  refine K.WL.freezeA (fun h2 le2 hs2 => ?_)
  have hp2 := says_page (p := pB) hs2 hk2 ⟨by decide, by decide, by decide, by decide⟩ hl2
  rw [show pB.cells.length = l2.length by rw [hl2, List.length_map]] at hp2
  (repeat' (first | (apply K.s_pure; (first | (apply Y.mv; exact X.mv) | (apply Y.sg; exact X.sg) | (apply Y.pk; exact X.pk) | (apply Y.cv; exact X.cv) | (apply Y.ex; exact X.ex) | (apply Y.ld; exact X.ld) | (apply Y.bd; exact X.bd) | (apply Y.len; exact X.len) | (apply Y.beql; exact X.beql)); exact rfl) | refine X.l ?_ | refine X.w ?_ | refine X.a ?_ | (refine K.c_condD rfl (fun hc => ?_) (fun hc => ?_) <;> first | (exfalso; omega) | skip) | refine K.c_cond rfl (fun hc => ?_) (fun hc => ?_) | (refine K.s_guardD rfl rfl (fun hc => ?_) (fun hc => ?_) <;> first | (exfalso; omega) | skip) | refine K.s_guard rfl rfl (fun hc => ?_) (fun hc => ?_)))
  refine K.l_alloc (Fx.zr rfl) rfl rfl (fun B2 => ?_)
  refine X.stw ?_
  simp only [List.set_cons_zero, List.set_cons_succ, List.eraseIdx_cons_zero, List.eraseIdx_cons_succ, List.cons_append, List.nil_append]
  (repeat' (first | (apply K.s_pure; (first | (apply Y.mv; exact X.mv) | (apply Y.sg; exact X.sg) | (apply Y.pk; exact X.pk) | (apply Y.cv; exact X.cv) | (apply Y.ex; exact X.ex) | (apply Y.ld; exact X.ld) | (apply Y.bd; exact X.bd) | (apply Y.len; exact X.len) | (apply Y.beql; exact X.beql)); exact rfl) | refine X.l ?_ | refine X.w ?_ | refine X.a ?_ | (refine K.c_condD rfl (fun hc => ?_) (fun hc => ?_) <;> first | (exfalso; omega) | skip) | refine K.c_cond rfl (fun hc => ?_) (fun hc => ?_) | (refine K.s_guardD rfl rfl (fun hc => ?_) (fun hc => ?_) <;> first | (exfalso; omega) | skip) | refine K.s_guard rfl rfl (fun hc => ?_) (fun hc => ?_)))
  refine X.bs (fun B3 => ?_)
  refine K.l_mark (Fx.und rfl) (Fx.und rfl) rfl rfl (by unfold maxLen; omega) rfl ?_
  refine K.WL.freezeBuf (l := [99]) (fun h3 le3 hb3 => ?_)
  (repeat' (first | (apply K.s_pure; (first | (apply Y.mv; exact X.mv) | (apply Y.sg; exact X.sg) | (apply Y.pk; exact X.pk) | (apply Y.cv; exact X.cv) | (apply Y.ex; exact X.ex) | (apply Y.ld; exact X.ld) | (apply Y.bd; exact X.bd) | (apply Y.len; exact X.len) | (apply Y.beql; exact X.beql)); exact rfl) | refine X.l ?_ | refine X.w ?_ | refine X.a ?_ | (refine K.c_condD rfl (fun hc => ?_) (fun hc => ?_) <;> first | (exfalso; omega) | skip) | refine K.c_cond rfl (fun hc => ?_) (fun hc => ?_) | (refine K.s_guardD rfl rfl (fun hc => ?_) (fun hc => ?_) <;> first | (exfalso; omega) | skip) | refine K.s_guard rfl rfl (fun hc => ?_) (fun hc => ?_)))
  have ho3 : OpC h3 (cO ⟨1, 1, 0, [99]⟩ (bufV (some B3) 1 1)) ⟨1, 1, 0, [99]⟩ := ⟨wfO_of (by decide) (by decide) (by decide), _, _, rfl, hb3⟩
  have hdo3 := Do h3 _ _ _ _ (hp2.le le3) ho3
  rw [doB] at hdo3
  refine K.l_call (Fx.cal rfl) rfl hdo3 (K.pp [] rfl) rfl ?_
  rintro u h' H' - ⟨e, b4, cap4, l4, hl4, hk4, rfl, rfl⟩
  obtain rfl := e.symm
  refine K.WL.freezeA (fun h4 le4 hs4 => ?_)
  have hp4 := says_page (p := pC) hs4 hk4 ⟨by decide, by decide, by decide, by decide⟩ hl4
  rw [show pC.cells.length = l4.length by rw [hl4, List.length_map]] at hp4
  (repeat' (first | (apply K.s_pure; (first | (apply Y.mv; exact X.mv) | (apply Y.sg; exact X.sg) | (apply Y.pk; exact X.pk) | (apply Y.cv; exact X.cv) | (apply Y.ex; exact X.ex) | (apply Y.ld; exact X.ld) | (apply Y.bd; exact X.bd) | (apply Y.len; exact X.len) | (apply Y.beql; exact X.beql)); exact rfl) | refine X.l ?_ | refine X.w ?_ | refine X.a ?_ | (refine K.c_condD rfl (fun hc => ?_) (fun hc => ?_) <;> first | (exfalso; omega) | skip) | refine K.c_cond rfl (fun hc => ?_) (fun hc => ?_) | (refine K.s_guardD rfl rfl (fun hc => ?_) (fun hc => ?_) <;> first | (exfalso; omega) | skip) | refine K.s_guard rfl rfl (fun hc => ?_) (fun hc => ?_)))
  refine K.l_alloc (Fx.zr rfl) rfl rfl (fun B4 => ?_)
  refine X.stw ?_
  simp only [List.set_cons_zero, List.set_cons_succ, List.eraseIdx_cons_zero, List.eraseIdx_cons_succ, List.cons_append, List.nil_append]
  (repeat' (first | (apply K.s_pure; (first | (apply Y.mv; exact X.mv) | (apply Y.sg; exact X.sg) | (apply Y.pk; exact X.pk) | (apply Y.cv; exact X.cv) | (apply Y.ex; exact X.ex) | (apply Y.ld; exact X.ld) | (apply Y.bd; exact X.bd) | (apply Y.len; exact X.len) | (apply Y.beql; exact X.beql)); exact rfl) | refine X.l ?_ | refine X.w ?_ | refine X.a ?_ | (refine K.c_condD rfl (fun hc => ?_) (fun hc => ?_) <;> first | (exfalso; omega) | skip) | refine K.c_cond rfl (fun hc => ?_) (fun hc => ?_) | (refine K.s_guardD rfl rfl (fun hc => ?_) (fun hc => ?_) <;> first | (exfalso; omega) | skip) | refine K.s_guard rfl rfl (fun hc => ?_) (fun hc => ?_)))
  refine X.bs (fun B5 => ?_)
  refine K.l_mark (Fx.und rfl) (Fx.und rfl) rfl rfl (by unfold maxLen; omega) rfl ?_
  refine K.WL.freezeBuf (l := [99]) (fun h5 le5 hb5 => ?_)
  (repeat' (first | (apply K.s_pure; (first | (apply Y.mv; exact X.mv) | (apply Y.sg; exact X.sg) | (apply Y.pk; exact X.pk) | (apply Y.cv; exact X.cv) | (apply Y.ex; exact X.ex) | (apply Y.ld; exact X.ld) | (apply Y.bd; exact X.bd) | (apply Y.len; exact X.len) | (apply Y.beql; exact X.beql)); exact rfl) | refine X.l ?_ | refine X.w ?_ | refine X.a ?_ | (refine K.c_condD rfl (fun hc => ?_) (fun hc => ?_) <;> first | (exfalso; omega) | skip) | refine K.c_cond rfl (fun hc => ?_) (fun hc => ?_) | (refine K.s_guardD rfl rfl (fun hc => ?_) (fun hc => ?_) <;> first | (exfalso; omega) | skip) | refine K.s_guard rfl rfl (fun hc => ?_) (fun hc => ?_)))
  have ho5 : OpC h5 (cO ⟨1, 1, 0, [99]⟩ (bufV (some B5) 1 1)) ⟨1, 1, 0, [99]⟩ := ⟨wfO_of (by decide) (by decide) (by decide), _, _, rfl, hb5⟩
  have hdo5 := Do h5 _ _ _ _ (hp4.le le5) ho5
  rw [doC] at hdo5
  refine K.l_call (Fx.cal rfl) rfl hdo5 (K.pp [] rfl) rfl ?_
  rintro u h' H' - ⟨e, b6, cap6, l6, hl6, hk6, rfl, rfl⟩
  obtain rfl := e.symm
  refine K.WL.freezeA (fun h6 le6 hs6 => ?_)
  (repeat' (first | (apply K.s_pure; (first | (apply Y.mv; exact X.mv) | (apply Y.sg; exact X.sg) | (apply Y.pk; exact X.pk) | (apply Y.cv; exact X.cv) | (apply Y.ex; exact X.ex) | (apply Y.ld; exact X.ld) | (apply Y.bd; exact X.bd) | (apply Y.len; exact X.len) | (apply Y.beql; exact X.beql)); exact rfl) | refine X.l ?_ | refine X.w ?_ | refine X.a ?_ | (refine K.c_condD rfl (fun hc => ?_) (fun hc => ?_) <;> first | (exfalso; omega) | skip) | refine K.c_cond rfl (fun hc => ?_) (fun hc => ?_) | (refine K.s_guardD rfl rfl (fun hc => ?_) (fun hc => ?_) <;> first | (exfalso; omega) | skip) | refine K.s_guard rfl rfl (fun hc => ?_) (fun hc => ?_)))
  refine K.l_alloc (Fx.zr rfl) rfl rfl (fun B6 => ?_)
  refine X.stw ?_
  simp only [List.set_cons_zero, List.set_cons_succ, List.eraseIdx_cons_zero, List.eraseIdx_cons_succ, List.cons_append, List.nil_append]
  (repeat' (first | (apply K.s_pure; (first | (apply Y.mv; exact X.mv) | (apply Y.sg; exact X.sg) | (apply Y.pk; exact X.pk) | (apply Y.cv; exact X.cv) | (apply Y.ex; exact X.ex) | (apply Y.ld; exact X.ld) | (apply Y.bd; exact X.bd) | (apply Y.len; exact X.len) | (apply Y.beql; exact X.beql)); exact rfl) | refine X.l ?_ | refine X.w ?_ | refine X.a ?_ | (refine K.c_condD rfl (fun hc => ?_) (fun hc => ?_) <;> first | (exfalso; omega) | skip) | refine K.c_cond rfl (fun hc => ?_) (fun hc => ?_) | (refine K.s_guardD rfl rfl (fun hc => ?_) (fun hc => ?_) <;> first | (exfalso; omega) | skip) | refine K.s_guard rfl rfl (fun hc => ?_) (fun hc => ?_)))
  have hp5 := (hp4.le le5).le le6
  refine K.l_call (Fx.cal rfl) rfl (Encode h6 _ pC hp5) (K.pp [] rfl) rfl ?_
  rw [show encQ pC = (encB pC, 0) by rw [encQ, if_pos mayC]]
  rintro u h' H' - ⟨e, a7, cap7, rfl, rfl⟩
  obtain rfl := e.symm
  rw [encB_len mayC]
  (repeat' (first | (apply K.s_pure; (first | (apply Y.mv; exact X.mv) | (apply Y.sg; exact X.sg) | (apply Y.pk; exact X.pk) | (apply Y.cv; exact X.cv) | (apply Y.ex; exact X.ex) | (apply Y.ld; exact X.ld) | (apply Y.bd; exact X.bd) | (apply Y.len; exact X.len) | (apply Y.beql; exact X.beql)); exact rfl) | refine X.l ?_ | refine X.w ?_ | refine X.a ?_ | (refine K.c_condD rfl (fun hc => ?_) (fun hc => ?_) <;> first | (exfalso; omega) | skip) | refine K.c_cond rfl (fun hc => ?_) (fun hc => ?_) | (refine K.s_guardD rfl rfl (fun hc => ?_) (fun hc => ?_) <;> first | (exfalso; omega) | skip) | refine K.s_guard rfl rfl (fun hc => ?_) (fun hc => ?_)))
  refine K.l_callV (Fx.cal rfl) rfl (PSize h6 _ pB ((((hp2.le le3).le le4).le le5).le le6) smallB) (K.pp [] rfl) rfl rfl ?_
  rw [sizeB]
  simp only [List.nil_append]
  (repeat' (first | (apply K.s_pure; (first | (apply Y.mv; exact X.mv) | (apply Y.sg; exact X.sg) | (apply Y.pk; exact X.pk) | (apply Y.cv; exact X.cv) | (apply Y.ex; exact X.ex) | (apply Y.ld; exact X.ld) | (apply Y.bd; exact X.bd) | (apply Y.len; exact X.len) | (apply Y.beql; exact X.beql)); exact rfl) | refine X.l ?_ | refine X.w ?_ | refine X.a ?_ | (refine K.c_condD rfl (fun hc => ?_) (fun hc => ?_) <;> first | (exfalso; omega) | skip) | refine K.c_cond rfl (fun hc => ?_) (fun hc => ?_) | (refine K.s_guardD rfl rfl (fun hc => ?_) (fun hc => ?_) <;> first | (exfalso; omega) | skip) | refine K.s_guard rfl rfl (fun hc => ?_) (fun hc => ?_)))
  refine K.l_callV (Fx.cal rfl) rfl (PSize h6 _ pC hp5 smallC) (K.pp [] rfl) rfl rfl ?_
  rw [sizeC33]
  simp only [List.nil_append]
  (repeat' (first | (apply K.s_pure; (first | (apply Y.mv; exact X.mv) | (apply Y.sg; exact X.sg) | (apply Y.pk; exact X.pk) | (apply Y.cv; exact X.cv) | (apply Y.ex; exact X.ex) | (apply Y.ld; exact X.ld) | (apply Y.bd; exact X.bd) | (apply Y.len; exact X.len) | (apply Y.beql; exact X.beql)); exact rfl) | refine X.l ?_ | refine X.w ?_ | refine X.a ?_ | (refine K.c_condD rfl (fun hc => ?_) (fun hc => ?_) <;> first | (exfalso; omega) | skip) | refine K.c_cond rfl (fun hc => ?_) (fun hc => ?_) | (refine K.s_guardD rfl rfl (fun hc => ?_) (fun hc => ?_) <;> first | (exfalso; omega) | skip) | refine K.s_guard rfl rfl (fun hc => ?_) (fun hc => ?_)))
  refine K.l_callV (Fx.cal rfl) rfl (Room h6 _ pC hp5) (K.pp [] rfl) rfl rfl ?_
  rw [roomC]
  simp only [List.nil_append]
  (repeat' (first | (apply K.s_pure; (first | (apply Y.mv; exact X.mv) | (apply Y.sg; exact X.sg) | (apply Y.pk; exact X.pk) | (apply Y.cv; exact X.cv) | (apply Y.ex; exact X.ex) | (apply Y.ld; exact X.ld) | (apply Y.bd; exact X.bd) | (apply Y.len; exact X.len) | (apply Y.beql; exact X.beql)); exact rfl) | refine X.l ?_ | refine X.w ?_ | refine X.a ?_ | (refine K.c_condD rfl (fun hc => ?_) (fun hc => ?_) <;> first | (exfalso; omega) | skip) | refine K.c_cond rfl (fun hc => ?_) (fun hc => ?_) | (refine K.s_guardD rfl rfl (fun hc => ?_) (fun hc => ?_) <;> first | (exfalso; omega) | skip) | refine K.s_guard rfl rfl (fun hc => ?_) (fun hc => ?_)))
  refine K.l_callV (Fx.cal rfl) rfl (PMay h6 _ pC hp5) (K.pp [] rfl) rfl rfl ?_
  rw [mayC]
  simp only [List.nil_append]
  (repeat' (first | (apply K.s_pure; (first | (apply Y.mv; exact X.mv) | (apply Y.sg; exact X.sg) | (apply Y.pk; exact X.pk) | (apply Y.cv; exact X.cv) | (apply Y.ex; exact X.ex) | (apply Y.ld; exact X.ld) | (apply Y.bd; exact X.bd) | (apply Y.len; exact X.len) | (apply Y.beql; exact X.beql)); exact rfl) | refine X.l ?_ | refine X.w ?_ | refine X.a ?_ | (refine K.c_condD rfl (fun hc => ?_) (fun hc => ?_) <;> first | (exfalso; omega) | skip) | refine K.c_cond rfl (fun hc => ?_) (fun hc => ?_) | (refine K.s_guardD rfl rfl (fun hc => ?_) (fun hc => ?_) <;> first | (exfalso; omega) | skip) | refine K.s_guard rfl rfl (fun hc => ?_) (fun hc => ?_)))
  refine K.AT.sel [0, 0, 0, 0] rfl ?_
  refine AT.back (((((le1.trans le2).trans le3).trans le4).trans le5).trans le6) ?_
  refine K.done (by first | exact Or.inl rfl | exact Or.inr rfl) rfl (by first | exact K.Base.le.refl _ | assumption) (H' := []) rfl ⟨rfl, rfl, rfl⟩
end Go.Proofs.Ytjgfgpdkcojnmaa.Pg
