/-
 The pages that come of history repeated are the document's: walked. Conditions: each theorem's own.
-/
import Derived.Test.YtkdngpiiecmpgaaGreatQ40
import Derived.Test.YtkdngpiiecmpgaaGreatQ45
namespace Go.Proofs.YtkdngpiiecmpgaaGreat.Ch
open Go Go.K Go.Proofs Go.Proofs.YtkdngpiiecmpgaaGreat Go.Proofs.YtkdngpiiecmpgaaGreat.Pg Go.Proofs.YtkdngpiiecmpgaaGreat.Rc
set_option linter.unusedVariables false
set_option linter.unusedSimpArgs false
set_option maxRecDepth 10000

section
variable {h h' : Base} {L : List Nat}
theorem row_lt {j n sz i : Nat} (hj : j < n) (hi : i < sz) : j * sz + i < n * sz := by
 have : (j + 1) * sz ≤ n * sz := Nat.mul_le_mul_right _ hj
 rw [Nat.add_mul, Nat.one_mul] at this
 omega
theorem spR {sz n c : Nat} {ao : Option Addr} {es : List (List Value)} (hw : ∃ w, Sat h' [] w) (hL : ∀ b arr T fz, h.mem b = none → h'.mem b = some (.cells arr T fz) → b ∈ L) (hv : SL h' sz (.slice ao n c) es) (hf : Fsh h h' sz (.slice ao n c)) {j : Nat} {e : List Value} (hj : es[j]? = some e) (hjn : j < n) :
  ∃ b arr T fz, ao = some ⟨b, 0, none⟩ ∧ b ∈ L ∧ h'.mem b = some (.cells arr T fz) ∧ (∀ i, i < sz → (decide (fz.1 ≤ j * sz + i) && decide (j * sz + i < fz.2)) = false) ∧ ∀ g, Cmp h' L g → ∀ (i : Nat) u, e[i]? = some u → ∃ u', (g b)[j * sz + i]? = some u' ∧ cmp1 u u' := by
 obtain ⟨b, arr, T, fz, e1, e2, e3, e4⟩ := hf _ _ _ rfl (by omega)
 refine ⟨b, arr, T, fz, e1, hL b arr T fz e2 e3, e3, fun i hi => e4 _ (row_lt hjn hi), fun g hg i u hu => ?_⟩
 rcases hv with ⟨_, _, _, rfl⟩ | ⟨b', o, c', hve, _, hall⟩
 ·simp at hj
 ·injection hve with e5 _ _
  rw [e1] at e5
  injection e5 with e5
  injection e5 with e6 e7 _
  subst e6 e7
  obtain ⟨hlt, rfl⟩ := List.getElem?_eq_some_iff.1 hj
  have hc := (hall j hlt).2.get i u hu
  have ha := cel_arr hw e3 hc
  rw [show 0 + j * sz + i = j * sz + i by omega] at ha
  exact (hg b (hL b arr T fz e2 e3) arr T fz e3).2 _ _ ha
theorem spB {n c : Nat} {ao : Option Addr} {l : List UInt8} (hw : ∃ w, Sat h' [] w) (hL : ∀ b arr T fz, h.mem b = none → h'.mem b = some (.cells arr T fz) → b ∈ L) (hv : BV h' (.slice ao n c) l) (hf : Fsh h h' 1 (.slice ao n c)) (hn : l.length = n) {j : Nat} (hjn : j < n) :
  ∃ b arr T fz, ao = some ⟨b, 0, none⟩ ∧ b ∈ L ∧ h'.mem b = some (.cells arr T fz) ∧ (decide (fz.1 ≤ j) && decide (j < fz.2)) = false ∧ ∀ g, Cmp h' L g → ∃ a, (g b)[j]? = some (.int .u8 a) := by
 obtain ⟨b, arr, T, fz, e1, e2, e3, e4⟩ := hf _ _ _ rfl (by omega)
 refine ⟨b, arr, T, fz, e1, hL b arr T fz e2 e3, e3, e4 _ (by omega), fun g hg => ?_⟩
 rcases hv with ⟨_, _, _, rfl⟩ | ⟨b', o, c', hve, _, hall⟩
 ·simp at hn; omega
 ·injection hve with e5 _ _
  rw [e1] at e5
  injection e5 with e5
  injection e5 with e6 e7 _
  subst e6 e7
  have hc := hall.get j (u8 (l[j]'(by omega))) (by rw [List.getElem?_map, List.getElem?_eq_getElem (by omega)]; rfl)
  have ha := cel_arr hw e3 hc
  rw [Nat.zero_add] at ha
  obtain ⟨u', h1, h2⟩ := (hg b (hL b arr T fz e2 e3) arr T fz e3).2 _ _ ha
  rcases h2 with rfl | ⟨k, a, c, e8, rfl⟩
  ·exact ⟨_, h1⟩
  ·injection e8 with e8 _
   subst e8
   exact ⟨_, h1⟩
theorem cmp_slice {ao : Option Addr} {n c : Nat} {u : Value} (hc : cmp1 (.slice ao n c) u) : u = .slice ao n c := by
 rcases hc with rfl | ⟨_, _, _, e, _⟩
 ·rfl
 ·cases e
theorem cmp_bool {b : Bool} {u : Value} (hc : cmp1 (.bool b) u) : u = .bool b := by
 rcases hc with rfl | ⟨_, _, _, e, _⟩
 ·rfl
 ·cases e
theorem cmp_int {k : IntKind} {a : Int} {u : Value} (hc : cmp1 (.int k a) u) : ∃ c, u = .int k c := by
 rcases hc with rfl | ⟨k2, a2, c2, e, rfl⟩
 ·exact ⟨a, rfl⟩
 ·cases e
  exact ⟨c2, rfl⟩
end
section
variable {P : Program} {n : Nat} {Q : Exit → Act → World → Prop} {E : Env} {h : Base} {H : List Asrt} {ops : Array Oper}
theorem WL.freezeRowF {L : List Oper} {T sz m : Nat} {a : Option Nat} {cap : Nat} {es : List (List Value)} (hm : m = es.length) (hz : ∀ e ∈ es, e.length = sz) (hk : ∀ h', h.le h' → SL h' sz (bufV a m cap) es → Fsh h h' sz (bufV a m cap) → WL P n ops Q L E h' H) : WL P n ops Q L E h (bufA T sz a m cap es.flatten :: H) := by
 subst hm
 exact ⟨fun a w fa ok => by obtain ⟨h', h1, h2, _, h4, h5⟩ := ok.freezeRowF hz; exact (hk h' h1 h2 h4).run _ w fa h5⟩
end
set_option maxHeartbeats 8000000 in
theorem LPages (h : Base) (v w : Value) (es es2 : List (List Value)) (l : List PImg) (hv : SL h 5 v es) (hr : RowsG (ImgC h) es l) (hv2 : SL h 5 w es2) (hr2 : RowsG (ImgC h) es2 l) (hl : l.length ≤ 9223372036854775807) :
  TrV Tryz.prog 18 [v, w] h [] (.bool true) [] := by
 have hel := hr.1
 have hel2 := hr2.1
 obtain ⟨ao, ca, rfl⟩ := hv.len
 obtain ⟨ao2, ca2, rfl⟩ := hv2.len
 rw [hel] at hv ⊢
 rw [hel2] at hv2 ⊢
 have hr := fun (_ : Unit) => hr
 have hr2 := fun (_ : Unit) => hr2
 refine K.enter Tryz.func18 rfl (Nat.le_of_ble_eq_true rfl) (fun F => ?_)
 simp only [List.nil_append]
 (repeat' (first | refine X.rq ?_ | (refine X.rc ?_ ?_ <;> intro hc <;> first | (exfalso; omega) | skip)))
 refine K.c_loop (σ := Nat) (fun j => [(0, .slice ao l.length ca), (1, .slice ao2 l.length ca2), (5, .int .i64 j)]) (fun _ => h) (fun _ => F) (fun j => j ≤ l.length) (fun j => l.length - j) 0 (Nat.zero_le _) (by repeat (first | exact K.Sub.nil _ | refine K.Sub.cons rfl ?_)) rfl rfl ?_
 rintro j hj KL hKL
 by_cases hjl : j < l.length
 ·have hc1 : es[j]? = some (es[j]'(by omega)) := List.getElem?_eq_getElem (by omega)
  have hc2 : es2[j]? = some (es2[j]'(by omega)) := List.getElem?_eq_getElem (by omega)
  have hx1 : l[j]? = some (l[j]'hjl) := List.getElem?_eq_getElem hjl
  generalize es[j]'(by omega) = c at hc1
  generalize es2[j]'(by omega) = d at hc2
  generalize l[j]'hjl = x at hx1
  obtain ⟨_, pcs, rfl, p1⟩ := (hr ()).2 j c x hc1 hx1
  obtain ⟨_, qcs, rfl, p2⟩ := (hr2 ()).2 j d x hc2 hx1
  have hsame := SameP h pcs qcs x.to x.to p1 p2
  rw [decide_eq_true rfl] at hsame
  obtain ⟨_, cv, rfl, _⟩ := p1
  obtain ⟨_, cv2, rfl, _⟩ := p2
  obtain ⟨bb, oo, rfl, hcx⟩ := hv.at hc1
  obtain ⟨bb2, oo2, rfl, hcx2⟩ := hv2.at hc2
  (repeat' (first | refine X.rq ?_ | (refine X.rc ?_ ?_ <;> intro hc <;> first | (exfalso; omega) | skip)))
  refine X.draw ([]) [] (.pu 0 (.pu 1 (.pu 2 (.pu 3 (.pu 5 (.pu 6 (.pu 7 (.pu 8 (.st 4 (.st 9 (.pu 10 (.pu 11 (.pu 12 (.pu 13 (.pu 14 (.pu 15 (.pu 17 (.pu 18 (.pu 19 (.pu 20 (.st 16 (.st 21 (.on 22 (.pu 23 (.pu 24 .nil))))))))))))))))))))))))) ?_
  refine K.d_pu rfl (fun _ _ => X.mv) rfl ?_
  refine K.d_pu rfl (fun _ _ => X.mv) rfl ?_
  refine K.d_pu rfl (fun _ _ => X.ia) rfl ?_
  refine K.d_pu rfl (fun _ _ => X.fa) rfl ?_
  refine K.d_pu rfl (fun _ _ => X.mv) rfl ?_
  refine K.d_pu rfl (fun _ _ => X.mv) rfl ?_
  refine K.d_pu rfl (fun _ _ => X.ia) rfl ?_
  refine K.d_pu rfl (fun _ _ => X.fa) rfl ?_
  refine K.d_st rfl (K.p_load (Fx.agg rfl) rfl (Cels.get (Cels.up hcx) 0 (.int .u32 x.page) rfl)) rfl ?_
  refine K.d_st rfl (K.p_load (Fx.agg rfl) rfl (Cels.get (Cels.up hcx2) 0 (.int .u32 x.page) rfl)) rfl ?_
  refine K.d_pu rfl (fun _ _ => X.bneq) rfl ?_
  rw [decide_eq_false (show ¬ ((x.page : Int) ≠ (x.page : Int)) from fun h => h rfl)]
  refine K.d_pu rfl (fun _ _ => X.mv) rfl ?_
  first | refine K.d_skip rfl rfl rfl rfl ?_ | refine K.d_skipU rfl rfl rfl rfl rfl ?_ | refine K.d_puG rfl rfl rfl (fun _ _ => X.mv) rfl ?_
  first | refine K.d_skip rfl rfl rfl rfl ?_ | refine K.d_skipU rfl rfl rfl rfl rfl ?_ | refine K.d_puG rfl rfl rfl (fun _ _ => X.mv) rfl ?_
  first | refine K.d_skip rfl rfl rfl rfl ?_ | refine K.d_skipU rfl rfl rfl rfl rfl ?_ | refine K.d_puG rfl rfl rfl (fun _ _ => X.ia) rfl ?_
  first | refine K.d_skip rfl rfl rfl rfl ?_ | refine K.d_skipU rfl rfl rfl rfl rfl ?_ | refine K.d_puG rfl rfl rfl (fun _ _ => X.fa) rfl ?_
  first | refine K.d_skip rfl rfl rfl rfl ?_ | refine K.d_skipU rfl rfl rfl rfl rfl ?_ | refine K.d_puG rfl rfl rfl (fun _ _ => X.mv) rfl ?_
  first | refine K.d_skip rfl rfl rfl rfl ?_ | refine K.d_skipU rfl rfl rfl rfl rfl ?_ | refine K.d_puG rfl rfl rfl (fun _ _ => X.mv) rfl ?_
  first | refine K.d_skip rfl rfl rfl rfl ?_ | refine K.d_skipU rfl rfl rfl rfl rfl ?_ | refine K.d_puG rfl rfl rfl (fun _ _ => X.ia) rfl ?_
  first | refine K.d_skip rfl rfl rfl rfl ?_ | refine K.d_skipU rfl rfl rfl rfl rfl ?_ | refine K.d_puG rfl rfl rfl (fun _ _ => X.fa) rfl ?_
  refine K.d_stG rfl rfl rfl (K.p_loadM (Fx.agg rfl) rfl (Cels.up hcx).2 (Fx.sz rfl) rfl) rfl ?_
  refine K.d_stG rfl rfl rfl (K.p_loadM (Fx.agg rfl) rfl (Cels.up hcx2).2 (Fx.sz rfl) rfl) rfl ?_
  refine K.d_on rfl (fun KK hKK => ?_)
  refine K.s_take rfl rfl ?_
  refine K.l_callV (Fx.cal rfl) rfl hsame (K.pp [] rfl) rfl rfl ?_
  simp only [List.nil_append]
  refine K.l_nil ?_
  refine X.onE hKK ?_
  first | refine K.d_skip rfl rfl rfl rfl ?_ | refine K.d_skipU rfl rfl rfl rfl rfl ?_ | refine K.d_puG rfl rfl rfl (fun _ _ => X.nt) rfl ?_
  refine K.d_pu rfl (fun _ _ => X.pk) rfl ?_
  refine K.d_nil ?_
  (repeat' (first | refine X.rq ?_ | (refine X.rc ?_ ?_ <;> intro hc <;> first | (exfalso; omega) | skip)))
  refine K.a_round hKL (j + 1) (by omega) (by repeat (first | exact K.Sub.nil _ | refine K.Sub.cons rfl ?_)) rfl rfl (by omega)
 ·obtain rfl : j = l.length := by omega
  (repeat' (first | refine X.rq ?_ | (refine X.rc ?_ ?_ <;> intro hc <;> first | (exfalso; omega) | skip)))
  refine K.done (by first | exact Or.inl rfl | exact Or.inr rfl) rfl (by first | exact K.Base.le.refl _ | assumption) (H' := []) rfl ⟨rfl, rfl, rfl⟩
theorem redosQ_len : ∀ {rs : List Recd} {l : List PImg} {f : Nat}, (redosQ f l rs).1.length ≤ l.length
 | [], l, f => Nat.le_refl _
 | r :: rs, l, f => by
  rw [redosQ]
  have hp : (redoQ l r).1.length = l.length := by
   have := congrArg List.length (redoQ_pages (l := l) (r := r))
   rwa [List.length_map, List.length_map] at this
  split
  ·exact redosQ_len
  ·split
   ·exact Nat.zero_le _
   ·exact hp ▸ redosQ_len
theorem RedoQ_len {rs : List Recd} {l : List PImg} {f : Nat} : (RedoQ l rs f).1.length ≤ l.length := by
 unfold RedoQ
 split
 ·exact Nat.zero_le _
 ·split
  ·exact Nat.zero_le _
  ·exact redosQ_len
theorem imgs_fiveG {h0 h : Base} {es : List (List Value)} {l : List PImg} (hr : RowsG (ImgG h0 h) es l) : ∀ e ∈ es, e.length = 5 := imgs_fiveC (RowsG.mono (fun c x hc => hc.c) hr)
set_option maxHeartbeats 32000000 in
theorem ChainRedoesW (h : Base) (v : Value) (es : List (List Value)) (l : List PImg) (w : Value) (ers : List (List Value)) (rs : List Recd) (f : Nat) (hv : SL h 5 v es) (hr : RowsG (ImgC h) es l) (hl : l.length ≤ 9223372036854775807) (hls : ∀ m ∈ l, smallX m.to.cells)
  (hv2 : SL h 15 w ers) (hr2 : RowsG (RecC h) ers rs) (hl2 : rs.length ≤ 140737488355328) (hrs : ∀ r ∈ rs, ∀ m ∈ r.images, smallX m.to.cells) (hf : f < 18446744073709551616) :
  Tr Tryz.prog 4 [v, w, .int .u64 f] h [] (fun u h' H' => u = .bool true ∧ H' = []) := by
 have hlo := LLong h w v ers rs es l hv2 hr2 (by omega) hv hr hl
 refine K.enter Tryz.func4 rfl (Nat.le_of_ble_eq_true rfl) (fun F => ?_)
 simp only [List.nil_append]
 (repeat' (first | refine X.rq ?_ | (refine X.rc ?_ ?_ <;> intro hc <;> first | (exfalso; omega) | skip)))
 refine K.l_call (Fx.cal rfl) rfl hlo (K.pp [] rfl) rfl ?_
 rintro u h' H' - ⟨e, rfl, b, rfl, hb⟩
 obtain rfl := e
 simp only [List.nil_append]
 cases b with
 | true =>
  (repeat' (first | refine X.rq ?_ | (refine X.rc ?_ ?_ <;> intro hc <;> first | (exfalso; omega) | skip)))
  refine K.l_callV (Fx.cal rfl) rfl (Alive h) (K.pp [] rfl) rfl rfl ?_
  simp only [List.nil_append]
  (repeat' (first | refine X.rq ?_ | (refine X.rc ?_ ?_ <;> intro hc <;> first | (exfalso; omega) | skip)))
  refine K.done (by first | exact Or.inl rfl | exact Or.inr rfl) rfl (by first | exact K.Base.le.refl _ | assumption) (H' := []) rfl ⟨rfl, rfl⟩
 | false =>
  obtain ⟨hl200, hfew, hp200⟩ := hb rfl
  have hsm : ∀ r ∈ rs, smallR r := fun r hm => few_small (hfew r hm)
  have hcp := LCopied h w ers rs hv2 hr2 (by omega) fun r hm => few_short (hfew r hm) (hrs r hm)
  have hsm := fun (_ : Unit) => hsm
  clear hb hfew hrs hlo
  (repeat' (first | refine X.rq ?_ | (refine X.rc ?_ ?_ <;> intro hc <;> first | (exfalso; omega) | skip)))
  refine K.l_call (Fx.cal rfl) rfl hcp (K.pp [] rfl) rfl ?_
  rintro u7 h1 H' le1 ⟨rfl, ers1, hw1, hwr1⟩
  simp only [List.nil_append]
  (repeat' (first | refine X.rq ?_ | (refine X.rc ?_ ?_ <;> intro hc <;> first | (exfalso; omega) | skip)))
  refine K.l_call (Fx.cal rfl) rfl (RCopyI h1 v es l (hv.le le1) (RowsG.mono (fun c x hc => hc.le le1) hr) (by omega) hls) (K.pp [] rfl) rfl ?_
  rintro u8 h2 H' le2 ⟨a8, k8, es8, rfl, hr8, rfl⟩
  simp only [List.nil_append, List.cons_append]
  refine K.WL.freezeRowN hr8.1.symm (imgs_fiveC hr8) (fun h3 le3 hv8 => ?_)
  have hr8 := RowsG.mono (R' := ImgC h3) (fun c x hc => hc.le le3) hr8
  have hw3 := hw1.le (le2.trans le3)
  have hwr3 := RowsG.mono (R' := RecC h3) (fun c x hc => hc.le (le2.trans le3)) hwr1
  have le13 := le1.trans (le2.trans le3)
  have hv3 := hv.le le13
  have hr3 := RowsG.mono (R' := ImgC h3) (fun c x hc => hc.le le13) hr
  have hv23 := hv2.le le13
  have hr23 := RowsG.mono (R' := RecC h3) (fun c x hc => hc.le le13) hr2
  (repeat' (first | refine X.rq ?_ | (refine X.rc ?_ ?_ <;> intro hc <;> first | (exfalso; omega) | skip)))
  refine K.l_call (Fx.cal rfl) rfl (CRedo h3 v w es l ers rs f hv3 hr3 (by omega) hv23 hr23 (by omega) (hsm ()) hf) (K.pp [] rfl) rfl ?_
  rintro u9 h4 H' le4 hor
  rcases hor with ⟨he0, hq0, rfl, rfl⟩ | ⟨he0, a6, n, k6, es6, hn6, hr6, rfl, rfl⟩
  ·simp only [List.nil_append]
   (repeat' (first | refine X.rq ?_ | (refine X.rc ?_ ?_ <;> intro hc <;> first | (exfalso; omega) | skip)))
   refine K.l_call (Fx.cal rfl) rfl (RRedo h4 _ u7 es8 l ers1 rs f (hv8.le le4) (RowsG.mono (fun c x hc => hc.le le4) hr8) (by omega) (hw3.le le4) (RowsG.mono (fun c x hc => hc.le le4) hwr3) (by omega) (hsm ()) hf) (K.pp [] rfl) rfl ?_
   rintro u10 h5 H' le5 hor
   have hor : u10 = .tuple #[.slice none 0 0, .int .i64 (RedoQ l rs f).2] ∧ H' = [] := by
    rcases hor with ⟨_, q1, q2⟩ | ⟨q0, _⟩
    ·exact ⟨q1, q2⟩
    ·exact absurd q0 he0
   obtain ⟨rfl, rfl⟩ := hor
   simp only [List.nil_append]
   have le35 := le4.trans le5
   have le15 := le13.trans le35
   have hp1 := LPages h5 (.slice none 0 0) (.slice none 0 0) [] [] [] SL.nil RowsG.nil SL.nil RowsG.nil (by decide)
   have hp2 := LPages h5 v _ es es8 l (hv3.le le35) (RowsG.mono (fun c x hc => hc.le le35) hr3) (hv8.le le35) (RowsG.mono (fun c x hc => hc.le le35) hr8) (by omega)
   have hke := LKept h5 w u7 ers ers1 rs (hv23.le le35) (RowsG.mono (fun c x hc => hc.le le35) hr23) (hw3.le le35) (RowsG.mono (fun c x hc => hc.le le35) hwr3) (by omega)
   have hal := Alive h5
   generalize (RedoQ l rs f).2 = en at he0 ⊢
   (repeat' (first | refine X.rq ?_ | (refine X.rc ?_ ?_ <;> intro hc <;> first | (exfalso; omega) | skip)))
   refine K.l_callV (Fx.cal rfl) rfl hp1 (K.pp [] rfl) rfl rfl ?_
   simp only [List.nil_append]
   (repeat' (first | refine X.rq ?_ | (refine X.rc ?_ ?_ <;> intro hc <;> first | (exfalso; omega) | skip)))
   refine K.c_loop (σ := Nat) (fun j => [(0, v), (1, w), (7, u7), (8, K.bufV a8 l.length k8), (9, .slice none 0 0), (13, .int .i64 j)]) (fun _ => h5) (fun _ => F) (fun j => j = 0) (fun j => 0) 0 rfl (by repeat (first | exact K.Sub.nil _ | refine K.Sub.cons rfl ?_)) rfl rfl ?_
   rintro j rfl KL hKL
   (repeat' (first | refine X.rq ?_ | (refine X.rc ?_ ?_ <;> intro hc <;> first | (exfalso; omega) | skip)))
   refine K.l_callV (Fx.cal rfl) rfl hp2 (K.pp [] rfl) rfl rfl ?_
   simp only [List.nil_append]
   (repeat' (first | refine X.rq ?_ | (refine X.rc ?_ ?_ <;> intro hc <;> first | (exfalso; omega) | skip)))
   refine K.l_callV (Fx.cal rfl) rfl hke (K.pp [] rfl) rfl rfl ?_
   simp only [List.nil_append]
   (repeat' (first | refine X.rq ?_ | (refine X.rc ?_ ?_ <;> intro hc <;> first | (exfalso; omega) | skip)))
   refine K.l_callV (Fx.cal rfl) rfl hal (K.pp [] rfl) rfl rfl ?_
   simp only [List.nil_append]
   (repeat' (first | refine X.rq ?_ | (refine X.rc ?_ ?_ <;> intro hc <;> first | (exfalso; omega) | skip)))
   refine K.done (by first | exact Or.inl rfl | exact Or.inr rfl) rfl (by first | exact K.Base.le.refl _ | assumption) (H' := []) rfl ⟨rfl, rfl⟩
  ·simp only [List.nil_append, List.cons_append]
   have hlen : (RedoQ l rs f).1.length ≤ l.length := RedoQ_len
   refine Ch.WL.freezeRowF (hn6.trans hr6.1.symm) (imgs_fiveG hr6) (fun h5 le5 hv6 hf6 => ?_)
   generalize K.bufV a6 n k6 = x6 at hv6 hf6 ⊢
   have le35 := le4.trans le5
   (repeat' (first | refine X.rq ?_ | (refine X.rc ?_ ?_ <;> intro hc <;> first | (exfalso; omega) | skip)))
   refine K.l_call (Fx.cal rfl) rfl (RRedo h5 _ u7 es8 l ers1 rs f (hv8.le le35) (RowsG.mono (fun c x hc => hc.le le35) hr8) (by omega) (hw3.le le35) (RowsG.mono (fun c x hc => hc.le le35) hwr3) (by omega) (hsm ()) hf) (K.pp [] rfl) rfl ?_
   rintro u10 h6 H' le6 hor
   rcases hor with ⟨q0, _⟩ | ⟨_, a7, n7, k7, es7, hn7, hr7, rfl, rfl⟩
   ·exact absurd he0 q0
   simp only [List.nil_append, List.cons_append]
   refine K.WL.freezeRowN (hn7.trans hr7.1.symm) (imgs_fiveC hr7) (fun h7 le7 hv7 => ?_)
   generalize K.bufV a7 n7 k7 = x7 at hv7 ⊢
   have le57 := le6.trans le7
   have le47 := le5.trans le57
   have le37 := le4.trans le47
   have hv67 := hv6.le le57
   have hf67 := hf6.le le4 le57
   have hr67 := RowsG.mono (R' := ImgG h3 h7) (fun c x hc => hc.le (K.Base.le.refl _) le47) hr6
   have hp3 := LPages h7 x6 x7 es6 es7 _ hv67 (RowsG.mono (fun c x hc => hc.c) hr67) hv7 (RowsG.mono (fun c x hc => hc.le le7) hr7) (by omega)
   have hp2 := LPages h3 v _ es es8 l hv3 hr3 hv8 hr8 (by omega)
   have hke := LKept h3 w u7 ers ers1 rs hv23 hr23 hw3 hwr3 (by omega)
   have hal := Alive h3
   obtain ⟨ao6, ca6, rfl⟩ := hv67.len
   rw [hr67.1] at *
   generalize (RedoQ l rs f).1 = lx at *
   (repeat' (first | refine X.rq ?_ | (refine X.rc ?_ ?_ <;> intro hc <;> first | (exfalso; omega) | skip)))
   refine K.l_callV (Fx.cal rfl) rfl hp3 (K.pp [] rfl) rfl rfl ?_
   simp only [List.nil_append]
   refine K.WL.thaw (h := h3) le37 (fun L g hww hg hL => ?_)
   have hlx : lx.length ≤ 9223372036854775807 := by omega
   clear hl hl2 hlen hl200 hp200
   (repeat' (first | refine X.rq ?_ | (refine X.rc ?_ ?_ <;> intro hc <;> first | (exfalso; omega) | skip)))
   refine K.c_loop (σ := Nat × (Nat → List Value)) (fun q => [(0, v), (1, w), (7, u7), (8, K.bufV a8 l.length k8), (9, .slice ao6 lx.length ca6), (13, .int .i64 q.1)]) (fun _ => h3) (fun q => spA h7 L q.2 :: F) (fun q => q.1 ≤ lx.length ∧ Cmp h7 L q.2) (fun q => lx.length - q.1) (0, g) ⟨Nat.zero_le _, hg⟩ (by repeat (first | exact K.Sub.nil _ | refine K.Sub.cons rfl ?_)) rfl rfl ?_
   rintro ⟨j, g1⟩ ⟨hj, hg1⟩ KL hKL
   dsimp only at hj hg1 ⊢
   by_cases hjl : j < lx.length
   ·have hc1 : es6[j]? = some (es6[j]'(by have := hr67.1; omega)) := List.getElem?_eq_getElem (by have := hr67.1; omega)
    have he1 : lx[j]? = some (lx[j]'(by omega)) := List.getElem?_eq_getElem hjl
    generalize es6[j]'(by have := hr67.1; omega) = c at hc1
    generalize lx[j]'(by omega) = x at he1
    obtain ⟨hpg, cs, rfl, hwp, cv5, es5, rfl, hs5, hel5, hf5, hr5⟩ := hr67.2 j c x hc1 he1
    obtain ⟨ao5, ca5, rfl⟩ := hs5.len
    rw [hel5] at hs5 hf5 hc1
    have hwl := hwp.len
    clear hwp
    obtain ⟨bi, arrI, TI, fzI, rfl, hbI, hmI, hfI, hgI⟩ := spR hww hL hv67 hf67 hc1 hjl
    obtain ⟨u0, hu0, hc0⟩ := hgI g1 hg1 0 _ rfl
    obtain ⟨a0, rfl⟩ := cmp_int hc0
    have hz0 := hfI 0 (by decide)
    rw [Nat.add_zero] at hu0 hz0
    (repeat' (first | refine X.rq ?_ | (refine X.rc ?_ ?_ <;> intro hc <;> first | (exfalso; omega) | skip)))
    refine K.l_storeSp (o := j * 5) (Fx.sz rfl) (by first | rfl | (show some _ = some _; simp; done)) rfl rfl hbI hmI (List.getElem?_eq_some_iff.1 hu0).1 hz0 ?_
    have hg1 := hg1.upd (c := 0) hu0
    generalize K.upd g1 bi (j * 5) (.int .u32 0) = g2 at hg1 ⊢
    (repeat' (first | refine X.rq ?_ | (refine X.rc ?_ ?_ <;> intro hc <;> first | (exfalso; omega) | skip)))
    refine K.c_loop (σ := Nat × (Nat → List Value)) (fun q => [(0, v), (1, w), (7, u7), (8, K.bufV a8 l.length k8), (9, .slice (some ⟨bi, 0, none⟩) lx.length ca6), (13, .int .i64 j), (14, .int .i64 q.1)]) (fun _ => h3) (fun q => spA h7 L q.2 :: F) (fun q => q.1 ≤ x.to.cells.length ∧ Cmp h7 L q.2) (fun q => x.to.cells.length - q.1) (0, g2) ⟨Nat.zero_le _, hg1⟩ (by repeat (first | exact K.Sub.nil _ | refine K.Sub.cons rfl ?_)) rfl rfl ?_
    rintro ⟨k, g3⟩ ⟨hk, hg3⟩ KM hKM
    dsimp only at hk hg3 ⊢
    obtain ⟨u4, hu4, hc4⟩ := hgI g3 hg3 4 _ rfl
    obtain rfl := cmp_slice hc4
    have ho4 : 0 + ((j : Nat) : Int).toNat * 5 + 1 + 3 = j * 5 + 4 := by rw [Int.toNat_natCast, Nat.zero_add]
    have hcel4 : Cel h3 (spA h7 L g3 :: F) bi (0 + ((j : Nat) : Int).toNat * 5 + 1 + 3) (.slice ao5 x.to.cells.length ca5) := K.cel_sp 0 rfl hbI (by rw [ho4]; exact hu4)
    by_cases hkl : k < x.to.cells.length
    ·have hd1 : es5[k]? = some (es5[k]'(by omega)) := List.getElem?_eq_getElem (by omega)
     have hz1 : x.to.cells[k]? = some (x.to.cells[k]'(by omega)) := List.getElem?_eq_getElem hkl
     generalize es5[k]'(by omega) = d at hd1
     generalize x.to.cells[k]'(by omega) = z at hz1
     obtain ⟨⟨_, hzl, ao6, ca6', rfl, hb6⟩, hf6⟩ := hr5 k d z hd1 hz1
     have hf6 := hf6 _ rfl
     obtain ⟨bc, arrC, TC, fzC, rfl, hbC, hmC, hfC, hgC⟩ := spR hww hL hs5 hf5 hd1 hkl
     obtain ⟨u10, hu10, hcu0⟩ := hgC g3 hg3 0 _ rfl
     obtain rfl := cmp_bool hcu0
     obtain ⟨u11, hu11, hcu1⟩ := hgC g3 hg3 1 _ rfl
     obtain ⟨b1, rfl⟩ := cmp_int hcu1
     obtain ⟨u12, hu12, hcu2⟩ := hgC g3 hg3 2 _ rfl
     obtain rfl := cmp_slice hcu2
     have hok : 0 + ((k : Nat) : Int).toNat * 3 = k * 3 := by rw [Int.toNat_natCast, Nat.zero_add]
     have hcl : Cels h3 (spA h7 L g3 :: F) bc (0 + ((k : Nat) : Int).toNat * 3) [.bool z.used, .int .u32 b1, .slice ao6 z.data.length ca6'] := by
      rw [hok]
      exact ⟨K.cel_sp 0 rfl hbC hu10, K.cel_sp 0 rfl hbC hu11, K.cel_sp 0 rfl hbC hu12, trivial⟩
     (repeat' (first | refine X.rq ?_ | (refine X.rc ?_ ?_ <;> intro hc <;> first | (exfalso; omega) | skip)))
     refine K.l_alloc (Fx.zr rfl) rfl rfl (fun B1 => ?_)
     (repeat' (first | refine X.rq ?_ | (refine X.rc ?_ ?_ <;> intro hc <;> first | (exfalso; omega) | skip)))
     refine X.stw ?_
     (repeat' (first | refine X.rq ?_ | (refine X.rc ?_ ?_ <;> intro hc <;> first | (exfalso; omega) | skip)))
     refine K.c_loop (σ := Nat × (Nat → List Value)) (fun q => [(0, v), (1, w), (7, u7), (8, K.bufV a8 l.length k8), (9, .slice (some ⟨bi, 0, none⟩) lx.length ca6), (13, .int .i64 j), (14, .int .i64 k), (15, .pointer (some ⟨B1, 0, none⟩)), (16, .int .i64 q.1)]) (fun _ => h3) (fun q => blk B1 55 [.bool z.used, .int .u32 b1, .slice ao6 z.data.length ca6'] :: spA h7 L q.2 :: F) (fun q => q.1 ≤ z.data.length ∧ Cmp h7 L q.2) (fun q => z.data.length - q.1) (0, g3) ⟨Nat.zero_le _, hg3⟩ (by repeat (first | exact K.Sub.nil _ | refine K.Sub.cons rfl ?_)) rfl rfl ?_
     rintro ⟨m, g4⟩ ⟨hm4, hg4⟩ KO hKO
     dsimp only at hm4 hg4 ⊢
     by_cases hml : m < z.data.length
     ·obtain ⟨bd, arrD, TD, fzD, rfl, hbD, hmD, hfD, hgD⟩ := spB hww hL hb6 hf6 rfl hml
      obtain ⟨a, ha⟩ := hgD g4 hg4
      (repeat' (first | refine X.rq ?_ | (refine X.rc ?_ ?_ <;> intro hc <;> first | (exfalso; omega) | skip)))
      refine X.draw ([blk B1 55 [.bool z.used, .int .u32 b1, .slice (some ⟨bd, 0, none⟩) z.data.length ca6'],spA h7 L g4]) [10] (.pu 0 (.pu 2 (.pu 3 (.pu 5 (.st 1 (.st 4 (.pu 6 (.st 7 (.pu 8 (.pu 9 (.cl 10 .nil))))))))))) ?_
      refine K.d_pu rfl (fun _ _ => X.fa) rfl ?_
      refine K.d_pu rfl (fun _ _ => X.mv) rfl ?_
      refine K.d_pu rfl (fun _ _ => X.fa) rfl ?_
      refine K.d_pu rfl (fun _ _ => X.mv) rfl ?_
      refine K.d_st rfl X.ld rfl ?_
      refine K.d_st rfl X.ld rfl ?_
      refine K.d_pu rfl (fun _ _ => K.p_indexAddr (o' := m) (Fx.und rfl) (Fx.sz rfl) rfl rfl (by omega) (by omega) (K.idx01 _)) rfl ?_
      refine K.d_st rfl (K.p_load (Fx.agg rfl) rfl (K.cel_sp 1 rfl hbD ha)) rfl ?_
      refine K.d_pu rfl (fun _ _ => X.badd) rfl ?_
      refine K.d_pu rfl (fun _ _ => K.p_indexAddr (o' := m) (Fx.und rfl) (Fx.sz rfl) rfl rfl (by omega) (by omega) (K.idx01 _)) rfl ?_
      refine K.d_cl rfl (fun KK hKK => ?_)
      refine K.WL.perm (K.pp [1] rfl) ?_
      simp only [List.set_cons_zero, List.set_cons_succ, List.eraseIdx_cons_zero, List.eraseIdx_cons_succ, List.cons_append, List.nil_append]
      refine K.l_storeSp (Fx.sz rfl) rfl rfl rfl hbD hmD (List.getElem?_eq_some_iff.1 ha).1 hfD ?_
      refine K.l_nil ?_
      refine K.d_clE hKK ?_
      refine K.d_nil ?_
      (repeat' (first | refine X.rq ?_ | (refine X.rc ?_ ?_ <;> intro hc <;> first | (exfalso; omega) | skip)))
      refine K.AT.perm (K.pp [1] rfl) ?_
      simp only [List.set_cons_zero, List.set_cons_succ, List.eraseIdx_cons_zero, List.eraseIdx_cons_succ, List.cons_append, List.nil_append]
      refine K.a_round hKO (m + 1, _) ⟨by dsimp only; omega, hg4.upd ha⟩ (by repeat (first | exact K.Sub.nil _ | refine K.Sub.cons rfl ?_)) rfl rfl (by dsimp only; omega)
     ·obtain ⟨u4, hu4, hc4⟩ := hgI g4 hg4 4 _ rfl
      obtain rfl := cmp_slice hc4
      have hcel4 : Cel h3 (blk B1 55 [.bool z.used, .int .u32 b1, .slice ao6 z.data.length ca6'] :: spA h7 L g4 :: F) bi (0 + ((j : Nat) : Int).toNat * 5 + 1 + 3) (.slice (some ⟨bc, 0, none⟩) x.to.cells.length ca5) := K.cel_sp 1 rfl hbI (by rw [ho4]; exact hu4)
      obtain ⟨u1, hu1, hc1⟩ := hgC g4 hg4 1 _ rfl
      obtain ⟨a1, rfl⟩ := cmp_int hc1
      have ho1 : 0 + ((k : Nat) : Int).toNat * 3 + 1 = k * 3 + 1 := by rw [Int.toNat_natCast, Nat.zero_add]
      rw [← ho1] at hu1
      have hz1 := hfC 1 (by decide)
      rw [← ho1] at hz1
      (repeat' (first | refine X.rq ?_ | (refine X.rc ?_ ?_ <;> intro hc <;> first | (exfalso; omega) | skip)))
      refine K.WL.perm (K.pp [1] rfl) ?_
      simp only [List.set_cons_zero, List.set_cons_succ, List.eraseIdx_cons_zero, List.eraseIdx_cons_succ, List.cons_append, List.nil_append]
      refine K.l_storeSp (Fx.sz rfl) rfl rfl rfl hbC hmC (List.getElem?_eq_some_iff.1 hu1).1 hz1 ?_
      (repeat' (first | refine X.rq ?_ | (refine X.rc ?_ ?_ <;> intro hc <;> first | (exfalso; omega) | skip)))
      refine K.AT.sel [1] rfl ?_
      simp only [List.set_cons_zero, List.set_cons_succ, List.eraseIdx_cons_zero, List.eraseIdx_cons_succ, List.cons_append, List.nil_append]
      refine K.a_round hKM (k + 1, _) ⟨by dsimp only; omega, hg4.upd hu1⟩ (by repeat (first | exact K.Sub.nil _ | refine K.Sub.cons rfl ?_)) rfl rfl (by dsimp only; omega)
    ·(repeat' (first | refine X.rq ?_ | (refine X.rc ?_ ?_ <;> intro hc <;> first | (exfalso; omega) | skip)))
     refine K.a_round hKL (j + 1, _) ⟨by dsimp only; omega, hg3⟩ (by repeat (first | exact K.Sub.nil _ | refine K.Sub.cons rfl ?_)) rfl rfl (by dsimp only; omega)
   ·(repeat' (first | refine X.rq ?_ | (refine X.rc ?_ ?_ <;> intro hc <;> first | (exfalso; omega) | skip)))
    refine K.l_callV (Fx.cal rfl) rfl hp2 (K.pp [] rfl) rfl rfl ?_
    simp only [List.nil_append]
    (repeat' (first | refine X.rq ?_ | (refine X.rc ?_ ?_ <;> intro hc <;> first | (exfalso; omega) | skip)))
    refine K.l_callV (Fx.cal rfl) rfl hke (K.pp [] rfl) rfl rfl ?_
    simp only [List.nil_append]
    (repeat' (first | refine X.rq ?_ | (refine X.rc ?_ ?_ <;> intro hc <;> first | (exfalso; omega) | skip)))
    refine K.l_callV (Fx.cal rfl) rfl hal (K.pp [] rfl) rfl rfl ?_
    simp only [List.nil_append]
    (repeat' (first | refine X.rq ?_ | (refine X.rc ?_ ?_ <;> intro hc <;> first | (exfalso; omega) | skip)))
    refine K.AT.sel [0] rfl ?_
    refine K.done (by first | exact Or.inl rfl | exact Or.inr rfl) rfl (by first | exact K.Base.le.refl _ | assumption) (H' := []) rfl ⟨rfl, rfl⟩
end Go.Proofs.YtkdngpiiecmpgaaGreat.Ch
