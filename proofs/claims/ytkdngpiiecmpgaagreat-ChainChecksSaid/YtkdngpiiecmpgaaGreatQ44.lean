/-
 Answers that the document fixes: plainly, and walked. Conditions: each theorem's own.
-/
import Derived.Test.YtkdngpiiecmpgaaGreatQ34
import Derived.Test.YtkdngpiiecmpgaaGreatQ43
namespace Go.Proofs.YtkdngpiiecmpgaaGreat.Ch
open Go Go.K Go.Proofs Go.Proofs.YtkdngpiiecmpgaaGreat Go.Proofs.YtkdngpiiecmpgaaGreat.Pg Go.Proofs.YtkdngpiiecmpgaaGreat.Rc
set_option linter.unusedVariables false
set_option linter.unusedSimpArgs false
set_option maxRecDepth 10000

def rB1 : Recd := ⟨1, 1, 1, 0, 0, 0, 0, zO, [], [], [], 0⟩
def rB2 : Recd := ⟨2, 6, 1, 1, 0, 2, 0, ⟨1, 0, 0, [97]⟩, [], [], [], 0⟩
def rB3 : Recd := ⟨1, 20, 2, 0, 0, 0, 0, zO, [], [], [], 0⟩
def rB4 : Recd := ⟨5, 25, 1, 6, 0, 0, 0, zO, [], [], [], 0⟩
def recsX : List Recd := [rB1, rB2, rB3, rB4]
def imgX : PImg := ⟨2, ⟨1, 0, 0, []⟩⟩
theorem ana_X0 : analyseQ recsX 0 = some ⟨[⟨1, 25, 0, false⟩, ⟨2, 20, 0, true⟩], [⟨2, 6⟩], 3⟩ := by decide
theorem ana_X6 : analyseQ recsX 6 = none := by decide
theorem red_X : RedoQ [imgX] recsX 0 = ([⟨2, ⟨1, 6, 0, [⟨true, 0, [97]⟩]⟩⟩], 0) := by decide
theorem wf_rB1 : wfR rB1 := ⟨by decide, by decide, by decide, by decide, by decide, by decide, by decide, ⟨by decide, by decide, by decide, by decide⟩, by decide, by decide, by decide, by decide, (fun x h => by cases h), (fun x h => by cases h)⟩
theorem wf_rB2 : wfR rB2 := ⟨by decide, by decide, by decide, by decide, by decide, by decide, by decide, ⟨by decide, by decide, by decide, by decide⟩, by decide, by decide, by decide, by decide, (fun x h => by cases h), (fun x h => by cases h)⟩
theorem wf_rB3 : wfR rB3 := ⟨by decide, by decide, by decide, by decide, by decide, by decide, by decide, ⟨by decide, by decide, by decide, by decide⟩, by decide, by decide, by decide, by decide, (fun x h => by cases h), (fun x h => by cases h)⟩
theorem wf_rB4 : wfR rB4 := ⟨by decide, by decide, by decide, by decide, by decide, by decide, by decide, ⟨by decide, by decide, by decide, by decide⟩, by decide, by decide, by decide, by decide, (fun x h => by cases h), (fun x h => by cases h)⟩
theorem imgs_nil {h : Base} : ImgsV h (.slice none 0 0) [] := ⟨[], SL.nil, rfl, fun j c x hc => by cases hc⟩
theorem small_X : ∀ x ∈ recsX, smallR x := fun x hx => by
 simp only [recsX, List.mem_cons, List.not_mem_nil, or_false] at hx
 rcases hx with rfl | rfl | rfl | rfl <;> exact ⟨by decide, by decide, by decide, by decide⟩
abbrev cB (r : Recd) (dv : Value) : List Value := cR r dv (.slice none 0 0) (.slice none 0 0) (.slice none 0 0)
set_option maxHeartbeats 4000000 in
theorem LSome (h : Base) : Tr Tryz.prog 25 [] h [] (fun u h' H' => H' = [] ∧ ∃ es, SL h' 15 u es ∧ RowsG (RecC h') es recsX) := by
 refine K.enter Tryz.func25 rfl (Nat.le_of_ble_eq_true rfl) (fun F => ?_)
 simp only [List.nil_append]
 (repeat' (first | refine X.rq ?_ | (refine X.rc ?_ ?_ <;> intro hc <;> first | (exfalso; omega) | skip)))
 refine K.l_buildSlice (Fx.und rfl) (Fx.sz rfl) rfl (Fx.zr rfl) rfl rfl rfl (cs := [.int .u8 97]) rfl rfl (fun B2 => ?_)
 refine K.l_mark (m := 1) (Fx.und rfl) (Fx.und rfl) rfl rfl (by decide) rfl ?_
 refine K.WL.freezeBuf (l := [97]) (fun h1 le1 hb1 => ?_)
 have hb1 : BV h1 (.slice (some ⟨B2, 0, none⟩) 1 1) [97] := hb1
 (repeat' (first | refine X.rq ?_ | (refine X.rc ?_ ?_ <;> intro hc <;> first | (exfalso; omega) | skip)))
 refine K.l_buildSlice (Fx.und rfl) (Fx.sz rfl) rfl (Fx.zr rfl) rfl rfl rfl (cs := cB rB1 (.slice none 0 0) ++ cB rB2 (.slice (some ⟨B2, 0, none⟩) 1 1) ++ cB rB3 (.slice none 0 0) ++ cB rB4 (.slice none 0 0)) rfl rfl (fun B8 => ?_)
 refine K.WL.bufOf (s := 15) (m := 4) rfl (by decide) ?_
 (repeat' (first | refine X.rq ?_ | (refine X.rc ?_ ?_ <;> intro hc <;> first | (exfalso; omega) | skip)))
 refine K.AT.freezeRow (es := [cB rB1 (.slice none 0 0), cB rB2 (.slice (some ⟨B2, 0, none⟩) 1 1), cB rB3 (.slice none 0 0), cB rB4 (.slice none 0 0)]) (fun e he => ?_) (fun h2 le2 hsl _ => ?_)
 ·simp only [List.mem_cons, List.not_mem_nil, or_false] at he
  rcases he with rfl | rfl | rfl | rfl <;> rfl
 have le3 := le1.trans le2
 refine K.done (by first | exact Or.inl rfl | exact Or.inr rfl) rfl (by first | exact K.Base.le.refl _ | assumption) (H' := []) rfl ⟨rfl, _, hsl, rfl, fun j c x hc hx => ?_⟩
 have r1 : RecC h2 (cB rB1 (.slice none 0 0)) rB1 := ⟨wf_rB1, _, _, _, _, _, rfl, BV.nil, imgs_nil, SL.nil, SL.nil⟩
 have r2 : RecC h2 (cB rB2 (.slice (some ⟨B2, 0, none⟩) 1 1)) rB2 := ⟨wf_rB2, _, _, _, _, _, rfl, hb1.le le2, imgs_nil, SL.nil, SL.nil⟩
 have r3 : RecC h2 (cB rB3 (.slice none 0 0)) rB3 := ⟨wf_rB3, _, _, _, _, _, rfl, BV.nil, imgs_nil, SL.nil, SL.nil⟩
 have r4 : RecC h2 (cB rB4 (.slice none 0 0)) rB4 := ⟨wf_rB4, _, _, _, _, _, rfl, BV.nil, imgs_nil, SL.nil, SL.nil⟩
 rcases j with _ | _ | _ | _ | j
 ·cases hc; cases hx; exact r1
 ·cases hc; cases hx; exact r2
 ·cases hc; cases hx; exact r3
 ·cases hc; cases hx; exact r4
 ·cases hc
set_option maxHeartbeats 8000000 in
theorem Alive (h : Base) : TrV Tryz.prog 9 [] h [] (.bool true) [] := by
 have key : Tr Tryz.prog 9 [] h [] (fun u h' H' => (u = .bool true) ∧ H' = []) := by
  refine K.enter Tryz.func9 rfl (Nat.le_of_ble_eq_true rfl) (fun F => ?_)
  simp only [List.nil_append]
  (repeat' (first | refine X.rq ?_ | (refine X.rc ?_ ?_ <;> intro hc <;> first | (exfalso; omega) | skip)))
  refine K.l_call (Fx.cal rfl) rfl (LSome h) (K.pp [] rfl) rfl ?_
  rintro u1 h1 H' le1 ⟨rfl, es1, hs1, hr1⟩
  simp only [List.nil_append]
  refine K.l_call (Fx.cal rfl) rfl (CAnalyse h1 u1 es1 recsX 0 hs1 hr1 (by decide) small_X (by decide)) (K.pp [] rfl) rfl ?_
  rintro u h' H' - ⟨e, hor⟩
  obtain rfl := e.symm
  rcases hor with ⟨hn, _⟩ | ⟨s, m1, c1, m2, c2, a1, k1, a2, k2, hs, _, rfl, rfl⟩
  ·rw [ana_X0] at hn; cases hn
  rw [ana_X0] at hs
  obtain rfl := Option.some.inj hs
  simp only [List.nil_append, List.cons_append]
  (repeat' (first | refine X.rq ?_ | (refine X.rc ?_ ?_ <;> intro hc <;> first | (exfalso; omega) | skip)))
  refine K.l_call (Fx.cal rfl) rfl (LSome h') (K.pp [] rfl) rfl ?_
  rintro u2 h2 H' le2 ⟨rfl, es2, hs2, hr2⟩
  simp only [List.nil_append]
  refine K.l_call (Fx.cal rfl) rfl (CAnalyse h2 u2 es2 recsX 6 hs2 hr2 (by decide) small_X (by decide)) (K.pp [] rfl) rfl ?_
  rintro u h3 H' - ⟨e, hor⟩
  obtain rfl := e.symm
  have hor : u = .tuple #[.slice none 0 0, .slice none 0 0, .int .u32 0, .int .i64 5] ∧ H' = [] := by
   rcases hor with ⟨_, h1, h2⟩ | ⟨s, _, _, _, _, _, _, _, _, hs, _⟩
   ·exact ⟨h1, h2⟩
   ·rw [ana_X6] at hs; cases hs
  obtain ⟨rfl, rfl⟩ := hor
  simp only [List.nil_append]
  (repeat' (first | refine X.rq ?_ | (refine X.rc ?_ ?_ <;> intro hc <;> first | (exfalso; omega) | skip)))
  refine K.l_buildSlice (Fx.und rfl) (Fx.sz rfl) rfl (Fx.zr rfl) rfl rfl rfl (cs := .int .u32 2 :: cP ⟨1, 0, 0, []⟩ (.slice none 0 0)) rfl rfl (fun B28 => ?_)
  refine K.WL.bufOf (s := 5) (m := 1) rfl (by decide) ?_
  refine K.WL.freezeRow (es := [.int .u32 2 :: cP ⟨1, 0, 0, []⟩ (.slice none 0 0)]) (fun e he => ?_) (fun h4 le4 hsp _ => ?_)
  ·rw [List.mem_singleton] at he; subst he; rfl
  have hsp : SL h4 5 (.slice (some ⟨B28, 0, none⟩) 1 1) [.int .u32 2 :: cP ⟨1, 0, 0, []⟩ (.slice none 0 0)] := hsp
  have hrp : RowsG (ImgC h4) [.int .u32 2 :: cP ⟨1, 0, 0, []⟩ (.slice none 0 0)] [imgX] := ⟨rfl, fun j c x hc hx => by
   rcases j with _ | j
   ·cases hc; cases hx
    exact ⟨by decide, _, rfl, ⟨by decide, by decide, by decide, by decide⟩, _, rfl, [], SL.nil, rfl, fun j c x hc => by cases hc⟩
   ·cases hc⟩
  (repeat' (first | refine X.rq ?_ | (refine X.rc ?_ ?_ <;> intro hc <;> first | (exfalso; omega) | skip)))
  refine K.l_call (Fx.cal rfl) rfl (LSome h4) (K.pp [] rfl) rfl ?_
  rintro u5 h5 H' le5 ⟨rfl, es5, hs5, hr5⟩
  simp only [List.nil_append]
  refine K.l_call (Fx.cal rfl) rfl (CRedo h5 _ u5 _ [imgX] es5 recsX 0 (hsp.le le5) (RowsG.mono (fun c x hc => hc.le le5) hrp) (by decide) hs5 hr5 (by decide) small_X (by decide)) (K.pp [] rfl) rfl ?_
  rintro u6 h6 H6 le6 hor
  have hor : ∃ a k c, ImgG h5 h6 c ⟨2, ⟨1, 6, 0, [⟨true, 0, [97]⟩]⟩⟩ ∧ u6 = .tuple #[bufV a 1 k, .int .i64 0] ∧ H6 = [bufA 52 5 a 1 k [c].flatten] := by
   rcases hor with ⟨hne, _⟩ | ⟨_, a, n, k, es, q1, q2, q3, q4⟩
   ·rw [red_X] at hne; exact absurd rfl hne
   ·rw [red_X] at q1 q2
    obtain ⟨c, rfl⟩ := List.length_eq_one_iff.1 q2.1
    subst q1
    exact ⟨a, k, c, q2.2 0 c _ rfl rfl, q3, q4⟩
  obtain ⟨a6, k6, c6, hi6, rfl, rfl⟩ := hor
  simp only [List.nil_append, List.cons_append]
  obtain ⟨_, cs6, rfl, hpf6⟩ := hi6
  obtain ⟨_, cv6, rfl, es5', hv6, hel6, _⟩ := hpf6.c
  obtain ⟨ao6, ca6, rfl⟩ := hv6.len
  rw [hel6]
  refine K.WL.freezeRow (sz := 5) (es := [.int .u32 2 :: cP ⟨1, 6, 0, [⟨true, 0, [97]⟩]⟩ (.slice ao6 1 ca6)]) (fun e he => ?_) (fun h7 le7 hP _ => ?_)
  ·rw [List.mem_singleton] at he; subst he; rfl
  refine K.WL.freezeRow (sz := 2) (es := [cD ⟨2, 6⟩]) (fun e he => ?_) (fun h8 le8 hD _ => ?_)
  ·rw [List.mem_singleton] at he; subst he; rfl
  refine K.WL.freezeRow (sz := 4) (es := [cL ⟨1, 25, 0, false⟩, cL ⟨2, 20, 0, true⟩]) (fun e he => ?_) (fun h9 le9 hL _ => ?_)
  ·simp only [List.mem_cons, List.not_mem_nil, or_false] at he
   rcases he with rfl | rfl <;> rfl
  have hD := hD.le le9
  have hP := hP.le (le8.trans le9)
  have hle9 := le1.trans (le2.trans (le4.trans (le5.trans (le6.trans (le7.trans (le8.trans le9))))))
  have hfr := CFrom h9 _ [⟨2, 6⟩] hD (by decide)
  have hnx := CNext h9 _ [⟨1, 25, 0, false⟩, ⟨2, 20, 0, true⟩] hL (by decide)
  clear hor hs hsp hrp hs1 hr1 hs2 hr2 hs5 hr5
  (repeat' (first | refine X.rq ?_ | (refine X.rc ?_ ?_ <;> intro hc <;> first | (exfalso; omega) | skip)))
  refine K.s_pureE (K.p_indexL hL (Fx.und rfl) (Fx.sz rfl) rfl rfl (by decide) (cs := cL ⟨1, 25, 0, false⟩) rfl) rfl ?_
  rintro v42 ⟨b42, o42, rfl, hc42⟩
  (repeat' (first | refine X.rq ?_ | (refine X.rc ?_ ?_ <;> intro hc <;> first | (exfalso; omega) | skip)))
  refine K.s_pure (K.p_loadM (Fx.agg rfl) rfl (Cels.up hc42) (Fx.sz rfl) rfl) rfl ?_
  (repeat' (first | refine X.rq ?_ | (refine X.rc ?_ ?_ <;> intro hc <;> first | (exfalso; omega) | skip)))
  refine K.s_pureE (K.p_indexL hL (Fx.und rfl) (Fx.sz rfl) rfl rfl (by decide) (cs := cL ⟨2, 20, 0, true⟩) rfl) rfl ?_
  rintro v49 ⟨b49, o49, rfl, hc49⟩
  (repeat' (first | refine X.rq ?_ | (refine X.rc ?_ ?_ <;> intro hc <;> first | (exfalso; omega) | skip)))
  refine K.s_pure (K.p_loadM (Fx.agg rfl) rfl (Cels.up hc49) (Fx.sz rfl) rfl) rfl ?_
  (repeat' (first | refine X.rq ?_ | (refine X.rc ?_ ?_ <;> intro hc <;> first | (exfalso; omega) | skip)))
  refine K.s_pureE (K.p_indexL hD (Fx.und rfl) (Fx.sz rfl) rfl rfl (by decide) (cs := cD ⟨2, 6⟩) rfl) rfl ?_
  rintro v61 ⟨b61, o61, rfl, hc61⟩
  (repeat' (first | refine X.rq ?_ | (refine X.rc ?_ ?_ <;> intro hc <;> first | (exfalso; omega) | skip)))
  refine K.s_pure (K.p_loadM (Fx.agg rfl) rfl (Cels.up hc61) (Fx.sz rfl) rfl) rfl ?_
  (repeat' (first | refine X.rq ?_ | (refine X.rc ?_ ?_ <;> intro hc <;> first | (exfalso; omega) | skip)))
  refine K.l_call (Fx.cal rfl) rfl hfr (K.pp [] rfl) rfl ?_
  rintro u h' H' - ⟨e, rfl, n, rfl, hn⟩
  obtain rfl := e.symm
  obtain rfl : n = 6 := hn.eq (.inr ⟨⟨_, List.mem_singleton.2 rfl, rfl⟩, fun y hy => by rw [List.mem_singleton] at hy; subst hy; exact Nat.le_refl _⟩)
  simp only [List.nil_append]
  (repeat' (first | refine X.rq ?_ | (refine X.rc ?_ ?_ <;> intro hc <;> first | (exfalso; omega) | skip)))
  refine K.l_call (Fx.cal rfl) rfl hnx (K.pp [] rfl) rfl ?_
  rintro u h' H' - ⟨e, rfl, n, rfl, hn⟩
  obtain rfl := e.symm
  obtain rfl : n = 1 := hn.eq (.inr ⟨1, ⟨2, 20, 0, true⟩, rfl, by decide, by decide, rfl, rfl, fun j y _ hj hy hl => by
   rcases j with _ | _ | j
   ·cases hy; cases hl
   ·cases hy; exact ⟨Nat.le_refl _, fun h => absurd h (by decide)⟩
   ·simp at hj; omega⟩)
  simp only [List.nil_append]
  (repeat' (first | refine X.rq ?_ | (refine X.rc ?_ ?_ <;> intro hc <;> first | (exfalso; omega) | skip)))
  refine K.s_pureE (K.p_indexL hP (Fx.und rfl) (Fx.sz rfl) rfl rfl (by decide) (cs := (.int .u32 2 :: cP ⟨1, 6, 0, [⟨true, 0, [97]⟩]⟩ (.slice ao6 1 ca6))) rfl) rfl ?_
  rintro v95 ⟨b95, o95, rfl, hc95⟩
  (repeat' (first | refine X.rq ?_ | (refine X.rc ?_ ?_ <;> intro hc <;> first | (exfalso; omega) | skip)))
  refine K.s_pure (K.p_load (Fx.agg rfl) rfl (Cels.get (Cels.up hc95) 2 (.int .u64 6) rfl)) rfl ?_
  (repeat' (first | refine X.rq ?_ | (refine X.rc ?_ ?_ <;> intro hc <;> first | (exfalso; omega) | skip)))
  refine K.s_pureE (K.p_indexL hP (Fx.und rfl) (Fx.sz rfl) rfl rfl (by decide) (cs := (.int .u32 2 :: cP ⟨1, 6, 0, [⟨true, 0, [97]⟩]⟩ (.slice ao6 1 ca6))) rfl) rfl ?_
  rintro v103 ⟨b103, o103, rfl, hc103⟩
  (repeat' (first | refine X.rq ?_ | (refine X.rc ?_ ?_ <;> intro hc <;> first | (exfalso; omega) | skip)))
  refine K.s_pure (K.p_load (Fx.agg rfl) rfl (Cels.get (Cels.up hc103) 4 (.slice ao6 1 ca6) rfl)) rfl ?_
  (repeat' (first | refine X.rq ?_ | (refine X.rc ?_ ?_ <;> intro hc <;> first | (exfalso; omega) | skip)))
  refine K.done (by first | exact Or.inl rfl | exact Or.inr rfl) rfl (by first | exact K.Base.le.refl _ | assumption) (H' := []) rfl ⟨rfl, rfl⟩
 exact fun F w ok => Calls.mono (K.Tr.forget (Q := fun u H' => u = .bool true ∧ H' = []) key F w ok) fun e w' ⟨u, he, h1, H1, hle, ⟨e1, e2, e3⟩, ok1⟩ => ⟨u, he, h1, H1, hle, ⟨e2, e1, e3⟩, ok1⟩
end Go.Proofs.YtkdngpiiecmpgaaGreat.Ch
