/-
 A log marked, and emptied. Conditions: each theorem's own.
-/
import Derived.Test.YtmcdaegaopfihaaGreatY39
namespace Go.K
open Go
theorem AT.allNil {P : Program} {n : NN} {Q : Exit → Act → World → Prop} {E : Env} {h : Base} {H : List Asrt} {q : Exit} (hk : AT P n Q q E h (all [] :: H)) : AT P n Q q E h H := ⟨fun a w fa ok => hk.run a w fa (Ok.all_iff.2 ok)⟩
end Go.K
namespace Go.Proofs.YtmcdaegaopfihaaGreat.Wl
open Go Go.K Go.Proofs Go.Proofs.YtmcdaegaopfihaaGreat Go.Proofs.YtmcdaegaopfihaaGreat.Cc
set_option linter.unusedVariables false
set_option linter.unusedSimpArgs false
set_option maxRecDepth 10000

theorem sv2 {h : Base} {d : Nat} {f0 f1 : Value} {s0 s1 : Stp} (h0 : StepV h d f0 s0) (h1 : StepV h d f1 s1) : ∀ (j : Nat) f s, [f0, f1][j]? = some f → [s0, s1][j]? = some s → StepV h d f s := fun j f s hf hs => by
 match j with
 | 0 => cases hf; cases hs; exact h0
 | 1 => cases hf; cases hs; exact h1
 | j + 2 => simp at hf
theorem sv6 {h : Base} {d : Nat} {f0 f1 f2 f3 f4 f5 : Value} {s0 s1 s2 s3 s4 s5 : Stp} (h0 : StepV h d f0 s0) (h1 : StepV h d f1 s1) (h2 : StepV h d f2 s2) (h3 : StepV h d f3 s3) (h4 : StepV h d f4 s4) (h5 : StepV h d f5 s5) : ∀ (j : Nat) f s, [f0, f1, f2, f3, f4, f5][j]? = some f → [s0, s1, s2, s3, s4, s5][j]? = some s → StepV h d f s := fun j f s hf hs => by
 match j with
 | 0 => cases hf; cases hs; exact h0
 | 1 => cases hf; cases hs; exact h1
 | 2 => cases hf; cases hs; exact h2
 | 3 => cases hf; cases hs; exact h3
 | 4 => cases hf; cases hs; exact h4
 | 5 => cases hf; cases hs; exact h5
 | j + 6 => simp at hf
def markS (m : Mas) (c : Nat) : List Stp := [writeS { m with check := c }, syncS]
def markQ (L : Lg) (c : Nat) (D : Dk) : Int × Lg × Dk :=
 if c ≠ 0 ∧ (c ∉ L.starts ∨ L.durable ≤ c) then (1, L, D) else
 if (stepsQ (markS L.m c) D).1 ≠ 0 then ((stepsQ (markS L.m c) D).1, L, (stepsQ (markS L.m c) D).2) else
 (0, { L with m := { L.m with check := c } }, (stepsQ (markS L.m c) D).2)
theorem BSearchA (h : Base) (a : Option Nat) (k : Nat) (l : List Nat) (x : Nat) (hl : l.length ≤ 1000000000) (hs : l.Pairwise (· < ·)) : TrV Tryz.prog 37 [bufV a l.length k, n64 x] h ([bufA 27 1 a l.length k (l.map n64)] ++ []) (.tuple #[.int .i64 (lbQ l x), .bool (decide (x ∈ l))]) ([bufA 27 1 a l.length k (l.map n64)] ++ []) :=
 K.TrV.borrow fun h' _ hs' => by
  have e1 : (l.map fun x => [n64 x]).flatten = l.map n64 := by
   clear hs hl hs'
   induction l with
   | nil => rfl
   | cons x l ih => rw [List.map_cons, List.flatten_cons, ih]; rfl
  have e2 : (l.map fun x => [n64 x]).length = l.length := List.length_map ..
  rw [← e1, ← e2] at hs'
  have hsl := K.says_sl (fun e he => by obtain ⟨x, _, rfl⟩ := List.mem_map.1 he; rfl) hs'
  rw [e2] at hsl
  exact BSearch h' _ l x hsl hl hs
set_option maxHeartbeats 4000000 in
theorem Mark (h : Base) (p d : Nat) (W : LM) (L : Lg) (c : Nat) (M : DM) (D : Dk) (ho : LgOk L) (hp : L.starts.Pairwise (· < ·)) (hc : c < 18446744073709551616) (hk : DkOk D) (hr : D.cache.length + 20000 ≤ roomMax) :
  Tr Tryz.prog 10 [pv p, n64 c] h (lgA p d W L ++ dkA d M D) (fun u h' H' => u = .int .i64 (markQ L c D).1 ∧ ∃ M', H' = lgA p d W (markQ L c D).2.1 ++ dkA d M' (markQ L c D).2.2) := by
 have hno := LNone h p d W L
 have hmo := ho.mas
 have hbs := BSearchA h W.ar W.kr L.starts c (by have := ho.str; have := ho.sts; have := hmo.n; omega) hp
 have hdu := ho.dur
 have hba := ho.base
 unfold lastLSN at hba
 have hst := ho.str
 have hmn := hmo.n
 have hm2 : MasOk { L.m with check := c } := ⟨hmo.n, hmo.base, hc, hmo.kept⟩
 refine K.enter Tryz.func10 rfl (Nat.le_of_ble_eq_true rfl) (fun F => ?_)
 unfold lgA lgV startsA at hno ⊢
 simp only [List.cons_append, List.nil_append] at hno ⊢
 (repeat' first | refine X.rq ?_ | refine X.rc ?_ ?_ <;> intro hc <;> try omega)
 refine K.l_callV (Fx.cal rfl) rfl hno (K.pp [0, 0, 0] rfl) rfl rfl ?_
 (repeat' first | refine X.rs ?_ | refine X.rd ?_ ?_ <;> intro hc <;> try omega)
 apply K.c_seq
 refine K.c_join (β := Unit) (fun _ => [(0, pv p), (1, n64 c)]) (fun _ => h)
  (fun _ => blk p 34 [dv d, .int .i64 L.m.n, n64 L.m.base, n64 L.m.check, .int .u32 L.m.kept, .bool L.m.wiped, W.sv, bufV W.ar L.starts.length W.kr, n64 L.durable] :: W.sA :: bufA 27 1 W.ar L.starts.length W.kr (L.starts.map n64) :: (dkA d M D ++ F))
  (fun _ => ¬ (c ≠ 0 ∧ (c ∉ L.starts ∨ L.durable ≤ c))) (fun KJ hJ => ?_) ?_
 ·(repeat' first | refine X.rq ?_ | refine X.rc ?_ ?_ <;> intro hc <;> try omega)
  refine K.l_callV (Fx.cal rfl) rfl hbs (K.pp [2] rfl) rfl rfl ?_
  simp only [Go.K.nmz]
  by_cases h0 : c = 0
  ·by_cases hf : c ∈ L.starts
   ·rw [decide_eq_true hf]
    unfold n64
    (repeat' first | refine X.rq ?_ | refine X.rc ?_ ?_ <;> intro hc <;> try omega)
    all_goals try (exfalso; omega)
    skip
    refine K.AT.perm (K.pp [1, 1] rfl) ?_
    refine K.a_join hJ () (fun hb => hb.1 h0) (by repeat (first | exact K.Sub.nil _ | refine K.Sub.cons rfl ?_)) rfl rfl
   ·rw [decide_eq_false hf]
    unfold n64
    (repeat' first | refine X.rq ?_ | refine X.rc ?_ ?_ <;> intro hc <;> try omega)
    all_goals try (exfalso; omega)
    refine K.AT.perm (K.pp [1, 1] rfl) ?_
    refine K.a_join hJ () (fun hb => hb.1 h0) (by repeat (first | exact K.Sub.nil _ | refine K.Sub.cons rfl ?_)) rfl rfl
  ·by_cases hf : c ∈ L.starts
   ·rw [decide_eq_true hf]
    unfold n64
    by_cases hd : L.durable ≤ c
    ·have hm : markQ L c D = (1, L, D) := by unfold markQ; rw [if_pos ⟨h0, .inr hd⟩]
     rw [hm]
     (repeat' first | refine X.rq ?_ | refine X.rc ?_ ?_ <;> intro hc <;> try omega)
     all_goals try (exfalso; omega)
     refine K.AT.perm (K.pp [1, 1] rfl) ?_
     exact K.done (vs := [.int .i64 1]) (by first | exact Or.inl rfl | exact Or.inr rfl) rfl (K.Base.le.refl _) (H' := [_, _, _, _, _, _]) rfl ⟨rfl, M, rfl⟩
    ·(repeat' first | refine X.rq ?_ | refine X.rc ?_ ?_ <;> intro hc <;> try omega)
     all_goals try (exfalso; omega)
     refine K.AT.perm (K.pp [1, 1] rfl) ?_
     refine K.a_join hJ () (fun hb => hb.2.elim (fun x => x hf) hd) (by repeat (first | exact K.Sub.nil _ | refine K.Sub.cons rfl ?_)) rfl rfl
   ·rw [decide_eq_false hf]
    unfold n64
    have hm : markQ L c D = (1, L, D) := by unfold markQ; rw [if_pos ⟨h0, .inl hf⟩]
    rw [hm]
    (repeat' first | refine X.rq ?_ | refine X.rc ?_ ?_ <;> intro hc <;> try omega)
    all_goals try (exfalso; omega)
    refine K.AT.perm (K.pp [1, 1] rfl) ?_
    exact K.done (vs := [.int .i64 1]) (by first | exact Or.inl rfl | exact Or.inr rfl) rfl (K.Base.le.refl _) (H' := [_, _, _, _, _, _]) rfl ⟨rfl, M, rfl⟩
 ·intro _ hgood
  unfold markQ
  rw [if_neg hgood]
  (repeat' first | refine X.rq ?_ | refine X.rc ?_ ?_ <;> intro hc <;> try omega)
  refine K.s_pure (K.p_loadM (vs := masV L.m) (Fx.agg rfl) rfl (K.cels_own (pre := [dv d]) (cs := masV L.m) (post := [W.sv, bufV W.ar L.starts.length W.kr, n64 L.durable]) 0 rfl rfl) (Fx.sz rfl) rfl) rfl ?_
  refine K.l_alloc (Fx.zr rfl) rfl rfl (fun B7 => ?_)
  refine K.l_storeW_at (us := masV L.m) 0 rfl (Fx.sz rfl) rfl rfl rfl rfl rfl ?_
  simp only [Go.K.nmz]
  unfold masV
  (repeat' first | refine X.rq ?_ | refine X.rc ?_ ?_ <;> intro hc <;> try omega)
  refine X.sto ?_
  simp only [Go.K.nmz]
  (repeat' first | refine X.rq ?_ | refine X.rc ?_ ?_ <;> intro hc <;> try omega)
  refine X.draw ([blk B7 30 [.int .i64 L.m.n, .int .u64 L.m.base, n64 c, .int .u32 L.m.kept, .bool L.m.wiped], blk p 34 [dv d, .int .i64 L.m.n, n64 L.m.base, n64 L.m.check, .int .u32 L.m.kept, .bool L.m.wiped, W.sv, bufV W.ar L.starts.length W.kr, n64 L.durable]]) [] (.pu 1 (.pu 2 (.pu 3 (.pu 6 (.pu 7 (.pu 8 (.st 0 (.st 4 (.st 9 (.pu 10 (.on 5 (.on 11 (.on 12 (.pu 13 .nil)))))))))))))) ?_ (hQ := by repeat (first | with_reducible refine K.NoPanic.then ?_ | with_reducible refine K.NoPanic.inBlock ?_ | with_reducible exact K.post_noPanic _ _ | exact K.post_noPanic _ _ | exact K.QN_noPanic | exact K.postS_noPanic | exact K.postX_noPanic | exact K.RPX_noPanic))
  refine K.d_pu rfl (fun _ _ => X.mv) rfl ?_
  refine K.d_pu rfl (fun _ _ => X.nc) rfl ?_
  refine K.d_pu rfl (fun _ _ => X.fa) rfl ?_
  refine K.d_pu rfl (fun _ _ => X.mv) rfl ?_
  refine K.d_pu rfl (fun _ _ => X.nc) rfl ?_
  refine K.d_pu rfl (fun _ _ => X.fa) rfl ?_
  refine K.d_st rfl (K.p_loadM (vs := masV { L.m with check := c }) (Fx.agg rfl) rfl (K.cels_own (pre := []) (cs := masV { L.m with check := c }) (post := []) 0 rfl rfl) (Fx.sz rfl) rfl) rfl ?_
  refine K.d_st rfl X.ld rfl ?_
  refine K.d_st rfl X.ld rfl ?_
  refine K.d_pu rfl (fun _ _ => K.p_makeFuncB rfl rfl) rfl ?_
  refine K.d_on rfl (fun KK hKK => ?_)
  refine K.l_call (Fx.cal rfl) rfl (WriteV h d _ hm2) (K.pp [] rfl) rfl ?_
  rintro u h3 H' le3 ⟨rfl, hs2, f2, g2, c2, rfl⟩
  simp only [List.nil_append]
  refine K.l_nil ?_
  refine X.onE hKK ?_
  refine K.d_on rfl (fun KK hKK => ?_)
  refine K.l_buildSlice (Fx.und rfl) (Fx.sz rfl) rfl (Fx.zr rfl) rfl rfl rfl rfl rfl (fun B9 => ?_)
  refine K.WL.bufOf (m := 2) (s := 1) rfl (by unfold maxLen; omega) ?_
  refine K.WL.freezeRowN (es := [.func f2 g2 c2, .func (.func 36) #[dv d] #[]].map fun f => [f]) rfl (fun e he => by obtain ⟨n, _, rfl⟩ := List.mem_map.1 he; rfl) (fun h4 le4 hs4 => ?_)
  have le14 := le3.trans le4
  have hsv := sv2 (hs2.le le4) (syncV h4 d)
  refine K.l_nil ?_
  refine X.onE hKK ?_
  refine K.d_on rfl (fun KK hKK => ?_)
  refine K.l_call (Fx.cal rfl) rfl (Steps h4 d M D _ _ _ hs4 rfl (by show 2 ≤ 1000; decide) hsv hk (by simp only [sumK, writeS, syncS]; omega)) (K.pp [4, 4, 4] rfl) rfl ?_
  rintro u h5 H' le5 ⟨rfl, M2, rfl⟩
  have le15 := le14.trans le5
  refine K.l_nil ?_
  refine X.onE hKK ?_
  refine K.d_pu rfl (fun _ _ => X.sg) rfl ?_
  refine K.d_nil ?_
  have le9 := le3.trans (le4.trans le5)
  by_cases h0 : (stepsQ (markS L.m c) D).1 = 0
  ·rw [if_neg (by omega)]
   have h0' : (stepsQ [writeS { L.m with check := c }, syncS] D).1 = 0 := h0
   rw [h0']
   (repeat' first | refine X.rq ?_ | refine X.rc ?_ ?_ <;> intro hc <;> try omega)
   all_goals try (exfalso; omega)
   refine K.WL.perm (K.pp [4, 4, 4] rfl) ?_
   refine K.l_storeN (pre := [dv d]) (cs := masV L.m) (us := masV { L.m with check := c }) (post := [W.sv, bufV W.ar L.starts.length W.kr, n64 L.durable]) (Fx.sz rfl) rfl rfl rfl rfl rfl (K.Free.zero _) ?_
   (repeat' first | refine X.rq ?_ | refine X.rc ?_ ?_ <;> intro hc <;> try omega)
   refine K.AT.perm (K.pp [6] rfl) ?_
   exact K.doneC (vs := [.int .i64 0]) (by first | exact Or.inl rfl | exact Or.inr rfl) (.tmp rfl .nil) le9 (D := [_]) (H' := [_, _, _, _, _, _]) rfl ⟨rfl, M2, rfl⟩
  ·rw [if_pos h0]
   have h0' : ¬ (stepsQ [writeS { L.m with check := c }, syncS] D).1 = 0 := h0
   (repeat' first | refine X.rq ?_ | refine X.rc ?_ ?_ <;> intro hc <;> try omega)
   all_goals try (exfalso; omega)
   refine K.AT.perm (K.pp [3, 3, 3, 3] rfl) ?_
   exact K.doneC (vs := [.int .i64 _]) (by first | exact Or.inl rfl | exact Or.inr rfl) (.tmp rfl .nil) le9 (D := [_]) (H' := [_, _, _, _, _, _]) rfl ⟨rfl, M2, rfl⟩
def resetM (L : Lg) (kept : Nat) (w : Bool) : Mas := ⟨L.m.n, endQ L, 0, kept, w⟩
def resetS (L : Lg) (kept : Nat) : List Stp := [writeS (resetM L kept true), syncS, wipeS (secs L.stream), syncS, writeS (resetM L kept false), syncS]
def resetQ (L : Lg) (kept : Nat) (D : Dk) : Int × Lg × Dk :=
 if (stepsQ (resetS L kept) D).1 ≠ 0 then ((stepsQ (resetS L kept) D).1, L, (stepsQ (resetS L kept) D).2) else
 (0, ⟨resetM L kept false, [], [], endQ L⟩, (stepsQ (resetS L kept) D).2)
set_option maxHeartbeats 8000000 in
theorem Reset (h : Base) (p d : Nat) (W : LM) (L : Lg) (kept : Nat) (M : DM) (D : Dk) (ho : LgOk L) (hs : StrOk h W L.stream) (hc : kept < 4294967296) (hk : DkOk D) (hr : D.cache.length + 20000 ≤ roomMax) :
  Tr Tryz.prog 11 [pv p, .int .u32 kept] h (lgA p d W L ++ dkA d M D) (fun u h' H' => u = .int .i64 (resetQ L kept D).1 ∧ ∃ M' W', StrOk h' W' (resetQ L kept D).2.1.stream ∧ H' = lgA p d W' (resetQ L kept D).2.1 ++ dkA d M' (resetQ L kept D).2.2) := by
 have hno := LNone h p d W L
 have hmo := ho.mas
 have hba := ho.base
 unfold lastLSN at hba
 have hst := ho.str
 have hmn := hmo.n
 have hen := LEnd h p d W L ho hs
 obtain ⟨so, sc, hsv⟩ := hs.len
 obtain ⟨sv, sA, ar, kr⟩ := W
 dsimp only at hsv
 subst hsv
 have hm1 : MasOk (resetM L kept true) := ⟨hmo.n, by show endQ L < _; unfold endQ; omega, by show (0 : Nat) < _; decide, hc⟩
 have hm2 : MasOk (resetM L kept false) := ⟨hmo.n, by show endQ L < _; unfold endQ; omega, by show (0 : Nat) < _; decide, hc⟩
 obtain ⟨en, hen2⟩ : ∃ en, en = endQ L := ⟨_, rfl⟩
 have hsec : secs L.stream = (L.stream.length + 509) / 510 := rfl
 rw [← hen2] at hen
 refine K.enter Tryz.func11 rfl (Nat.le_of_ble_eq_true rfl) (fun F => ?_)
 unfold lgA lgV at hno hen ⊢
 simp only [List.cons_append, List.nil_append] at hno hen ⊢
 (repeat' first | refine X.rq ?_ | refine X.rc ?_ ?_ <;> intro hc <;> try omega)
 refine K.l_callV (Fx.cal rfl) rfl hno (K.pp [0, 0, 0] rfl) rfl rfl ?_
 (repeat' first | refine X.rq ?_ | refine X.rc ?_ ?_ <;> intro hc <;> try omega)
 refine X.drawJ ([blk p 34 [dv d, .int .i64 L.m.n, n64 L.m.base, n64 L.m.check, .int .u32 L.m.kept, .bool L.m.wiped, .slice so L.stream.length sc, bufV ar L.starts.length kr, n64 L.durable]]) [] (.pu 0 (.pu 1 (.pu 2 (.pu 3 (.pu 5 (.pu 7 (.st 4 (.alt 6 (.pu 8 (.on 9 (.on 10 .nil))) (.on 9 (.on 6 (.pu 8 (.on 10 .nil)))))))))))) (fun B : Nat => [(0, pv p), (1, .int .u32 kept), (5, pv B)]) (fun _ => h) (fun B => blk B 30 [.int .i64 L.m.n, n64 en, .int .u64 0, .int .u32 kept, .bool true] :: blk p 34 [dv d, .int .i64 L.m.n, n64 L.m.base, n64 L.m.check, .int .u32 L.m.kept, .bool L.m.wiped, .slice so L.stream.length sc, bufV ar L.starts.length kr, n64 L.durable] :: sA :: startsA ⟨.slice so L.stream.length sc, sA, ar, kr⟩ L :: (dkA d M D ++ F)) ?_ ?_
 ·refine K.d_pu rfl (fun _ _ => X.mv) rfl ?_
  refine K.d_pu rfl (fun _ _ => X.nc) rfl ?_
  refine K.d_pu rfl (fun _ _ => X.fa) rfl ?_
  refine K.d_pu rfl (fun _ _ => X.fa) rfl ?_
  refine K.d_pu rfl (fun _ _ => X.mv) rfl ?_
  refine K.d_pu rfl (fun _ _ => X.mv) rfl ?_
  refine K.d_st rfl X.ld rfl ?_
  refine K.d_alt ?_ ?_
  ·refine K.d_on rfl (fun KK hKK => ?_)
   refine K.l_callV (Fx.cal rfl) rfl hen (K.pp [0, 0, 0] rfl) rfl rfl ?_
   refine K.l_nil ?_
   refine X.onE hKK ?_
   refine K.d_pu rfl (fun _ _ => X.bd) rfl ?_
   refine K.d_on rfl (fun KK hKK => ?_)
   refine K.l_alloc (Fx.zr rfl) rfl rfl (fun B5 => ?_)
   refine K.l_nil ?_
   refine X.onE hKK ?_
   refine K.d_on rfl (fun KK hKK => ?_)
   refine X.stw ?_
   simp only [Go.K.nmz]
   refine K.l_nil ?_
   refine X.onE hKK ?_
   refine K.d_nil ?_
   exact K.joined (B5) (by repeat (first | exact K.Sub.nil _ | refine K.Sub.cons rfl ?_)) rfl rfl
  refine K.d_on rfl (fun KK hKK => ?_)
  refine K.l_alloc (Fx.zr rfl) rfl rfl (fun B5 => ?_)
  refine K.l_nil ?_
  refine X.onE hKK ?_
  refine K.d_on rfl (fun KK hKK => ?_)
  refine K.l_callV (Fx.cal rfl) rfl hen (K.pp [1, 1, 1] rfl) rfl rfl ?_
  refine K.l_nil ?_
  refine X.onE hKK ?_
  refine K.d_pu rfl (fun _ _ => X.bd) rfl ?_
  refine K.d_on rfl (fun KK hKK => ?_)
  refine X.stw ?_
  simp only [Go.K.nmz]
  refine K.WL.perm (K.pp [3] rfl) ?_
  refine K.l_nil ?_
  refine X.onE hKK ?_
  refine K.d_nil ?_
  exact K.joined (B5) (by repeat (first | exact K.Sub.nil _ | refine K.Sub.cons rfl ?_)) rfl rfl
 refine fun B5 => ?_
 (repeat' first | refine X.rq ?_ | refine X.rc ?_ ?_ <;> intro hc <;> try omega)
 refine K.l_alloc (Fx.zr rfl) rfl rfl (fun B6 => ?_)
 refine K.l_storeW_at (us := [.int .i64 L.m.n, n64 en, .int .u64 0, .int .u32 kept, .bool true]) 0 rfl (Fx.sz rfl) rfl rfl rfl rfl rfl ?_
 simp only [Go.K.nmz]
 (repeat' first | refine X.rq ?_ | refine X.rc ?_ ?_ <;> intro hc <;> try omega)
 refine X.sto ?_
 simp only [Go.K.nmz]
 (repeat' first | refine X.rq ?_ | refine X.rc ?_ ?_ <;> intro hc <;> try omega)
 rw [show ((L.stream.length : Int) + 510 - 1) / 510 = (secs L.stream : Int) by omega]
 subst hen2
 (repeat' first | refine X.rq ?_ | refine X.rc ?_ ?_ <;> intro hc <;> try omega)
 refine X.draw ([blk B6 30 [.int .i64 L.m.n, n64 (endQ L), .int .u64 0, .int .u32 kept, .bool false], blk B5 30 [.int .i64 L.m.n, n64 (endQ L), .int .u64 0, .int .u32 kept, .bool true], blk p 34 [dv d, .int .i64 L.m.n, n64 L.m.base, n64 L.m.check, .int .u32 L.m.kept, .bool L.m.wiped, .slice so L.stream.length sc, bufV ar L.starts.length kr, n64 L.durable]]) [] (.pu 1 (.pu 2 (.pu 3 (.pu 6 (.pu 7 (.pu 8 (.pu 11 (.pu 12 (.pu 13 (.pu 15 (.pu 17 (.pu 18 (.pu 19 (.pu 23 (.pu 24 (.pu 25 (.pu 28 (.pu 29 (.pu 30 (.st 0 (.st 4 (.st 9 (.pu 10 (.st 14 (.st 20 (.pu 21 (.st 22 (.st 26 (.st 31 (.pu 32 (.on 5 (.on 16 (.on 27 (.on 33 (.on 34 (.pu 35 .nil)))))))))))))))))))))))))))))))))))) ?_ (hQ := by repeat (first | with_reducible refine K.NoPanic.then ?_ | with_reducible refine K.NoPanic.inBlock ?_ | with_reducible exact K.post_noPanic _ _ | exact K.post_noPanic _ _ | exact K.QN_noPanic | exact K.postS_noPanic | exact K.postX_noPanic | exact K.RPX_noPanic))
 refine K.d_pu rfl (fun _ _ => X.mv) rfl ?_
 refine K.d_pu rfl (fun _ _ => X.nc) rfl ?_
 refine K.d_pu rfl (fun _ _ => X.fa) rfl ?_
 refine K.d_pu rfl (fun _ _ => X.mv) rfl ?_
 refine K.d_pu rfl (fun _ _ => X.nc) rfl ?_
 refine K.d_pu rfl (fun _ _ => X.fa) rfl ?_
 refine K.d_pu rfl (fun _ _ => X.mv) rfl ?_
 refine K.d_pu rfl (fun _ _ => X.nc) rfl ?_
 refine K.d_pu rfl (fun _ _ => X.fa) rfl ?_
 refine K.d_pu rfl (fun _ _ => X.mv) rfl ?_
 refine K.d_pu rfl (fun _ _ => X.mv) rfl ?_
 refine K.d_pu rfl (fun _ _ => X.nc) rfl ?_
 refine K.d_pu rfl (fun _ _ => X.fa) rfl ?_
 refine K.d_pu rfl (fun _ _ => X.mv) rfl ?_
 refine K.d_pu rfl (fun _ _ => X.nc) rfl ?_
 refine K.d_pu rfl (fun _ _ => X.fa) rfl ?_
 refine K.d_pu rfl (fun _ _ => X.mv) rfl ?_
 refine K.d_pu rfl (fun _ _ => X.nc) rfl ?_
 refine K.d_pu rfl (fun _ _ => X.fa) rfl ?_
 refine K.d_st rfl (K.p_loadM (vs := masV (resetM L kept true)) (Fx.agg rfl) rfl (K.cels_own (pre := []) (cs := masV (resetM L kept true)) (post := []) 1 rfl rfl) (Fx.sz rfl) rfl) rfl ?_
 refine K.d_st rfl X.ld rfl ?_
 refine K.d_st rfl X.ld rfl ?_
 refine K.d_pu rfl (fun _ _ => K.p_makeFuncB rfl rfl) rfl ?_
 refine K.d_st rfl X.ld rfl ?_
 refine K.d_st rfl X.ld rfl ?_
 refine K.d_pu rfl (fun _ _ => K.p_makeFuncB rfl rfl) rfl ?_
 refine K.d_st rfl (K.p_loadM (vs := masV (resetM L kept false)) (Fx.agg rfl) rfl (K.cels_own (pre := []) (cs := masV (resetM L kept false)) (post := []) 0 rfl rfl) (Fx.sz rfl) rfl) rfl ?_
 refine K.d_st rfl X.ld rfl ?_
 refine K.d_st rfl X.ld rfl ?_
 refine K.d_pu rfl (fun _ _ => K.p_makeFuncB rfl rfl) rfl ?_
 refine K.d_on rfl (fun KK hKK => ?_)
 refine K.l_call (Fx.cal rfl) rfl (WriteV h d _ hm1) (K.pp [] rfl) rfl ?_
 rintro u h1 H' le1 ⟨rfl, hs1, f1, g1, c1, rfl⟩
 simp only [List.nil_append]
 refine K.l_nil ?_
 refine X.onE hKK ?_
 refine K.d_on rfl (fun KK hKK => ?_)
 refine K.l_call (Fx.cal rfl) rfl (WipeV h1 d (secs L.stream) (by omega)) (K.pp [] rfl) rfl ?_
 rintro u h2 H' le2 ⟨rfl, hs2, f2, g2, c2, rfl⟩
 simp only [List.nil_append]
 have le12 := le1.trans le2
 refine K.l_nil ?_
 refine X.onE hKK ?_
 refine K.d_on rfl (fun KK hKK => ?_)
 refine K.l_call (Fx.cal rfl) rfl (WriteV h2 d _ hm2) (K.pp [] rfl) rfl ?_
 rintro u h3 H' le3 ⟨rfl, hs3, f3, g3, c3, rfl⟩
 simp only [List.nil_append]
 have le13 := le12.trans le3
 refine K.l_nil ?_
 refine X.onE hKK ?_
 refine K.d_on rfl (fun KK hKK => ?_)
 refine K.l_buildSlice (Fx.und rfl) (Fx.sz rfl) rfl (Fx.zr rfl) rfl rfl rfl rfl rfl (fun B9 => ?_)
 refine K.WL.bufOf (m := 6) (s := 1) rfl (by unfold maxLen; omega) ?_
 refine K.WL.freezeRowN (es := [.func f1 g1 c1, .func (.func 36) #[dv d] #[], .func f2 g2 c2, .func (.func 36) #[dv d] #[], .func f3 g3 c3, .func (.func 36) #[dv d] #[]].map fun f => [f]) rfl (fun e he => by obtain ⟨n, _, rfl⟩ := List.mem_map.1 he; rfl) (fun h4 le4 hs4 => ?_)
 have le14 := le13.trans le4
 have hsv := sv6 (hs1.le (le2.trans (le3.trans le4))) (syncV h4 d) (hs2.le (le3.trans le4)) (syncV h4 d) (hs3.le le4) (syncV h4 d)
 refine K.l_nil ?_
 refine X.onE hKK ?_
 refine K.d_on rfl (fun KK hKK => ?_)
 refine K.l_call (Fx.cal rfl) rfl (Steps h4 d M D _ _ _ hs4 rfl (by show 6 ≤ 1000; decide) hsv hk (by simp only [sumK, writeS, syncS, wipeS]; omega)) (K.pp [5, 5, 5] rfl) rfl ?_
 rintro u h5 H' le5 ⟨rfl, M2, rfl⟩
 have le15 := le14.trans le5
 refine K.l_nil ?_
 refine X.onE hKK ?_
 refine K.d_pu rfl (fun _ _ => X.sg) rfl ?_
 refine K.d_nil ?_
 have le9 := le1.trans (le2.trans (le3.trans (le4.trans le5)))
 unfold resetQ
 by_cases h0 : (stepsQ (resetS L kept) D).1 = 0
 ·rw [if_neg (by omega)]
  have h0' : (stepsQ [writeS (resetM L kept true), syncS, wipeS (secs L.stream), syncS, writeS (resetM L kept false), syncS] D).1 = 0 := h0
  rw [h0']
  (repeat' first | refine X.rq ?_ | refine X.rc ?_ ?_ <;> intro hc <;> try omega)
  all_goals try (exfalso; omega)
  refine X.draw ([blk B6 30 [.int .i64 L.m.n, n64 (endQ L), .int .u64 0, .int .u32 kept, .bool false]]) [] (.pu 0 (.pu 1 (.pu 2 (.pu 3 (.pu 5 (.st 4 (.pu 7 (.pu 8 (.st 6 (.on 9 (.pu 10 (.pu 11 (.on 12 (.pu 13 (.pu 14 (.on 15 (.pu 16 (.pu 17 (.on 18 .nil))))))))))))))))))) ?_ (hQ := by repeat (first | with_reducible refine K.NoPanic.then ?_ | with_reducible refine K.NoPanic.inBlock ?_ | with_reducible exact K.post_noPanic _ _ | exact K.post_noPanic _ _ | exact K.QN_noPanic | exact K.postS_noPanic | exact K.postX_noPanic | exact K.RPX_noPanic))
  refine K.d_pu rfl (fun _ _ => X.mv) rfl ?_
  refine K.d_pu rfl (fun _ _ => X.mv) rfl ?_
  refine K.d_pu rfl (fun _ _ => X.mv) rfl ?_
  refine K.d_pu rfl (fun _ _ => X.mv) rfl ?_
  refine K.d_pu rfl (fun _ _ => X.fa) rfl ?_
  refine K.d_st rfl (K.p_loadM (vs := masV (resetM L kept false)) (Fx.agg rfl) rfl (K.cels_own (pre := []) (cs := masV (resetM L kept false)) (post := []) 0 rfl rfl) (Fx.sz rfl) rfl) rfl ?_
  refine K.d_pu rfl (fun _ _ => X.nc) rfl ?_
  refine K.d_pu rfl (fun _ _ => X.fa) rfl ?_
  refine K.d_st rfl X.ld rfl ?_
  refine K.d_on rfl (fun KK hKK => ?_)
  refine K.WL.perm (K.pp [5] rfl) ?_
  refine K.l_storeN (pre := [dv d]) (cs := masV L.m) (us := masV (resetM L kept false)) (post := [.slice so L.stream.length sc, bufV ar L.starts.length kr, n64 L.durable]) (Fx.sz rfl) rfl rfl rfl rfl rfl (K.Free.zero _) ?_
  simp only [List.cons_append, List.nil_append]
  refine K.l_nil ?_
  refine X.onE hKK ?_
  refine K.d_pu rfl (fun _ _ => X.nc) rfl ?_
  refine K.d_pu rfl (fun _ _ => X.fa) rfl ?_
  refine K.d_on rfl (fun KK hKK => ?_)
  refine X.sto ?_
  refine K.l_nil ?_
  refine X.onE hKK ?_
  refine K.d_pu rfl (fun _ _ => X.nc) rfl ?_
  refine K.d_pu rfl (fun _ _ => X.fa) rfl ?_
  refine K.d_on rfl (fun KK hKK => ?_)
  refine X.sto ?_
  refine K.l_nil ?_
  refine X.onE hKK ?_
  refine K.d_pu rfl (fun _ _ => X.nc) rfl ?_
  refine K.d_pu rfl (fun _ _ => X.fa) rfl ?_
  refine K.d_on rfl (fun KK hKK => ?_)
  refine X.sto ?_
  refine K.l_nil ?_
  refine X.onE hKK ?_
  refine K.d_nil ?_
  (repeat' first | refine X.rq ?_ | refine X.rc ?_ ?_ <;> intro hc <;> try omega)
  refine K.AT.perm (K.pp [4, 4, 4, 4] rfl) ?_
  refine K.AT.drop (K.AT.drop (K.AT.drop (K.AT.drop ?_)))
  refine K.AT.nilBuf 27 1 ?_
  refine K.AT.allNil ?_
  refine K.AT.perm (K.pp [2] rfl) ?_
  exact K.done (vs := [.int .i64 0]) (by first | exact Or.inl rfl | exact Or.inr rfl) rfl le9 (H' := [_, _, _, _, _, _]) rfl ⟨rfl, M2, ⟨.slice none 0 0, all [], none, 0⟩, .inr ⟨none, rfl, .inl ⟨_, _, rfl, rfl⟩, rfl⟩, rfl⟩
 ·rw [if_pos h0]
  have h0' : ¬ (stepsQ [writeS (resetM L kept true), syncS, wipeS (secs L.stream), syncS, writeS (resetM L kept false), syncS] D).1 = 0 := h0
  (repeat' first | refine X.rq ?_ | refine X.rc ?_ ?_ <;> intro hc <;> try omega)
  all_goals try (exfalso; omega)
  refine K.AT.perm (K.pp [3, 3, 3, 3, 3] rfl) ?_
  exact K.doneC (vs := [.int .i64 _]) (by first | exact Or.inl rfl | exact Or.inr rfl) (.tmp rfl .nil) le9 (D := [_, _]) (H' := [_, _, _, _, _, _]) rfl ⟨rfl, M2, ⟨.slice so L.stream.length sc, sA, ar, kr⟩, hs.le le9, rfl⟩
end Go.Proofs.YtmcdaegaopfihaaGreat.Wl
